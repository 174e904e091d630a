/- The plain side of the bytes of numbers: how a number from 0 on is written and read, in Lean alone. -/
import Derived.Below
namespace Go.Proofs.Ytibhldifmneboaa.Cd

/-- what a reader comes to: the value and how many bytes it took; or the place (from where it began) and the error -/
inductive Out (α : Type) where
  | ok (x : α) (k : Nat)
  | no (at_ : Nat) (err : Int)

/-- a number, from its i-th byte on, acc being what the bytes ahead say -/
def numGo (i acc : Nat) : List UInt8 → Out Nat
  | [] => .no i 4
  | c :: r =>
    if (c = 0 ∧ 0 < i) ∨ (i = 9 ∧ c ≠ 1) then .no i 3
    else if c.toNat < 128 then .ok (acc + c.toNat % 128 * 128 ^ i) (i + 1)
    else numGo (i + 1) (acc + c.toNat % 128 * 128 ^ i) r
def number (l : List UInt8) : Out Nat := numGo 0 0 l

theorem numGo_ok : ∀ (l : List UInt8) (i acc : Nat) {v k : Nat}, i ≤ 9 → acc < 128 ^ i → numGo i acc l = .ok v k → v < 18446744073709551616 ∧ i < k ∧ k ≤ i + l.length
  | [], _, _, _, _, _, _, h => by simp [numGo] at h
  | c :: r, i, acc, v, k, hi, ha, h => by
    have hc : c.toNat < 256 := c.toNat_lt
    rw [numGo] at h
    by_cases bad : (c = 0 ∧ 0 < i) ∨ (i = 9 ∧ c ≠ 1)
    · rw [if_pos bad] at h; cases h
    · rw [if_neg bad] at h
      have h9 : i = 9 → c.toNat = 1 := fun h9 => by
        rcases Classical.em (c = 1) with k | k
        · rw [k]; rfl
        · exact absurd (.inr ⟨h9, k⟩) bad
      have hb : acc + c.toNat % 128 * 128 ^ i < 18446744073709551616 := by
        rcases (by omega : i = 0 ∨ i = 1 ∨ i = 2 ∨ i = 3 ∨ i = 4 ∨ i = 5 ∨ i = 6 ∨ i = 7 ∨ i = 8 ∨ i = 9) with rfl | rfl | rfl | rfl | rfl | rfl | rfl | rfl | rfl | rfl
        all_goals simp only [Nat.reducePow] at ha ⊢
        all_goals first | omega | (have := h9 rfl; omega)
      by_cases small : c.toNat < 128
      · rw [if_pos small] at h
        injection h with h1 h2
        subst h1 h2
        exact ⟨hb, by omega, by simp⟩
      · rw [if_neg small] at h
        have hq : i ≤ 8 := by
          rcases Nat.lt_or_ge 8 i with k | k
          · have := h9 (by omega); omega
          · exact k
        have hn : acc + c.toNat % 128 * 128 ^ i < 128 ^ (i + 1) := by
          rw [Nat.pow_succ]
          have : c.toNat % 128 * 128 ^ i ≤ 127 * 128 ^ i := Nat.mul_le_mul_right _ (by omega)
          omega
        obtain ⟨h1, h2, h3⟩ := numGo_ok r (i + 1) _ (by omega) hn h
        exact ⟨h1, by omega, by simp; omega⟩

theorem number_ok {l : List UInt8} {v k : Nat} (h : number l = .ok v k) : v < 18446744073709551616 ∧ 0 < k ∧ k ≤ l.length := by
  obtain ⟨h1, h2, h3⟩ := numGo_ok l 0 0 (by omega) (by omega) h
  exact ⟨h1, h2, by omega⟩

theorem numGo_no : ∀ (l : List UInt8) (i acc : Nat) {a : Nat} {er : Int}, numGo i acc l = .no a er → (er = 3 ∨ er = 4) ∧ i ≤ a ∧ (er = 4 → a = i + l.length) ∧ (er = 3 → a < i + l.length)
  | [], i, acc, a, er, h => by
    simp only [numGo] at h
    injection h with h1 h2
    subst h1 h2
    exact ⟨.inr rfl, Nat.le_refl _, (fun _ => by simp), (fun h => absurd h (by decide))⟩
  | c :: r, i, acc, a, er, h => by
    rw [numGo] at h
    by_cases bad : (c = 0 ∧ 0 < i) ∨ (i = 9 ∧ c ≠ 1)
    · rw [if_pos bad] at h
      injection h with h1 h2
      subst h1 h2
      exact ⟨.inl rfl, Nat.le_refl _, (fun h => absurd h (by decide)), (fun _ => by simp)⟩
    · rw [if_neg bad] at h
      by_cases small : c.toNat < 128
      · rw [if_pos small] at h; cases h
      · rw [if_neg small] at h
        obtain ⟨h1, h2, h3, h4⟩ := numGo_no r (i + 1) _ h
        exact ⟨h1, by omega, (fun e => by rw [h3 e, List.length_cons]; omega), (fun e => by have := h4 e; rw [List.length_cons]; omega)⟩
theorem number_no {l : List UInt8} {a : Nat} {er : Int} (h : number l = .no a er) : (er != 0) = true := by
  rcases (numGo_no l 0 0 h).1 with rfl | rfl <;> rfl
theorem number_at {l : List UInt8} {a : Nat} {er : Int} (h : number l = .no a er) : a ≤ l.length := by
  obtain ⟨h1, h2, h3, h4⟩ := numGo_no l 0 0 h
  rcases h1 with e | e
  · have := h4 e; omega
  · have := h3 e; omega

/-- behind q bytes -/
def Out.shift {α : Type} (q : Nat) : Out α → Out α
  | .ok x k => .ok x (q + k)
  | .no a e => .no (q + a) e
/-- so many bytes -/
def bytesR (k : Nat) (l : List UInt8) : Out ByteArray := if l.length < k then .no l.length 4 else .ok ⟨(l.take k).toArray⟩ k
/-- a text -/
def text (l : List UInt8) : Out ByteArray :=
  match number l with
  | .ok k q => (bytesR k (l.drop q)).shift q
  | .no a e => .no a e

/-- bytes as one number, those of most worth first -/
def be (l : List UInt8) : Nat := l.foldl (fun a u => a * 256 + u.toNat) 0
theorem be_snoc (l : List UInt8) (u : UInt8) : be (l ++ [u]) = be l * 256 + u.toNat := by simp [be]
theorem be_lt (l : List UInt8) : be l < 256 ^ l.length := by
  have key : ∀ (l : List UInt8) (a : Nat), l.foldl (fun a u => a * 256 + u.toNat) a < (a + 1) * 256 ^ l.length := by
    intro l
    induction l with
    | nil => intro a; simp
    | cons u l ih =>
      intro a
      have hu : u.toNat < 256 := u.toNat_lt
      simp only [List.foldl_cons, List.length_cons, Nat.pow_succ]
      refine Nat.lt_of_lt_of_le (ih _) ?_
      rw [Nat.mul_comm (256 ^ l.length) 256, ← Nat.mul_assoc]
      exact Nat.mul_le_mul_right _ (by omega)
  have := key l 0
  simpa [be] using this
/-- the halves behind i bytes of sixteen -/
def hiv (S : List UInt8) (i : Nat) : Nat := be ((S.take i).take 8)
def lov (S : List UInt8) (i : Nat) : Nat := be ((S.take i).drop 8)
theorem take_snoc {S : List UInt8} {i : Nat} {u : UInt8} (h : S[i]? = some u) : S.take (i + 1) = S.take i ++ [u] := by
  rw [List.take_add_one, h]; rfl
theorem hiv_step {S : List UInt8} {i : Nat} {u : UInt8} (h : S[i]? = some u) (h8 : i < 8) : hiv S (i + 1) = hiv S i * 256 + u.toNat ∧ lov S (i + 1) = lov S i ∧ hiv S i < 72057594037927936 := by
  have hl : (S.take i).length ≤ i := List.length_take_le _ _
  unfold hiv lov
  rw [take_snoc h]
  refine ⟨?_, ?_, ?_⟩
  · have e1 : (S.take i ++ [u]).take 8 = S.take i ++ [u] := List.take_of_length_le (by simp only [List.length_append, List.length_singleton]; omega)
    have e2 : (S.take i).take 8 = S.take i := List.take_of_length_le (by omega)
    rw [e1, e2, be_snoc]
  · have e1 : (S.take i ++ [u]).drop 8 = [] := List.drop_eq_nil_of_le (by simp only [List.length_append, List.length_singleton]; omega)
    have e2 : (S.take i).drop 8 = [] := List.drop_eq_nil_of_le (by omega)
    rw [e1, e2]
  · have e2 : (S.take i).take 8 = S.take i := List.take_of_length_le (by omega)
    rw [e2]
    refine Nat.lt_of_lt_of_le (be_lt _) ?_
    exact Nat.le_trans (Nat.pow_le_pow_right (by omega) (by omega : (S.take i).length ≤ 7)) (by decide)
theorem lov_step {S : List UInt8} {i : Nat} {u : UInt8} (h : S[i]? = some u) (h8 : 8 ≤ i) (h16 : i < 16) : lov S (i + 1) = lov S i * 256 + u.toNat ∧ hiv S (i + 1) = hiv S i ∧ lov S i < 72057594037927936 := by
  have hl : (S.take i).length = i := by rw [List.length_take]; have := (List.getElem?_eq_some_iff.1 h).1; omega
  unfold hiv lov
  rw [take_snoc h]
  refine ⟨?_, ?_, ?_⟩
  · rw [List.drop_append_of_le_length (by omega), be_snoc]
  · rw [List.take_append_of_le_length (by omega)]
  · refine Nat.lt_of_lt_of_le (be_lt _) ?_
    exact Nat.le_trans (Nat.pow_le_pow_right (by omega) (by rw [List.length_drop]; omega : ((S.take i).drop 8).length ≤ 7)) (by decide)
theorem hiv_lt (S : List UInt8) (i : Nat) : hiv S i < 18446744073709551616 := by
  refine Nat.lt_of_lt_of_le (be_lt _) ?_
  exact Nat.le_trans (Nat.pow_le_pow_right (by omega) (by rw [List.length_take]; omega : ((S.take i).take 8).length ≤ 8)) (by decide)
theorem lov_lt (S : List UInt8) (i : Nat) (hi : i ≤ 16) : lov S i < 18446744073709551616 := by
  refine Nat.lt_of_lt_of_le (be_lt _) ?_
  exact Nat.le_trans (Nat.pow_le_pow_right (by omega) (by rw [List.length_drop, List.length_take]; omega : ((S.take i).drop 8).length ≤ 8)) (by decide)

/-- finite, and no nought with a minus: of a float's bits -/
def fineBits (fine : Nat → Nat → Bool) (l : List UInt8) : Out (Nat × Nat) :=
  if l.length < 16 then .no l.length 4
  else if fine (hiv (l.take 16) 16) (lov (l.take 16) 16) = true then .ok (hiv (l.take 16) 16, lov (l.take 16) 16) 16
  else .no 0 20

/-- a number, written -/
def enc7 (n : Nat) : List UInt8 := if n < 128 then [UInt8.ofNat n] else UInt8.ofNat (n % 128 + 128) :: enc7 (n / 128)
termination_by n
decreasing_by omega
theorem enc7_small {n : Nat} (h : n < 128) : enc7 n = [UInt8.ofNat n] := by rw [enc7, if_pos h]
theorem enc7_big {n : Nat} (h : ¬ n < 128) : enc7 n = UInt8.ofNat (n % 128 + 128) :: enc7 (n / 128) := by rw [enc7, if_neg h]
theorem toNat_of {n : Nat} (h : n < 256) : (UInt8.ofNat n).toNat = n := by
  rw [UInt8.toNat_ofNat']; exact Nat.mod_eq_of_lt h

theorem enc7_len : ∀ (k n : Nat), n < 128 ^ (k + 1) → (enc7 n).length ≤ k + 1
  | 0, n, h => by rw [enc7_small (by simpa using h)]; simp
  | k + 1, n, h => by
    by_cases c : n < 128
    · rw [enc7_small c]; simp
    · rw [enc7_big c, List.length_cons]
      have := enc7_len k (n / 128) (by rw [Nat.div_lt_iff_lt_mul (by omega)]; rw [Nat.pow_succ] at h; exact h)
      omega
theorem enc7_len10 {n : Nat} (h : n < 18446744073709551616) : (enc7 n).length ≤ 10 := enc7_len 9 n (Nat.lt_trans h (by decide))

/-- what was written is read as it was, whatever stands behind it -/
theorem numGo_enc7 (rest : List UInt8) (n i acc : Nat) (h : n * 128 ^ i < 18446744073709551616) (h0 : 0 < i → 0 < n) :
    numGo i acc (enc7 n ++ rest) = .ok (acc + n * 128 ^ i) (i + (enc7 n).length) := by
  induction n using Nat.strongRecOn generalizing i acc with
  | ind n ih =>
    have h9 : i = 9 → n ≤ 1 := fun e => by subst e; omega
    by_cases c : n < 128
    · rw [enc7_small c]
      have ht := toNat_of (n := n) (by omega)
      simp only [List.cons_append, List.nil_append, numGo, ht, List.length_singleton]
      rw [if_neg, if_pos c, Nat.mod_eq_of_lt c]
      rintro (⟨e, hi⟩ | ⟨e, hne⟩)
      · have := h0 hi
        rw [e] at ht
        have : n = 0 := by rw [← ht]; rfl
        omega
      · have hn1 : n = 1 := by have := h9 e; have := h0 (by omega); omega
        subst hn1
        exact hne rfl
    · rw [enc7_big c]
      have ht := toNat_of (n := n % 128 + 128) (by omega)
      have hi9 : ¬ i = 9 := fun e => by have := h9 e; omega
      simp only [List.cons_append, numGo, ht, List.length_cons]
      rw [if_neg, if_neg (by omega)]
      · have hd : n / 128 * 128 ^ (i + 1) < 18446744073709551616 := by
          rw [Nat.pow_succ, Nat.mul_comm (128 ^ i) 128, ← Nat.mul_assoc]
          exact Nat.lt_of_le_of_lt (Nat.mul_le_mul_right _ (by omega)) h
        rw [ih (n / 128) (by omega) (i + 1) _ hd (fun _ => by omega)]
        have e1 : (n % 128 + 128) % 128 = n % 128 := by omega
        rw [e1]
        congr 1
        · rw [Nat.pow_succ, Nat.mul_comm (128 ^ i) 128, ← Nat.mul_assoc, Nat.add_assoc, ← Nat.add_mul]
          congr 2
          omega
        · omega
      · rintro (⟨e, _⟩ | ⟨e, _⟩)
        · rw [e] at ht
          have h0' : (0 : UInt8).toNat = 0 := rfl
          omega
        · exact hi9 e
theorem number_enc7 (n : Nat) (h : n < 18446744073709551616) (rest : List UInt8) : number (enc7 n ++ rest) = .ok n (enc7 n).length := by
  have := numGo_enc7 rest n 0 0 (by omega) (by omega)
  simpa [number] using this

end Go.Proofs.Ytibhldifmneboaa.Cd
