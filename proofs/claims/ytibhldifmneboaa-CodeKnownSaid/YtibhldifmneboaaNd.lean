/- The plain side of the bytes of values: nodes, how one is read, how a value is read. -/
import Derived.Test.YtibhldifmneboaaPl
import Derived.Test.YtibhldifmneboaaRe
namespace Go.Proofs.Ytibhldifmneboaa.Cd
open Go.Proofs.Ytibhldifmneboaa.Rd (mapOut)

/-- a node -/
structure Nd where
  kind : Nat := 0
  kids : Nat := 0
  int : Int := 0
  text : ByteArray := ⟨#[]⟩
  num : Nat × Nat := (0, 0)

/-- a node, its kind's byte having been read, behind nodes of that size -/
def node1 (size k : Nat) (r : List UInt8) : Out Nd :=
  if k = 0 then .ok {} 1
  else if k = 1 then
    match r with
    | [] => .no 1 4
    | b :: _ => if 1 < b.toNat then .no 1 3 else .ok { kind := 1, int := b.toNat } 2
  else if k = 2 then
    match number r with
    | .no a e => .no (1 + a) e
    | .ok m q => .ok { kind := 2, int := Bt.unzig m } (1 + q)
  else if k = 3 then
    match number r with
    | .no a e => .no (1 + a) e
    | .ok m q =>
      if 4095 - size < m then .no 1 2
      else
        match bytesR m (r.drop q) with
        | .no a e => .no (1 + q + a) e
        | .ok s j => .ok { kind := 3, text := s } (1 + q + j)
  else if k = 4 then
    match fineBits Pl.fineB r with
    | .no a e => .no (1 + a) e
    | .ok z j => .ok { kind := 4, num := z } (1 + j)
  else if k = 5 then
    match number r with
    | .no a e => .no (1 + a) e
    | .ok m q => if 1024 < m then .no 1 2 else .ok { kind := 5, kids := m } (1 + q)
  else .no 0 3

/-- a value: 'todo' nodes are still to come; those ahead are 'acc', of that size, and took q bytes -/
def valGo : Nat → Nat → List Nd → Nat → Nat → List UInt8 → Out (List Nd)
  | 0, q, _, _, _, _ => .no q 2
  | fuel + 1, q, acc, size, todo, l =>
    if todo = 0 then .ok acc q
    else
      match l with
      | [] => .no q 4
      | c :: r =>
        if acc.length = 1024 ∨ 4096 < size + 1 then .no q 2
        else
          match node1 size c.toNat r with
          | .no a e => .no (q + a) e
          | .ok x k => valGo fuel (q + k) (acc ++ [x]) (size + 1 + x.text.size) (todo - 1 + x.kids) ((c :: r).drop k)
def value (l : List UInt8) : Out (List Nd) := valGo 1025 0 [] 0 1 l

theorem valGo_0 (f q : Nat) (acc : List Nd) (sz : Nat) (l : List UInt8) : valGo (f + 1) q acc sz 0 l = .ok acc q := by
  cases l <;> simp [valGo]
theorem valGo_nil (f q : Nat) (acc : List Nd) (sz td : Nat) (h : 0 < td) : valGo (f + 1) q acc sz td [] = .no q 4 := by
  rw [valGo, if_neg (by omega)]
theorem valGo_full (f q : Nat) (acc : List Nd) (sz td : Nat) (h : 0 < td) (c : UInt8) (r : List UInt8) (hf : acc.length = 1024 ∨ 4096 < sz + 1) : valGo (f + 1) q acc sz td (c :: r) = .no q 2 := by
  rw [valGo, if_neg (by omega), if_pos hf]
theorem valGo_no {f q : Nat} {acc : List Nd} {sz td : Nat} (h : 0 < td) {c : UInt8} {r : List UInt8} (hf : ¬ (acc.length = 1024 ∨ 4096 < sz + 1)) {a : Nat} {e : Int} (hn : node1 sz c.toNat r = .no a e) : valGo (f + 1) q acc sz td (c :: r) = .no (q + a) e := by
  rw [valGo, if_neg (by omega), if_neg hf, hn]
theorem valGo_ok {f q : Nat} {acc : List Nd} {sz td : Nat} (h : 0 < td) {c : UInt8} {r : List UInt8} (hf : ¬ (acc.length = 1024 ∨ 4096 < sz + 1)) {x : Nd} {k : Nat} (hn : node1 sz c.toNat r = .ok x k) :
    valGo (f + 1) q acc sz td (c :: r) = valGo f (q + k) (acc ++ [x]) (sz + 1 + x.text.size) (td - 1 + x.kids) ((c :: r).drop k) := by
  rw [valGo, if_neg (by omega), if_neg hf, hn]

theorem drop_cons {xs : List UInt8} {i : Nat} {u : UInt8} (h : xs[i]? = some u) : xs.drop i = u :: xs.drop (i + 1) := by
  obtain ⟨hl, e⟩ := List.getElem?_eq_some_iff.1 h
  rw [List.drop_eq_getElem_cons hl, e]
theorem valGo_next {xs : List UInt8} {p q f : Nat} {acc : List Nd} {sz td : Nat} {u : UInt8} {x : Nd} {j : Nat} {R : Out (List Nd)} (hf : 1025 - acc.length = f + 1) (h : 0 < td) (hu : xs[p + q]? = some u) (full : ¬ (acc.length = 1024 ∨ 4096 < sz + 1))
    (hN : node1 sz u.toNat (xs.drop (p + q + 1)) = .ok x j) (E : valGo (1025 - acc.length) q acc sz td (xs.drop (p + q)) = R) :
    valGo (1025 - (acc ++ [x]).length) (q + j) (acc ++ [x]) (sz + 1 + x.text.size) (td - 1 + x.kids) (xs.drop (p + (q + j))) = R := by
  rw [hf, drop_cons hu, valGo_ok h full hN, ← drop_cons hu, List.drop_drop] at E
  rw [List.length_append, List.length_singleton, ← Nat.add_assoc]
  have e : 1025 - (acc.length + 1) = f := by omega
  rw [e]
  exact E
theorem valGo_err {xs : List UInt8} {p q f : Nat} {acc : List Nd} {sz td : Nat} {u : UInt8} {a : Nat} {er : Int} {R : Out (List Nd)} (hf : 1025 - acc.length = f + 1) (h : 0 < td) (hu : xs[p + q]? = some u) (full : ¬ (acc.length = 1024 ∨ 4096 < sz + 1))
    (hN : node1 sz u.toNat (xs.drop (p + q + 1)) = .no a er) (E : valGo (1025 - acc.length) q acc sz td (xs.drop (p + q)) = R) : R = .no (q + a) er := by
  rw [hf, drop_cons hu, valGo_no h full hN] at E
  exact E.symm
theorem valGo_many {xs : List UInt8} {p q f : Nat} {acc : List Nd} {sz td : Nat} {u : UInt8} {R : Out (List Nd)} (hf : 1025 - acc.length = f + 1) (h : 0 < td) (hu : xs[p + q]? = some u) (full : acc.length = 1024 ∨ 4096 < sz + 1)
    (E : valGo (1025 - acc.length) q acc sz td (xs.drop (p + q)) = R) : R = .no q 2 := by
  rw [hf, drop_cons hu, valGo_full _ _ _ _ _ h _ _ full] at E
  exact E.symm

theorem bytesR_no {m : Nat} {l : List UInt8} {a : Nat} {er : Int} (h : bytesR m l = .no a er) : er = 4 := by
  unfold bytesR at h
  split at h
  · injection h with h1 h2; exact h2.symm
  · cases h
theorem fine_no {f : Nat → Nat → Bool} {l : List UInt8} {a : Nat} {er : Int} (h : fineBits f l = .no a er) : (er != 0) = true := by
  unfold fineBits at h
  split at h
  · injection h with h1 h2; subst h2; rfl
  · split at h
    · cases h
    · injection h with h1 h2; subst h2; rfl
theorem bytesR_ok {m : Nat} {l : List UInt8} {s : ByteArray} {j : Nat} (h : bytesR m l = .ok s j) : j = m ∧ m ≤ l.length ∧ s = ⟨(l.take m).toArray⟩ ∧ s.size = m := by
  unfold bytesR at h
  split at h
  · cases h
  · injection h with h1 h2
    subst h1 h2
    refine ⟨rfl, by omega, rfl, ?_⟩
    show (List.take m l).toArray.size = m
    simp; omega

theorem node1_ok {size k : Nat} {r : List UInt8} {x : Nd} {j : Nat} (hs : size + 1 ≤ 4096) (h : node1 size k r = .ok x j) : 1 ≤ j ∧ j ≤ r.length + 1 ∧ size + 1 + x.text.size ≤ 4096 ∧ x.kids ≤ 1024 := by
  have e0 : (⟨#[]⟩ : ByteArray).size = 0 := rfl
  unfold node1 at h
  split at h
  · injection h with h1 h2; subst h1 h2; simp [e0]; omega
  split at h
  · split at h
    · cases h
    · split at h
      · cases h
      · injection h with h1 h2; subst h1 h2; simp [e0]; omega
  split at h
  · split at h
    · cases h
    · rename_i m q hn
      have := number_ok hn
      injection h with h1 h2; subst h1 h2; simp [e0]; omega
  split at h
  · split at h
    · cases h
    · rename_i m q hn
      have := number_ok hn
      split at h
      · cases h
      · split at h
        · cases h
        · rename_i s i hb
          obtain ⟨b1, b2, b3, b4⟩ := bytesR_ok hb
          rw [List.length_drop] at b2
          injection h with h1 h2; subst h1 h2; simp [b4]; omega
  split at h
  · split at h
    · cases h
    · rename_i z i hb
      unfold fineBits at hb
      split at hb
      · cases hb
      · split at hb
        · injection hb with h3 h4
          injection h with h1 h2; subst h1 h2; simp [e0]; omega
        · cases hb
  split at h
  · split at h
    · cases h
    · rename_i m q hn
      have := number_ok hn
      split at h
      · cases h
      · injection h with h1 h2; subst h1 h2; simp [e0]; omega
  · cases h

end Go.Proofs.Ytibhldifmneboaa.Cd
