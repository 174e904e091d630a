/- Plain: what is read as a value is right, and its bytes are just those that were taken; where a reading fails. -/
import Derived.Test.YtibhldifmneboaaPw
set_option linter.unusedVariables false
set_option linter.unusedSimpArgs false
namespace Go.Proofs.Ytibhldifmneboaa
open Go Go.RowKit Cd Rd Pl
namespace Pu

theorem ofNat_toNat (c : UInt8) : UInt8.ofNat c.toNat = c := by
  apply UInt8.toNat_inj.1
  exact toNat_of c.toNat_lt

theorem numGo_back : ∀ (l : List UInt8) (i acc : Nat) {v k : Nat}, numGo i acc l = .ok v k → ∃ m, v = acc + m * 128 ^ i ∧ (0 < i → 0 < m) ∧ i < k ∧ l.take (k - i) = enc7 m ∧ k - i ≤ l.length
  | [], i, acc, v, k, h => by simp [numGo] at h
  | c :: r, i, acc, v, k, h => by
    have hc : c.toNat < 256 := c.toNat_lt
    rw [numGo] at h
    by_cases bad : (c = 0 ∧ 0 < i) ∨ (i = 9 ∧ c ≠ 1)
    · rw [if_pos bad] at h; cases h
    · rw [if_neg bad] at h
      by_cases small : c.toNat < 128
      · rw [if_pos small] at h
        injection h with h1 h2
        subst h1 h2
        refine ⟨c.toNat, by rw [Nat.mod_eq_of_lt small], fun hi => ?_, by omega, ?_, by simp⟩
        · rcases Nat.eq_zero_or_pos c.toNat with z | z
          · exact absurd (.inl ⟨UInt8.toNat_inj.1 z, hi⟩) bad
          · exact z
        · rw [enc7_small small, show i + 1 - i = 1 by omega, ofNat_toNat]; rfl
      · rw [if_neg small] at h
        obtain ⟨m', h1, h2, h3, h4, h5⟩ := numGo_back r (i + 1) _ h
        have hm := h2 (by omega)
        refine ⟨c.toNat % 128 + 128 * m', ?_, fun _ => by omega, by omega, ?_, by rw [List.length_cons]; omega⟩
        · rw [h1, Nat.pow_succ, Nat.add_mul, Nat.add_assoc]
          congr 2
          rw [Nat.mul_comm (128 ^ i) 128, ← Nat.mul_assoc, Nat.mul_comm m' 128]
        · rw [enc7_big (by omega)]
          have e1 : (c.toNat % 128 + 128 * m') % 128 + 128 = c.toNat := by omega
          have e2 : (c.toNat % 128 + 128 * m') / 128 = m' := by omega
          rw [e1, e2, ofNat_toNat, ← h4]
          have e3 : k - i = (k - (i + 1)) + 1 := by omega
          rw [e3, List.take_succ_cons]
theorem number_back {l : List UInt8} {m q : Nat} (h : number l = .ok m q) : l.take q = enc7 m := by
  obtain ⟨m', h1, _, _, h4, _⟩ := numGo_back l 0 0 h
  have : m = m' := by simpa using h1
  rw [this]
  simpa using h4

theorem zig_unzig {m : Nat} (h : m < 18446744073709551616) : zig (Bt.unzig m) = m := by
  unfold Bt.unzig zig
  rcases (by omega : m % 2 = 0 ∨ m % 2 = 1) with e | e
  · rw [if_pos e, if_pos (by omega)]; omega
  · rw [if_neg (by omega), if_neg (by omega)]; omega
theorem unzig_bound {m : Nat} (h : m < 18446744073709551616) : -9223372036854775808 ≤ Bt.unzig m ∧ Bt.unzig m < 9223372036854775808 := by
  unfold Bt.unzig
  split <;> omega

theorem b8_be {l : List UInt8} (h : l.length = 8) : b8 (be l) 8 = l := by
  match l, h with
  | [a0, a1, a2, a3, a4, a5, a6, a7], _ =>
    have h0 := a0.toNat_lt; have h1 := a1.toNat_lt; have h2 := a2.toNat_lt; have h3 := a3.toNat_lt
    have h4 := a4.toNat_lt; have h5 := a5.toNat_lt; have h6 := a6.toNat_lt; have h7 := a7.toNat_lt
    have key : ∀ (N : Nat) (a : UInt8), N % 256 = a.toNat → UInt8.ofNat (N % 256) = a := fun N a e => by rw [e]; exact ofNat_toNat a
    simp only [be, List.foldl_cons, List.foldl_nil, b8, List.range_succ, List.range_zero, List.nil_append, List.map_append, List.map_cons, List.map_nil, List.cons_append]
    refine List.cons_eq_cons.2 ⟨key _ _ ?_, List.cons_eq_cons.2 ⟨key _ _ ?_, List.cons_eq_cons.2 ⟨key _ _ ?_, List.cons_eq_cons.2 ⟨key _ _ ?_, List.cons_eq_cons.2 ⟨key _ _ ?_, List.cons_eq_cons.2 ⟨key _ _ ?_, List.cons_eq_cons.2 ⟨key _ _ ?_, List.cons_eq_cons.2 ⟨key _ _ ?_, rfl⟩⟩⟩⟩⟩⟩⟩⟩
    all_goals simp only [Nat.reduceMul, Nat.reduceSub, Nat.reducePow]
    all_goals omega

theorem fine_back {r : List UInt8} {z : Nat × Nat} {j : Nat} (h : fineBits fineB r = .ok z j) : j = 16 ∧ 16 ≤ r.length ∧ r.take 16 = num16 z.1 z.2 ∧ fineB z.1 z.2 = true ∧ z.1 < 18446744073709551616 ∧ z.2 < 18446744073709551616 := by
  unfold fineBits at h
  split at h
  · cases h
  · rename_i hl
    split at h
    · rename_i hf
      injection h with h1 h2
      subst h1 h2
      refine ⟨rfl, by omega, ?_, hf, hiv_lt _ _, lov_lt _ _ (Nat.le_refl _)⟩
      have e1 : hiv (r.take 16) 16 = be (r.take 8) := by
        unfold hiv
        rw [List.take_take, List.take_take]
        rfl
      have e2 : lov (r.take 16) 16 = be ((r.drop 8).take 8) := by
        unfold lov
        rw [List.take_take, List.drop_take]
        rfl
      rw [e1, e2]
      unfold num16
      rw [b8_be (by rw [List.length_take]; omega), b8_be (by rw [List.length_take, List.length_drop]; omega)]
      have := List.take_append_drop 8 (r.take 16)
      rw [List.take_take, List.drop_take] at this
      exact this.symm
    · cases h

theorem node1_back {size : Nat} {c : UInt8} {r : List UInt8} {x : Nd} {j : Nat} (hs : size + 1 ≤ 4096) (h : node1 size c.toNat r = .ok x j) : (c :: r).take j = put1 x ∧ Nd.good x := by
  have hkc : ∀ n, c.toNat = n → [c] = [UInt8.ofNat n] := fun n e => by rw [← e, ofNat_toNat]
  unfold node1 at h
  split at h
  · rename_i k0
    injection h with h1 h2; subst h1 h2
    exact ⟨hkc 0 k0, .inl rfl⟩
  split at h
  · rename_i k1
    split at h
    · cases h
    · rename_i b r'
      split at h
      · cases h
      · rename_i hb
        injection h with h1 h2; subst h1 h2
        refine ⟨?_, .inr (.inl ⟨b.toNat, by omega, rfl⟩)⟩
        show [c, b] = put1 _
        have e1 : put1 { kind := 1, int := (b.toNat : Int) } = [UInt8.ofNat 1] ++ [UInt8.ofNat b.toNat] := by simp [put1]
        rw [e1, ← hkc 1 k1, ofNat_toNat]
        rfl
  split at h
  · rename_i k2
    split at h
    · cases h
    · rename_i m q hn
      have hm := number_ok hn
      injection h with h1 h2; subst h1 h2
      have hb := unzig_bound hm.1
      refine ⟨?_, .inr (.inr (.inl ⟨Bt.unzig m, hb.1, hb.2, rfl⟩))⟩
      have e1 : put1 { kind := 2, int := Bt.unzig m } = [UInt8.ofNat 2] ++ enc7 (zig (Bt.unzig m)) := by simp [put1]
      rw [e1, ← hkc 2 k2, zig_unzig hm.1, ← number_back hn, Nat.add_comm 1 q, List.take_succ_cons]
      rfl
  split at h
  · rename_i k3
    split at h
    · cases h
    · rename_i m q hn
      have hm := number_ok hn
      split at h
      · cases h
      · rename_i hlong
        split at h
        · cases h
        · rename_i s i hb
          obtain ⟨b1, b2, b3, b4⟩ := bytesR_ok hb
          injection h with h1 h2; subst h1 h2
          refine ⟨?_, .inr (.inr (.inr (.inl ⟨s, by omega, rfl⟩)))⟩
          have e1 : put1 { kind := 3, text := s } = [UInt8.ofNat 3] ++ putT s := by simp [put1]
          have e2 : putT s = enc7 m ++ (r.drop q).take m := by
            unfold putT
            rw [b4, b3]
          rw [e1, ← hkc 3 k3, e2, ← number_back hn, b1]
          have e3 : 1 + q + m = (q + m) + 1 := by omega
          rw [e3, List.take_succ_cons, List.take_add]
          rfl
  split at h
  · rename_i k4
    split at h
    · cases h
    · rename_i z i hb
      obtain ⟨b1, b2, b3, b4, b5, b6⟩ := fine_back hb
      injection h with h1 h2; subst h1 h2
      refine ⟨?_, .inr (.inr (.inr (.inr (.inl ⟨z, b4, b5, b6, rfl⟩))))⟩
      have e1 : put1 { kind := 4, num := z } = [UInt8.ofNat 4] ++ num16 z.1 z.2 := by simp [put1]
      rw [e1, ← hkc 4 k4, ← b3, b1]
      rfl
  split at h
  · rename_i k5
    split at h
    · cases h
    · rename_i m q hn
      have hm := number_ok hn
      split at h
      · cases h
      · injection h with h1 h2; subst h1 h2
        refine ⟨?_, .inr (.inr (.inr (.inr (.inr ⟨m, by omega, rfl⟩))))⟩
        have e1 : put1 { kind := 5, kids := m } = [UInt8.ofNat 5] ++ enc7 m := by simp [put1]
        rw [e1, ← hkc 5 k5, ← number_back hn, Nat.add_comm 1 q, List.take_succ_cons]
        rfl
  · cases h

theorem opn_app {l : List Nd} {y : Nd} {j : Nat} (h : j ≤ l.length) : opn (l ++ [y]) j = opn l j := by
  unfold opn
  rw [List.take_append_of_le_length h]
theorem opn_end (l : List Nd) (y : Nd) : opn (l ++ [y]) (l ++ [y]).length = opn l l.length - 1 + y.kids := by
  rw [List.length_append, List.length_singleton, opn_s (x := y) (by simp), opn_app (Nat.le_refl _)]

theorem valGo_back : ∀ (f q : Nat) (acc : List Nd) (sz td : Nat) (l : List UInt8) {x : List Nd} {k : Nat}, (∀ y ∈ acc, Nd.good y) → acc.length ≤ 1024 → (acc.map szN).sum = sz → sz ≤ 4096 → (td : Int) = opn acc acc.length → (∀ j, j < acc.length → 0 < opn acc j) →
    valGo f q acc sz td l = .ok x k → Right x ∧ q ≤ k ∧ k - q ≤ l.length ∧ putL x = putL acc ++ l.take (k - q)
  | 0, q, acc, sz, td, l, x, k, hg, hl, hz, hz4, htd, ho, h => by simp [valGo] at h
  | f + 1, q, acc, sz, td, l, x, k, hg, hl, hz, hz4, htd, ho, h => by
    rcases Nat.eq_zero_or_pos td with rfl | htp
    · rw [valGo_0] at h
      injection h with h1 h2; subst h1 h2
      refine ⟨⟨hg, hl, ?_, ho, htd.symm, by have e : (acc.map fun x => szN x).sum = sz := hz; omega⟩, Nat.le_refl _, by omega, by simp⟩
      rcases Nat.eq_zero_or_pos acc.length with e | e
      · rw [e, opn_0] at htd; omega
      · exact e
    · cases l with
      | nil => rw [valGo_nil _ _ _ _ _ htp] at h; cases h
      | cons c r =>
        by_cases full : acc.length = 1024 ∨ 4096 < sz + 1
        · rw [valGo_full _ _ _ _ _ htp _ _ full] at h; cases h
        · cases hN : node1 sz c.toNat r with
          | no a' er' => rw [valGo_no htp full hN] at h; cases h
          | ok y j =>
            rw [valGo_ok htp full hN] at h
            have hb := node1_back (by omega) hN
            obtain ⟨o1, o2, o3, o4⟩ := node1_ok (by omega) hN
            have := valGo_back f _ _ _ _ _ (fun z hz => by
              rcases List.mem_append.1 hz with m | m
              · exact hg z m
              · rw [List.mem_singleton.1 m]; exact hb.2) (by rw [List.length_append]; simp; omega) (by
              rw [List.map_append, List.sum_append, hz]; simp [szN]; omega) (by omega) (by
              rw [opn_end, ← htd]; omega) (by
              intro i hi
              rw [List.length_append, List.length_singleton] at hi
              rcases Nat.lt_or_ge i acc.length with hi' | hi'
              · rw [opn_app (by omega)]; exact ho i hi'
              · have : i = acc.length := by omega
                rw [this, opn_app (Nat.le_refl _), ← htd]; omega) h
            obtain ⟨r1, r2, r3, r4⟩ := this
            rw [List.length_drop, List.length_cons] at r3
            refine ⟨r1, by omega, by rw [List.length_cons]; omega, ?_⟩
            rw [r4, putL_snoc, ← hb.1, List.append_assoc]
            congr 1
            have e : k - q = j + (k - (q + j)) := by omega
            rw [e, List.take_add]
theorem value_back {l : List UInt8} {x : List Nd} {k : Nat} (h : value l = .ok x k) : Right x ∧ k ≤ l.length ∧ putL x = l.take k := by
  obtain ⟨h1, h2, h3, h4⟩ := valGo_back _ _ _ _ _ _ (by simp) (by simp) (by simp) (by omega) (by rw [List.length_nil, opn_0]; rfl) (by simp) h
  exact ⟨h1, by omega, by simpa [putL] using h4⟩

/-! ### where a reading fails -/
theorem number_end {l : List UInt8} {a : Nat} {er : Int} (h : number l = .no a er) : a ≤ l.length ∧ (a = l.length ↔ er = 4) := by
  obtain ⟨h1, h2, h3, h4⟩ := numGo_no l 0 0 h
  rcases h1 with e | e
  · have := h4 e; subst e; omega
  · have := h3 e; subst e; omega
theorem node1_end {size k : Nat} {r : List UInt8} {a : Nat} {er : Int} (h : node1 size k r = .no a er) : a ≤ r.length + 1 ∧ (a = r.length + 1 ↔ er = 4) := by
  unfold node1 at h
  split at h
  · cases h
  split at h
  · split at h
    · injection h with h1 h2; subst h1 h2; simp
    · split at h
      · injection h with h1 h2; subst h1 h2; simp
      · cases h
  split at h
  · split at h
    · rename_i hn; have := number_end hn; injection h with h1 h2; subst h1 h2; omega
    · cases h
  split at h
  · split at h
    · rename_i hn; have := number_end hn; injection h with h1 h2; subst h1 h2; omega
    · rename_i m q hn
      have hq := number_ok hn
      split at h
      · injection h with h1 h2; subst h1 h2; omega
      · split at h
        · rename_i hb
          have e := bytesR_no hb
          unfold bytesR at hb
          split at hb
          · injection hb with h3 h4
            rw [List.length_drop] at h3
            injection h with h1 h2; subst h1 h2
            omega
          · cases hb
        · cases h
  split at h
  · split at h
    · rename_i hb
      unfold fineBits at hb
      split at hb
      · injection hb with h3 h4; injection h with h1 h2; subst h1 h2 h3 h4; omega
      · split at hb
        · cases hb
        · injection hb with h3 h4; injection h with h1 h2; subst h1 h2 h3 h4; omega
    · cases h
  split at h
  · split at h
    · rename_i hn; have := number_end hn; injection h with h1 h2; subst h1 h2; omega
    · rename_i m q hn
      have hq := number_ok hn
      split at h
      · injection h with h1 h2; subst h1 h2; omega
      · cases h
  · injection h with h1 h2; subst h1 h2; omega
theorem valGo_end : ∀ (f q : Nat) (acc : List Nd) (sz td : Nat) (l : List UInt8) {a : Nat} {er : Int}, 1025 ≤ f + acc.length → acc.length ≤ 1024 → sz ≤ 4096 → valGo f q acc sz td l = .no a er → a ≤ q + l.length ∧ (a = q + l.length ↔ er = 4)
  | 0, q, acc, sz, td, l, a, er, hf, hl, hz, h => by omega
  | f + 1, q, acc, sz, td, l, a, er, hf, hl, hz, h => by
    rcases Nat.eq_zero_or_pos td with rfl | htp
    · rw [valGo_0] at h; cases h
    · cases l with
      | nil => rw [valGo_nil _ _ _ _ _ htp] at h; injection h with h1 h2; subst h1 h2; simp
      | cons c r =>
        by_cases full : acc.length = 1024 ∨ 4096 < sz + 1
        · rw [valGo_full _ _ _ _ _ htp _ _ full] at h; injection h with h1 h2; subst h1 h2; rw [List.length_cons]; omega
        · cases hN : node1 sz c.toNat r with
          | no a' er' => rw [valGo_no htp full hN] at h; injection h with h1 h2; subst h1 h2; have := node1_end hN; rw [List.length_cons]; omega
          | ok y j =>
            rw [valGo_ok htp full hN] at h
            obtain ⟨o1, o2, o3, o4⟩ := node1_ok (by omega) hN
            have := valGo_end f _ _ _ _ _ (by rw [List.length_append]; simp; omega) (by rw [List.length_append]; simp; omega) o3 h
            rw [List.length_drop, List.length_cons] at this
            rw [List.length_cons]
            omega
theorem value_end {l : List UInt8} {a : Nat} {er : Int} (h : value l = .no a er) : a ≤ l.length ∧ (a = l.length ↔ er = 4) := by
  have := valGo_end _ _ _ _ _ _ (by simp) (by simp) (by omega) h
  simpa using this
end Pu
end Go.Proofs.Ytibhldifmneboaa
