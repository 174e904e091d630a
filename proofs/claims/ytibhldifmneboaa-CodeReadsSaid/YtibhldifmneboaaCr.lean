/- CodeReads, walked: what the readers and the reference's readers say of the same bytes is the same. -/
import Derived.Test.YtibhldifmneboaaPf
set_option linter.unusedVariables false
set_option linter.unusedSimpArgs false
namespace Go.Proofs.Ytibhldifmneboaa
open Go Go.RowKit Cd Rd
namespace Pu

theorem rd_u (o : Out Nat) : ∃ (x a er : Int), (∀ w e w', Rd_ Val64 (.int .u64 0) o w e w' → e = .returned (.tuple #[.int .u64 x, .int .i64 a, .int .i64 er]) ∧ Below w.heap.size w w') ∧
    ∀ w e w', Rf_ 0 Val64 (.int .u64 0) o w e w' → e = .returned (.tuple #[.int .u64 x, .int .i64 a, .int .i64 er]) ∧ w = w' := by
  cases o with
  | ok x k => exact ⟨x, k, 0, fun w e w' h => ⟨h.2, h.1⟩, fun w e w' h => ⟨by have := h.2; simpa [Val64, ValI, ValS, ValZ] using this, h.1⟩⟩
  | no a er => exact ⟨0, a, er, fun w e w' h => ⟨h.2, h.1⟩, fun w e w' h => ⟨by have := h.2; simpa [Val64, ValI, ValS, ValZ] using this, h.1⟩⟩
theorem rd_i (o : Out Int) : ∃ (x a er : Int), (∀ w e w', Rd_ ValI (.int .i64 0) o w e w' → e = .returned (.tuple #[.int .i64 x, .int .i64 a, .int .i64 er]) ∧ Below w.heap.size w w') ∧
    ∀ w e w', Rf_ 0 ValI (.int .i64 0) o w e w' → e = .returned (.tuple #[.int .i64 x, .int .i64 a, .int .i64 er]) ∧ w = w' := by
  cases o with
  | ok x k => exact ⟨x, k, 0, fun w e w' h => ⟨h.2, h.1⟩, fun w e w' h => ⟨by have := h.2; simpa [Val64, ValI, ValS, ValZ] using this, h.1⟩⟩
  | no a er => exact ⟨0, a, er, fun w e w' h => ⟨h.2, h.1⟩, fun w e w' h => ⟨by have := h.2; simpa [Val64, ValI, ValS, ValZ] using this, h.1⟩⟩
theorem rd_s (o : Out ByteArray) : ∃ (x : ByteArray) (a er : Int), (∀ w e w', Rd_ ValS (.string ⟨#[]⟩) o w e w' → e = .returned (.tuple #[.string x, .int .i64 a, .int .i64 er]) ∧ Below w.heap.size w w') ∧
    ∀ w e w', Rf_ 0 ValS (.string ⟨#[]⟩) o w e w' → e = .returned (.tuple #[.string x, .int .i64 a, .int .i64 er]) ∧ w = w' := by
  cases o with
  | ok x k => exact ⟨x, k, 0, fun w e w' h => ⟨h.2, h.1⟩, fun w e w' h => ⟨by have := h.2; simpa [Val64, ValI, ValS, ValZ] using this, h.1⟩⟩
  | no a er => exact ⟨⟨#[]⟩, a, er, fun w e w' h => ⟨h.2, h.1⟩, fun w e w' h => ⟨by have := h.2; simpa [Val64, ValI, ValS, ValZ] using this, h.1⟩⟩
theorem rd_z (o : Out (Nat × Nat)) : ∃ (x y : Nat) (a er : Int), (∀ w e w', Rd_ ValZ (.complex .f64 0 0) o w e w' → e = .returned (.tuple #[.complex .f64 x y, .int .i64 a, .int .i64 er]) ∧ Below w.heap.size w w') ∧
    ∀ w e w', Rf_ 0 ValZ (.complex .f64 0 0) o w e w' → e = .returned (.tuple #[.complex .f64 x y, .int .i64 a, .int .i64 er]) ∧ w = w' := by
  cases o with
  | ok x k => exact ⟨x.1, x.2, k, 0, fun w e w' h => ⟨h.2, h.1⟩, fun w e w' h => ⟨by have := h.2; simpa [Val64, ValI, ValS, ValZ] using this, h.1⟩⟩
  | no a er => exact ⟨0, 0, a, er, fun w e w' h => ⟨h.2, h.1⟩, fun w e w' h => ⟨by have := h.2; simpa [Val64, ValI, ValS, ValZ] using this, h.1⟩⟩

set_option maxHeartbeats 1000000 in
set_option maxRecDepth 100000 in
theorem codeReads_long (A : Option Addr) (n c : Nat) (hn : n ≤ 9223372036854775807) (hl : 20000 < n) (w : World) : Calls Try.prog 6 #[.slice A n c] w (Tr w) := by
  have ca := fun W => awake_any W
  have cl := fun W => long_any A n c hn W
  have e1 : decide (20000 < (n : Int)) = true := by simp; omega
  rw [e1] at cl
  go_enter Try.func6, Try.ntmps6
  go_wp2_with fail
  refine (ca _).mono ?_
  rintro e w1 ⟨rfl, b1⟩
  go_wp2_with fail
  refine (cl _).mono ?_
  rintro e w2 ⟨rfl, rfl⟩
  go_wp2
  go_ret
  exact ⟨rfl, b1⟩

set_option maxHeartbeats 1000000 in
set_option maxRecDepth 100000 in
theorem codeReads_short (A : Option Addr) (n c : Nat) (xs : List UInt8) (hn : n ≤ 20000) (hc : n ≤ c) (hx : xs.length = n) (w : World) (hb : Bs w A xs) : Calls Try.prog 6 #[.slice A n c] w (Tr w) := by
  have ca := fun W => awake_any W
  have cl := fun W => long_any A n c (by omega) W
  have e1 : decide (20000 < (n : Int)) = false := by simp; omega
  rw [e1] at cl
  have c1 := fun W h => ReadUint_any A n c xs (by omega) hc hx W h
  have d1 := fun W h => refUint_any A n c 0 xs (by omega) hx (by omega) W h
  have c2 := fun W h => ReadInt_any A n c xs (by omega) hc hx W h
  have d2 := fun W h => refInt_any A n c 0 xs (by omega) hx (by omega) W h
  have c3 := fun W h => ReadText_any A n c xs (by omega) hc hx W h
  have d3 := fun W h => refText_any A n c 0 xs (by omega) hc hx (by omega) W h
  have c4 := fun W h => ReadNum_any A n c xs (by omega) hc hx W h
  have d4 := fun W h => refNum_any A n c 0 xs (by omega) hx (by omega) W h
  rw [List.drop_zero] at d1 d2 d3 d4
  obtain ⟨x1, a1, f1, p1, q1⟩ := rd_u (number xs)
  obtain ⟨x2, a2, f2, p2, q2⟩ := rd_i (mapOut Bt.unzig (number xs))
  obtain ⟨x3, a3, f3, p3, q3⟩ := rd_s (text xs)
  obtain ⟨x4, y4, a4, f4, p4, q4⟩ := rd_z (fineBits Pl.fineB xs)
  have cs := fun W => Same_same x4 y4 W
  have HB : ∀ W, Below w.heap.size w W → Bs W A xs := fun W h => bs_keep hb h
  clear hb hx
  go_enter Try.func6, Try.ntmps6
  go_wp2_with fail
  refine (ca _).mono ?_
  rintro e w1 ⟨rfl, b1⟩
  go_wp2_with fail
  refine (cl _).mono ?_
  rintro e w2 ⟨rfl, rfl⟩
  go_wp2_with fail
  refine (c1 _ (HB _ b1)).mono ?_
  intro e w2 h
  obtain ⟨rfl, b2⟩ := p1 _ _ _ h
  have B2 := b1.trans (b2.mono b1.size)
  clear h b2
  go_wp2_with fail
  refine (d1 _ (HB _ B2)).mono ?_
  intro e w3 h
  obtain ⟨rfl, rfl⟩ := q1 _ _ _ h
  clear h
  go_wp2_with fail
  refine (c2 _ (HB _ B2)).mono ?_
  intro e w3 h
  obtain ⟨rfl, b2⟩ := p2 _ _ _ h
  have B3 := B2.trans (b2.mono B2.size)
  clear h b2
  go_wp2_with fail
  refine (d2 _ (HB _ B3)).mono ?_
  intro e w4 h
  obtain ⟨rfl, rfl⟩ := q2 _ _ _ h
  clear h
  go_wp2_with fail
  refine (c3 _ (HB _ B3)).mono ?_
  intro e w4 h
  obtain ⟨rfl, b2⟩ := p3 _ _ _ h
  have B4 := B3.trans (b2.mono B3.size)
  clear h b2
  go_wp2_with fail
  refine (d3 _ (HB _ B4)).mono ?_
  intro e w5 h
  obtain ⟨rfl, rfl⟩ := q3 _ _ _ h
  clear h
  go_wp2_with fail
  refine (c4 _ (HB _ B4)).mono ?_
  intro e w5 h
  obtain ⟨rfl, b2⟩ := p4 _ _ _ h
  have B5 := B4.trans (b2.mono B4.size)
  clear h b2
  go_wp2_with fail
  refine (d4 _ (HB _ B5)).mono ?_
  intro e w6 h
  obtain ⟨rfl, rfl⟩ := q4 _ _ _ h
  clear h
  go_wp2_with fail
  refine (cs _).mono ?_
  rintro e w6 ⟨rfl, rfl⟩
  go_wp2
  go_ret
  exact ⟨rfl, B5⟩

end Pu
end Go.Proofs.Ytibhldifmneboaa
