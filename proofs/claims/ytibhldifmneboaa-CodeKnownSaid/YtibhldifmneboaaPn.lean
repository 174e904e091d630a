/- appendNum of package code: sixteen bytes behind a row of the call's own. -/
import Derived.Test.YtibhldifmneboaaPf
import Derived.Test.YtibhldifmneboaaRi
set_option linter.unusedVariables false
set_option linter.unusedSimpArgs false
namespace Go.Proofs.Ytibhldifmneboaa
open Go Go.RowKit Cd Rd
namespace Pu

/-- the first j bytes of eight -/
def b8 (n j : Nat) : List UInt8 := (List.range j).map fun i => UInt8.ofNat (n / 2 ^ (56 - 8 * i) % 256)
theorem b8_s (n j : Nat) : b8 n (j + 1) = b8 n j ++ [UInt8.ofNat (n / 2 ^ (56 - 8 * j) % 256)] := by simp [b8, List.range_succ]
theorem b8_len (n j : Nat) : (b8 n j).length = j := by simp [b8]
def num16 (a b : Nat) : List UInt8 := b8 a 8 ++ b8 b 8

theorem ix0 (a b : Nat) (W : World) : (Instr.index 119 (.agg #[.float .f64 a, .float .f64 b]) (.int .i64 0)).run Try.prog W = .ok (.float .f64 a) W := by kernel_rfl
theorem ix1 (a b : Nat) (W : World) : (Instr.index 119 (.agg #[.float .f64 a, .float .f64 b]) (.int .i64 1)).run Try.prog W = .ok (.float .f64 b) W := by kernel_rfl
theorem shr_b8 (n j : Nat) : (n : Int) / 2 ^ (56 - 8 * j) % 256 = ((n / 2 ^ (56 - 8 * j) % 256 : Nat) : Int) := by simp
set_option maxHeartbeats 1000000 in
set_option maxRecDepth 100000 in
theorem appendNum_any (base a b : Nat) (v : Value) (l : List UInt8) (ha : a < 18446744073709551616) (hb : b < 18446744073709551616) (hl : l.length ≤ 1000000000) (w : World) (hbw : base ≤ w.heap.size)
    (hown : w.ownsRow base 5 1 v l.length (bc l)) :
    Calls Try.prog 80 #[v, .complex .f64 a b] w fun e w' => ∃ v', e = .returned v' ∧ w'.ownsRow base 5 1 v' (l.length + 16) (bc (l ++ num16 a b)) ∧ Below base w w' := by
  obtain ⟨i0, hi, hz0, hz1, hz2⟩ := info_parts (P := Try.prog) (e := 5) (z := .int .u8 0) (size := 1) (bytes := 1) (by rfl)
  have ra := fun w => Pl.run_bits a w
  have rb := fun w => Pl.run_bits b w
  have i0' := fun w => ix0 a b w
  have i1' := fun w => ix1 a b w
  go_enter Try.func80, Try.ntmps80
  go_wp2_with fail
  go_loopw [0, 14] (fun v k wr => (k = .int .i64 0 ∧ wr.ownsRow base 5 1 v l.length (bc l) ∨ k = .int .i64 1 ∧ wr.ownsRow base 5 1 v (l.length + 8) (bc (l ++ b8 a 8)) ∨ k = .int .i64 2 ∧ wr.ownsRow base 5 1 v (l.length + 16) (bc (l ++ num16 a b))) ∧ Below base w wr) (fun _ k _ => 2 - (intOf k).toNat)
  case atStart => exact ⟨.inl ⟨rfl, hown⟩, Below.refl _ _⟩
  case round =>
    obtain ⟨hk, hB⟩ := hrel
    clear hown
    rcases hk with ⟨rfl, ho⟩ | ⟨rfl, ho⟩ | ⟨rfl, ho⟩
    · go_wp2_with fail
      go_loopw [0, 8] (fun v i wr => ∃ j : Nat, j ≤ 8 ∧ i = .int .i64 (56 - 8 * (j : Int)) ∧ wr.ownsRow base 5 1 v (l.length + 0 + j) (bc (l ++ [] ++ b8 a j)) ∧ Below base w wr) (fun _ i _ => (intOf i + 8).toNat)
      case atStart => exact ⟨0, by omega, rfl, by simpa [b8] using ho, hB⟩
      case round =>
        obtain ⟨j, hj, rfl, ho2, hB2⟩ := hrel
        clear ho hB
        rcases Nat.lt_or_ge j 8 with hj8 | hj8
        · have hx := shr_b8 a j
          have hq : a / 2 ^ (56 - 8 * j) % 256 < 256 := Nat.mod_lt _ (by omega)
          have hi1 : 0 ≤ 56 - 8 * (j : Int) := by omega
          have hi2 : 56 - 8 * (j : Int) < 64 := by omega
          have hS := Lib.hid (b8_s a j)
          generalize a / 2 ^ (56 - 8 * j) % 256 = X at *
          have HX := Lib.hid hx
          clear hx
          go_wp2_with (at_builtin; refine wpList_append_own _ rfl _ _ 44 rfl base 5 i0 (.int .u8 0) 1 1 Try.underlying44 hi hz0 hz1 hz2 rfl (by decide) _ _ _ rfl (ho2.alloc _) ⟨_, 0, none⟩ 1 1 [.int .u8 (X : Int)] rfl rfl ?c1 ?c2 ?c3 ?c4 ?c5 ?_)
          case c1 =>
            intro k u hk
            match k, hk with
            | 0, hk => simp at hk; subst hk; first | (rw [HX.out]; simp [Addr.add]) | (rw [← HX.out]; simp [Addr.add]) | simp [Addr.add]
            | (k + 1), hk => simp at hk
          case c2 => intro u hu; simp only [List.mem_singleton] at hu; subst hu; rfl
          case c3 => unfold maxLen; omega
          case c4 => omega
          case c5 => have := hB2.size; simp; omega
          intro v' w9 hown9 hgrow9 _
          go_wp2
          go_roundw
          case rel =>
            refine ⟨j + 1, by omega, by go_num, ?_, ?_⟩
            · rw [hS.out, ← List.append_assoc, bc_append _ [_], bc_one _ hq, ← Nat.add_assoc]
              simpa [List.append_assoc] using hown9
            · exact (hB2.alloc (by have := hB2.size; omega) _).grown hgrow9 (by have := hB2.size; simp; omega) (fun k hk => (ho2.lt _ hk).1)
          case measure => simp [intOf]; omega
        · obtain rfl : j = 8 := by omega
          go_wp2
          go_roundw
          case rel => exact ⟨.inr (.inl ⟨rfl, by simpa using ho2⟩), hB2⟩
          case measure => simp [intOf]
    · go_wp2_with fail
      go_loopw [0, 8] (fun v i wr => ∃ j : Nat, j ≤ 8 ∧ i = .int .i64 (56 - 8 * (j : Int)) ∧ wr.ownsRow base 5 1 v (l.length + 8 + j) (bc (l ++ b8 a 8 ++ b8 b j)) ∧ Below base w wr) (fun _ i _ => (intOf i + 8).toNat)
      case atStart => exact ⟨0, by omega, rfl, by simpa [b8] using ho, hB⟩
      case round =>
        obtain ⟨j, hj, rfl, ho2, hB2⟩ := hrel
        clear ho hB
        rcases Nat.lt_or_ge j 8 with hj8 | hj8
        · have hx := shr_b8 b j
          have hq : b / 2 ^ (56 - 8 * j) % 256 < 256 := Nat.mod_lt _ (by omega)
          have hi1 : 0 ≤ 56 - 8 * (j : Int) := by omega
          have hi2 : 56 - 8 * (j : Int) < 64 := by omega
          have hS := Lib.hid (b8_s b j)
          generalize b / 2 ^ (56 - 8 * j) % 256 = X at *
          have HX := Lib.hid hx
          clear hx
          go_wp2_with (at_builtin; refine wpList_append_own _ rfl _ _ 44 rfl base 5 i0 (.int .u8 0) 1 1 Try.underlying44 hi hz0 hz1 hz2 rfl (by decide) _ _ _ rfl (ho2.alloc _) ⟨_, 0, none⟩ 1 1 [.int .u8 (X : Int)] rfl rfl ?c1 ?c2 ?c3 ?c4 ?c5 ?_)
          case c1 =>
            intro k u hk
            match k, hk with
            | 0, hk => simp at hk; subst hk; first | (rw [HX.out]; simp [Addr.add]) | (rw [← HX.out]; simp [Addr.add]) | simp [Addr.add]
            | (k + 1), hk => simp at hk
          case c2 => intro u hu; simp only [List.mem_singleton] at hu; subst hu; rfl
          case c3 => unfold maxLen; omega
          case c4 => omega
          case c5 => have := hB2.size; simp; omega
          intro v' w9 hown9 hgrow9 _
          go_wp2
          go_roundw
          case rel =>
            refine ⟨j + 1, by omega, by go_num, ?_, ?_⟩
            · rw [hS.out, ← List.append_assoc, bc_append _ [_], bc_one _ hq, ← Nat.add_assoc]
              simpa [List.append_assoc] using hown9
            · exact (hB2.alloc (by have := hB2.size; omega) _).grown hgrow9 (by have := hB2.size; simp; omega) (fun k hk => (ho2.lt _ hk).1)
          case measure => simp [intOf]; omega
        · obtain rfl : j = 8 := by omega
          go_wp2
          go_roundw
          case rel => exact ⟨.inr (.inr ⟨rfl, by unfold num16; rw [← List.append_assoc]; exact ho2⟩), hB2⟩
          case measure => simp [intOf]
    · go_wp2
      go_ret
      exact ⟨_, rfl, ho, hB⟩
end Pu
end Go.Proofs.Ytibhldifmneboaa
