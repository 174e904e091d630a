/- Contracts of prompterlaw04.part and Alike at equal operands: at the same bits, at two slices of one and the same node, the answer is true. -/
import Derived.Test.YtibhldifmneboaaMk
import Derived.Test.YtibhldifmneboaaWEqStruct
namespace Go.Proofs.Ytibhldifmneboaa
open Go.RowKit
namespace Mk
open Fl Pl Go.Proofs.YtibhldifmneboaaW.PrintWords
attribute [local go_sem] st_complex

theorem part_same (b : Nat) (w : World) : Calls Try.prog 53 #[.float .f64 b, .float .f64 b] w fun e w' => e = .returned (.bool true) ∧ w = w' := by
  cases hn : nanB b with
  | true =>
    have h : (FloatKind.f64.format.order b b == some .eq) = false := by have := order_nan hn b; show (Ieee.double.order b b == some .eq) = false; rw [this]; rfl
    have h' : (FloatKind.f64.format.order b b != some .eq) = true := by have := order_nan hn b; show (Ieee.double.order b b != some .eq) = true; rw [this]; rfl
    go_enter Try.func53, Try.ntmps53
    go_wp2
    go_ret
    exact ⟨rfl, rfl⟩
  | false =>
    have h : (FloatKind.f64.format.order b b == some .eq) = true := by have := order_self hn; show (Ieee.double.order b b == some .eq) = true; rw [this]; rfl
    go_enter Try.func53, Try.ntmps53
    go_wp2
    go_ret
    exact ⟨rfl, rfl⟩

theorem neq_node (k kids i : Int) (s : ByteArray) (w : World) :
    (binOp .neq 37 (.agg #[.int .u8 k, .int .i64 kids, .int .i64 i, .string s, .complex .f64 0 0]) (.agg #[.int .u8 k, .int .i64 kids, .int .i64 i, .string s, .complex .f64 0 0])).run Try.prog w = .ok (.bool false) w := by
  have h : (Op.equalIn 10000 37 (.agg #[.int .u8 k, .int .i64 kids, .int .i64 i, .string s, .complex .f64 0 0]) (.agg #[.int .u8 k, .int .i64 kids, .int .i64 i, .string s, .complex .f64 0 0])).run Try.prog w = .ok (true && (true && (true && (true && true)))) w := by
    refine eqA_of Try.underlying37 (by kernel_rfl) ?_
    refine eqf_cons (by rfl) (by go_simp; rfl) (by go_simp; rfl) (by go_simp) ?_
    refine eqf_cons (by rfl) (by go_simp; rfl) (by go_simp; rfl) (by go_simp) ?_
    refine eqf_cons (by rfl) (by go_simp; rfl) (by go_simp; rfl) (by go_simp) ?_
    refine eqf_cons (by rfl) (by go_simp; rfl) (by go_simp; rfl) (by go_simp) ?_
    exact eqf_last (by rfl) (by go_simp; rfl) (by go_simp; rfl) (by kernel_rfl)
  rw [run_neq_struct, h]
  rfl

theorem Node.lt {w : World} {g : Nat} {k kids i : Int} {s : ByteArray} {re im : Nat} (h : Node w g k kids i s re im) : g < w.heap.size := (Array.getElem?_eq_some_iff.1 h).1
theorem Node.below {w w' : World} {g : Nat} {k kids i : Int} {s : ByteArray} {re im : Nat} (h : Node w g k kids i s re im) (hb : Below w.heap.size w w') : Node w' g k kids i s re im := (hb.block g h.lt).trans h
theorem Node.cells {w : World} {g : Nat} {k kids i : Int} {s : ByteArray} {re im : Nat} (h : Node w g k kids i s re im) :
    w.cell? ⟨g, 0, none⟩ = some (.int .u8 k) ∧ w.cell? ⟨g, 1, none⟩ = some (.int .i64 kids) ∧ w.cell? ⟨g, 2, none⟩ = some (.int .i64 i) ∧ w.cell? ⟨g, 3, none⟩ = some (.string s) ∧ w.cell? ⟨g, 4, none⟩ = some (.complex .f64 re im) := by
  unfold Node at h
  simp [World.cell?, h]
theorem Node.frozen {w : World} {g : Nat} {k kids i : Int} {s : ByteArray} {re im : Nat} (h : Node w g k kids i s re im) (j : Nat) : w.frozen? ⟨g, j, none⟩ = false := by
  unfold Node at h
  simp [World.frozen?, h]

theorem Alike_same (g1 g2 : Nat) (k kids i : Int) (s : ByteArray) (re im : Nat) (w : World) (h1 : Node w g1 k kids i s re im) (h2 : Node w g2 k kids i s re im) :
    Calls Try.prog 14 #[.slice (some ⟨g1, 0, none⟩) 1 1, .slice (some ⟨g2, 0, none⟩) 1 1] w fun e w' => e = .returned (.bool true) ∧ Below w.heap.size w w' := by
  have cp := fun b w => part_same b w
  have hne := fun w => neq_node k kids i s w
  go_enter Try.func14, Try.ntmps14
  go_wp2_with fail
  go_loopw [5] (fun i wr => ∃ q : Nat, q ≤ 1 ∧ i = .int .i64 q ∧ Below w.heap.size w wr) (fun i _ => 1 - (intOf i).toNat)
  case atStart => exact ⟨0, by omega, rfl, Below.refl _ _⟩
  case round =>
    obtain ⟨q, hq, rfl, hb⟩ := hrel
    obtain ⟨a0, a1, a2, a3, a4⟩ := (h1.below hb).cells
    obtain ⟨b0, b1, b2, b3, b4⟩ := (h2.below hb).cells
    have l1 : g1 < wr.heap.size := (h1.below hb).lt
    have l2 : g2 < wr.heap.size := (h2.below hb).lt
    have lz := hb.size
    have HB := Lib.hid hb
    clear hb h1 h2
    rcases (by omega : q = 0 ∨ q = 1) with rfl | rfl
    · go_wp2_with fail
      refine (cp re _).mono ?_
      rintro e w1 ⟨rfl, rfl⟩
      go_wp2_with fail
      refine (cp im _).mono ?_
      rintro e w1 ⟨rfl, rfl⟩
      go_wp2
      go_roundw
      case rel => exact ⟨1, by omega, rfl, (HB.out.alloc lz _).alloc (by simp; omega) _⟩
      case measure => simp [intOf]
    · go_wp2
      go_ret
      exact ⟨rfl, HB.out⟩
end Mk
end Go.Proofs.Ytibhldifmneboaa
