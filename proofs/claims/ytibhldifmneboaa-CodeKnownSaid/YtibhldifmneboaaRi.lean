/- value.right at nodes that have been read: true. Printed by wip/gen/right.py. -/
import Derived.Test.YtibhldifmneboaaEq
set_option linter.unusedVariables false
set_option linter.unusedSimpArgs false
namespace Go.Proofs.Ytibhldifmneboaa
open Go Go.RowKit
namespace Rd
open Cd Pl Fl
attribute [local go_sem] st_complex'

/-- a node as it is read -/
def Nd.good (x : Nd) : Prop :=
  x = {} ∨ (∃ b : Nat, b ≤ 1 ∧ x = { kind := 1, int := b }) ∨ (∃ i : Int, -9223372036854775808 ≤ i ∧ i < 9223372036854775808 ∧ x = { kind := 2, int := i }) ∨ (∃ s : ByteArray, s.size ≤ 4096 ∧ x = { kind := 3, text := s }) ∨
  (∃ z : Nat × Nat, fineB z.1 z.2 = true ∧ z.1 < 18446744073709551616 ∧ z.2 < 18446744073709551616 ∧ x = { kind := 4, num := z }) ∨ (∃ k : Nat, k ≤ 1024 ∧ x = { kind := 5, kids := k })
theorem Below.drewN' {w w1 : World} {B : Nat} (h : Below B w w1) (k : Nat) : Below B w (w1.drewN k) := ⟨h.os, h.tape, h.output, h.size, h.block⟩
theorem fine0 : fineB 0 0 = true := by decide
theorem ord_ok {a : Nat} (h : nanB a = false) : (FloatKind.f64.format.order a a == some .eq) = true := by have := order_self h; show (Ieee.double.order _ _ == some .eq) = true; rw [this]; rfl
theorem ord0 : (FloatKind.f64.format.order 0 0 == some .eq) = true := ord_ok (by decide)

set_option maxHeartbeats 1000000 in
set_option maxRecDepth 100000 in
theorem right_0  (w : World) :
    Calls Try.prog 82 #[.agg #[.int .u8 0, .int .i64 0, .int .i64 0, .string ⟨#[]⟩, .complex .f64 0 0]] w fun e w' => e = .returned (.bool true) ∧ Below w.heap.size w w' := by
  have o0 := ord0
  have cf := fun W => Pl.fine_any 0 0 (by decide) (by decide) W
  rw [fine0] at cf
  go_enter Try.func82, Try.ntmps82
  go_wp2_with fail
  refine (cf _).mono ?_
  rintro e w1 ⟨rfl, nq, rfl⟩
  go_wp2
  go_ret
  refine ⟨rfl, ?_⟩
  repeat (first | exact Below.refl _ _ | refine Below.setCell ?_ (by simp) _ | refine Below.alloc ?_ (by simp [World.setCell]) _ | (refine Below.alloc ?_ (by simp [World.setCell]; omega) _) | refine Below.drewN' ?_ _)

set_option maxHeartbeats 1000000 in
set_option maxRecDepth 100000 in
theorem right_1a  (w : World) :
    Calls Try.prog 82 #[.agg #[.int .u8 1, .int .i64 0, .int .i64 0, .string ⟨#[]⟩, .complex .f64 0 0]] w fun e w' => e = .returned (.bool true) ∧ Below w.heap.size w w' := by
  have o0 := ord0
  have cf := fun W => Pl.fine_any 0 0 (by decide) (by decide) W
  rw [fine0] at cf
  go_enter Try.func82, Try.ntmps82
  go_wp2_with fail
  refine (cf _).mono ?_
  rintro e w1 ⟨rfl, nq, rfl⟩
  go_wp2
  go_ret
  refine ⟨rfl, ?_⟩
  repeat (first | exact Below.refl _ _ | refine Below.setCell ?_ (by simp) _ | refine Below.alloc ?_ (by simp [World.setCell]) _ | (refine Below.alloc ?_ (by simp [World.setCell]; omega) _) | refine Below.drewN' ?_ _)

set_option maxHeartbeats 1000000 in
set_option maxRecDepth 100000 in
theorem right_1b  (w : World) :
    Calls Try.prog 82 #[.agg #[.int .u8 1, .int .i64 0, .int .i64 1, .string ⟨#[]⟩, .complex .f64 0 0]] w fun e w' => e = .returned (.bool true) ∧ Below w.heap.size w w' := by
  have o0 := ord0
  have cf := fun W => Pl.fine_any 0 0 (by decide) (by decide) W
  rw [fine0] at cf
  go_enter Try.func82, Try.ntmps82
  go_wp2_with fail
  refine (cf _).mono ?_
  rintro e w1 ⟨rfl, nq, rfl⟩
  go_wp2
  go_ret
  refine ⟨rfl, ?_⟩
  repeat (first | exact Below.refl _ _ | refine Below.setCell ?_ (by simp) _ | refine Below.alloc ?_ (by simp [World.setCell]) _ | (refine Below.alloc ?_ (by simp [World.setCell]; omega) _) | refine Below.drewN' ?_ _)

set_option maxHeartbeats 1000000 in
set_option maxRecDepth 100000 in
theorem right_2 (i : Int) (w : World) :
    Calls Try.prog 82 #[.agg #[.int .u8 2, .int .i64 0, .int .i64 i, .string ⟨#[]⟩, .complex .f64 0 0]] w fun e w' => e = .returned (.bool true) ∧ Below w.heap.size w w' := by
  have o0 := ord0
  have cf := fun W => Pl.fine_any 0 0 (by decide) (by decide) W
  rw [fine0] at cf
  go_enter Try.func82, Try.ntmps82
  go_wp2_with fail
  refine (cf _).mono ?_
  rintro e w1 ⟨rfl, nq, rfl⟩
  go_wp2
  go_ret
  refine ⟨rfl, ?_⟩
  repeat (first | exact Below.refl _ _ | refine Below.setCell ?_ (by simp) _ | refine Below.alloc ?_ (by simp [World.setCell]) _ | (refine Below.alloc ?_ (by simp [World.setCell]; omega) _) | refine Below.drewN' ?_ _)

set_option maxHeartbeats 1000000 in
set_option maxRecDepth 100000 in
theorem right_3 (s : ByteArray) (w : World) :
    Calls Try.prog 82 #[.agg #[.int .u8 3, .int .i64 0, .int .i64 0, .string s, .complex .f64 0 0]] w fun e w' => e = .returned (.bool true) ∧ Below w.heap.size w w' := by
  have o0 := ord0
  have cf := fun W => Pl.fine_any 0 0 (by decide) (by decide) W
  rw [fine0] at cf
  go_enter Try.func82, Try.ntmps82
  go_wp2_with fail
  refine (cf _).mono ?_
  rintro e w1 ⟨rfl, nq, rfl⟩
  go_wp2
  go_ret
  refine ⟨rfl, ?_⟩
  repeat (first | exact Below.refl _ _ | refine Below.setCell ?_ (by simp) _ | refine Below.alloc ?_ (by simp [World.setCell]) _ | (refine Below.alloc ?_ (by simp [World.setCell]; omega) _) | refine Below.drewN' ?_ _)

set_option maxHeartbeats 1000000 in
set_option maxRecDepth 100000 in
theorem right_4 (a b : Nat) (ha : a < 18446744073709551616) (hb : b < 18446744073709551616) (hf : fineB a b = true) (w : World) :
    Calls Try.prog 82 #[.agg #[.int .u8 4, .int .i64 0, .int .i64 0, .string ⟨#[]⟩, .complex .f64 a b]] w fun e w' => e = .returned (.bool true) ∧ Below w.heap.size w w' := by
  have o0 := ord0
  have o1 := ord_ok (fine_calm hf).1
  have o2 := ord_ok (fine_calm hf).2
  have cf := fun W => Pl.fine_any a b ha hb W
  rw [hf] at cf
  clear hf ha hb
  go_enter Try.func82, Try.ntmps82
  go_wp2_with fail
  refine (cf _).mono ?_
  rintro e w1 ⟨rfl, nq, rfl⟩
  go_wp2
  go_ret
  refine ⟨rfl, ?_⟩
  repeat (first | exact Below.refl _ _ | refine Below.setCell ?_ (by simp) _ | refine Below.alloc ?_ (by simp [World.setCell]) _ | (refine Below.alloc ?_ (by simp [World.setCell]; omega) _) | refine Below.drewN' ?_ _)

set_option maxHeartbeats 1000000 in
set_option maxRecDepth 100000 in
theorem right_5 (k : Nat) (w : World) :
    Calls Try.prog 82 #[.agg #[.int .u8 5, .int .i64 k, .int .i64 0, .string ⟨#[]⟩, .complex .f64 0 0]] w fun e w' => e = .returned (.bool true) ∧ Below w.heap.size w w' := by
  have o0 := ord0
  have cf := fun W => Pl.fine_any 0 0 (by decide) (by decide) W
  rw [fine0] at cf
  have hk : (0 : Int) ≤ k := by omega
  have hk2 : decide ((k : Int) < 0) = false := by simp
  go_enter Try.func82, Try.ntmps82
  go_wp2_with fail
  refine (cf _).mono ?_
  rintro e w1 ⟨rfl, nq, rfl⟩
  go_wp2
  go_ret
  refine ⟨rfl, ?_⟩
  repeat (first | exact Below.refl _ _ | refine Below.setCell ?_ (by simp) _ | refine Below.alloc ?_ (by simp [World.setCell]) _ | (refine Below.alloc ?_ (by simp [World.setCell]; omega) _) | refine Below.drewN' ?_ _)
end Rd
end Go.Proofs.Ytibhldifmneboaa
