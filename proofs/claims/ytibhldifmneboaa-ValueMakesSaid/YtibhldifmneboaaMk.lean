/- Contracts of the makers of package value and of prompterref04: each answers a new slice of one node with the fields said. -/
import Derived.Test.YtibhldifmneboaaPl
namespace Go.Proofs.Ytibhldifmneboaa
open Go.RowKit
namespace Mk
open Fl Pl

theorem st_complex (P : Program) (w : World) (a : Addr) (m : Mode) (k : FloatKind) (x y : Nat) : (store a (.complex k x y) m).run P w = stored P w a (.complex k x y) m := run_store P w a _ m rfl
attribute [local go_sem] st_complex

def pz (b : Nat) : Nat := if b % 9223372036854775808 = 0 then 0 else b

theorem plain_any (b : Nat) (w : World) : Calls Try.prog 84 #[.float .f64 b] w fun e w' => e = .returned (.float .f64 (pz b)) ∧ w = w' := by
  have ob : (FloatKind.f64.format.order b 0 == some .eq) = decide (b % 9223372036854775808 = 0) := order_zero_eq b
  unfold pz
  by_cases h : b % 9223372036854775808 = 0
  · rw [if_pos h]
    rw [decide_eq_true h] at ob
    clear h
    go_enter Try.func84, Try.ntmps84
    go_wp2
    go_ret
    exact ⟨rfl, rfl⟩
  · rw [if_neg h]
    rw [decide_eq_false h] at ob
    clear h
    go_enter Try.func84, Try.ntmps84
    go_wp2
    go_ret
    exact ⟨rfl, rfl⟩

theorem Plain_any (a b : Nat) (w : World) : Calls Try.prog 49 #[.complex .f64 a b] w fun e w' => e = .returned (.complex .f64 (pz a) (pz b)) ∧ w = w' := by
  have ca := fun w => plain_any a w
  have cb := fun w => plain_any b w
  go_enter Try.func49, Try.ntmps49
  go_wp2_with fail
  refine (ca _).mono ?_
  rintro e w1 ⟨rfl, rfl⟩
  go_wp2_with fail
  refine (cb _).mono ?_
  rintro e w1 ⟨rfl, rfl⟩
  go_wp2
  go_ret
  exact ⟨rfl, rfl⟩

theorem pz_eq {b : Nat} (hb : b < 18446744073709551616) : pz b = if b = 9223372036854775808 then 0 else b := by
  unfold pz
  by_cases h : b = 9223372036854775808
  · subst h; rfl
  · rw [if_neg h]
    split <;> omega

theorem Plain2_any (a b : Nat) (ha : a < 18446744073709551616) (hb : b < 18446744073709551616) (w : World) : Calls Try.prog 16 #[.complex .f64 a b] w fun e w' => e = .returned (.complex .f64 (pz a) (pz b)) ∧ w = w' := by
  have ca := fun w => minus_any a w
  have cb := fun w => minus_any b w
  rw [pz_eq ha, pz_eq hb]
  by_cases h1 : a = 9223372036854775808 <;> by_cases h2 : b = 9223372036854775808
  all_goals
    first | rw [if_pos h1] | rw [if_neg h1]
    first | rw [if_pos h2] | rw [if_neg h2]
    first | rw [decide_eq_true h1] at ca | rw [decide_eq_false h1] at ca
    first | rw [decide_eq_true h2] at cb | rw [decide_eq_false h2] at cb
    clear h1 h2 ha hb
    go_enter Try.func16, Try.ntmps16
    go_wp2_with fail
    refine (ca _).mono ?_
    rintro e w1 ⟨rfl, rfl⟩
    go_wp2_with fail
    refine (cb _).mono ?_
    rintro e w1 ⟨rfl, rfl⟩
    go_wp2
    go_ret
    exact ⟨rfl, rfl⟩

/-- a block of one node -/
def Node (w : World) (g : Nat) (k kids i : Int) (s : ByteArray) (re im : Nat) : Prop :=
  w.heap[g]? = some (.cells #[.int .u8 k, .int .i64 kids, .int .i64 i, .string s, .complex .f64 re im] 37 (0, 0))

/-- a new slice of one node is answered -/
def One (k kids i : Int) (s : ByteArray) (re im : Nat) (w : World) (e : Ending) (w' : World) : Prop :=
  ∃ g, e = .returned (.slice (some ⟨g, 0, none⟩) 1 1) ∧ w.heap.size ≤ g ∧ Node w' g k kids i s re im ∧ Below w.heap.size w w'

theorem heap_new (w : World) (o : Obj) : (w.alloc o).heap[w.heap.size]? = some o := heap_alloc_new w o
theorem heap_new1 (w : World) (o o1 : Obj) : ((w.alloc o).alloc o1).heap[w.heap.size + 1]? = some o1 := by
  have h := heap_alloc_new (w.alloc o) o1
  rw [World.size_alloc] at h
  exact h
theorem one_end2 (k kids i : Int) (s : ByteArray) (re im : Nat) (w : World) (o : Obj) :
    One k kids i s re im w (.returned (.slice (some ⟨w.heap.size + 1, 0, none⟩) 1 1)) ((w.alloc o).alloc (.cells #[.int .u8 k, .int .i64 kids, .int .i64 i, .string s, .complex .f64 re im] 37)) :=
  ⟨_, rfl, by omega, heap_new1 _ _ _, ((Below.refl _ _).alloc (Nat.le_refl _) _).alloc (by simp) _⟩
theorem one_end1 (k kids i : Int) (s : ByteArray) (re im : Nat) (w : World) :
    One k kids i s re im w (.returned (.slice (some ⟨w.heap.size, 0, none⟩) 1 1)) (w.alloc (.cells #[.int .u8 k, .int .i64 kids, .int .i64 i, .string s, .complex .f64 re im] 37)) :=
  ⟨_, rfl, by omega, heap_new _ _, (Below.refl _ _).alloc (Nat.le_refl _) _⟩

theorem one_int (x : Int) (w : World) : Calls Try.prog 56 #[.int .u8 2, .int .i64 x, .func (.func 57) #[] #[]] w (One 2 0 x ⟨#[]⟩ 0 0 w) := by
  go_enter Try.func56, Try.ntmps56
  go_wp2
  go_end0
  go_wp2
  go_ret
  exact one_end2 _ _ _ _ _ _ _ _
theorem one_text (x : ByteArray) (w : World) : Calls Try.prog 47 #[.int .u8 3, .string x, .func (.func 48) #[] #[]] w (One 3 0 0 x 0 0 w) := by
  go_enter Try.func47, Try.ntmps47
  go_wp2
  go_end0
  go_wp2
  go_ret
  exact one_end2 _ _ _ _ _ _ _ _
theorem one_num (a b : Nat) (w : World) : Calls Try.prog 51 #[.int .u8 4, .complex .f64 a b, .func (.func 52) #[] #[]] w (One 4 0 0 ⟨#[]⟩ a b w) := by
  go_enter Try.func51, Try.ntmps51
  go_wp2
  go_end0
  go_wp2
  go_ret
  exact one_end2 _ _ _ _ _ _ _ _
theorem one_true (w : World) : Calls Try.prog 58 #[.int .u8 1, .bool true, .func (.func 59) #[] #[]] w (One 1 0 1 ⟨#[]⟩ 0 0 w) := by
  go_enter Try.func58, Try.ntmps58
  go_wp2
  go_end0
  go_wp2
  go_ret
  exact one_end2 _ _ _ _ _ _ _ _
theorem one_false (w : World) : Calls Try.prog 58 #[.int .u8 1, .bool false, .func (.func 59) #[] #[]] w (One 1 0 0 ⟨#[]⟩ 0 0 w) := by
  go_enter Try.func58, Try.ntmps58
  go_wp2
  go_end0
  go_wp2
  go_ret
  exact one_end2 _ _ _ _ _ _ _ _

theorem Int_any (x : Int) (w : World) : Calls Try.prog 19 #[.int .i64 x] w (One 2 0 x ⟨#[]⟩ 0 0 w) := by
  have c := fun w => one_int x w
  go_enter Try.func19, Try.ntmps19
  go_wp2_with fail
  refine (c _).mono ?_
  rintro e w1 ⟨g, rfl, h⟩
  go_wp2
  go_ret
  exact ⟨g, rfl, h⟩
theorem Bool_true (w : World) : Calls Try.prog 20 #[.bool true] w (One 1 0 1 ⟨#[]⟩ 0 0 w) := by
  have c := fun w => one_true w
  go_enter Try.func20, Try.ntmps20
  go_wp2_with fail
  refine (c _).mono ?_
  rintro e w1 ⟨g, rfl, h⟩
  go_wp2
  go_ret
  exact ⟨g, rfl, h⟩
theorem Bool_false (w : World) : Calls Try.prog 20 #[.bool false] w (One 1 0 0 ⟨#[]⟩ 0 0 w) := by
  have c := fun w => one_false w
  go_enter Try.func20, Try.ntmps20
  go_wp2_with fail
  refine (c _).mono ?_
  rintro e w1 ⟨g, rfl, h⟩
  go_wp2
  go_ret
  exact ⟨g, rfl, h⟩
theorem None_any (w : World) : Calls Try.prog 21 #[] w (One 0 0 0 ⟨#[]⟩ 0 0 w) := by
  go_enter Try.func21, Try.ntmps21
  go_wp2
  go_ret
  exact one_end1 _ _ _ _ _ _ _
theorem rInt_any (x : Int) (w : World) : Calls Try.prog 22 #[.int .i64 x] w (One 2 0 x ⟨#[]⟩ 0 0 w) := by
  go_enter Try.func22, Try.ntmps22
  go_wp2
  go_ret
  exact one_end1 _ _ _ _ _ _ _
theorem rTrue_any (w : World) : Calls Try.prog 23 #[.bool true] w (One 1 0 1 ⟨#[]⟩ 0 0 w) := by
  go_enter Try.func23, Try.ntmps23
  go_wp2
  go_ret
  exact one_end1 _ _ _ _ _ _ _
theorem rFalse_any (w : World) : Calls Try.prog 23 #[.bool false] w (One 1 0 0 ⟨#[]⟩ 0 0 w) := by
  go_enter Try.func23, Try.ntmps23
  go_wp2
  go_ret
  exact one_end1 _ _ _ _ _ _ _
theorem rNone_any (w : World) : Calls Try.prog 24 #[] w (One 0 0 0 ⟨#[]⟩ 0 0 w) := by
  go_enter Try.func24, Try.ntmps24
  go_wp2
  go_ret
  exact one_end1 _ _ _ _ _ _ _
theorem rText_any (s : ByteArray) (w : World) : Calls Try.prog 15 #[.string s] w (One 3 0 0 s 0 0 w) := by
  go_enter Try.func15, Try.ntmps15
  go_wp2
  go_ret
  exact one_end1 _ _ _ _ _ _ _
theorem rNum_any (a b : Nat) (w : World) : Calls Try.prog 18 #[.complex .f64 a b] w (One 4 0 0 ⟨#[]⟩ a b w) := by
  go_enter Try.func18, Try.ntmps18
  go_wp2
  go_ret
  exact one_end1 _ _ _ _ _ _ _

/-- a maker with an error beside it -/
def OneOr (err : Int) (k kids i : Int) (s : ByteArray) (re im : Nat) (w : World) (e : Ending) (w' : World) : Prop :=
  if err = 0 then ∃ g, e = .returned (.tuple #[.slice (some ⟨g, 0, none⟩) 1 1, .int .i64 0]) ∧ w.heap.size ≤ g ∧ Node w' g k kids i s re im ∧ Below w.heap.size w w'
  else e = .returned (.tuple #[.slice none 0 0, .int .i64 err]) ∧ Below w.heap.size w w'

theorem Text_ok (s : ByteArray) (hs : s.size ≤ 4095) (w : World) : Calls Try.prog 12 #[.string s] w (OneOr 0 3 0 0 s 0 0 w) := by
  have c := fun w => one_text s w
  go_enter Try.func12, Try.ntmps12
  go_wp2_with fail
  refine (c _).mono ?_
  rintro e w1 ⟨g, rfl, h⟩
  go_wp2
  go_ret2
  exact ⟨g, rfl, h⟩
theorem Text_no (s : ByteArray) (hs : 4095 < s.size) (w : World) : Calls Try.prog 12 #[.string s] w (OneOr 2 3 0 0 s 0 0 w) := by
  go_enter Try.func12, Try.ntmps12
  go_wp2
  go_ret2
  exact ⟨rfl, Below.refl _ _⟩
theorem Num_ok (a b : Nat) (ha : a < 18446744073709551616) (hb : b < 18446744073709551616) (hf : fineB (pz a) (pz b) = true) (w : World) : Calls Try.prog 13 #[.complex .f64 a b] w (OneOr 0 4 0 0 ⟨#[]⟩ (pz a) (pz b) w) := by
  have c := fun w => Plain_any a b w
  have d := fun w => fine_any (pz a) (pz b) (by unfold pz; split <;> omega) (by unfold pz; split <;> omega) w
  have o := fun w => one_num (pz a) (pz b) w
  rw [hf] at d
  clear hf ha hb
  go_enter Try.func13, Try.ntmps13
  go_wp2_with fail
  refine (c _).mono ?_
  rintro e w1 ⟨rfl, rfl⟩
  go_wp2_with fail
  refine (d _).mono ?_
  rintro e w1 ⟨rfl, n, rfl⟩
  go_wp2_with fail
  refine (o _).mono ?_
  rintro e w1 ⟨g, rfl, h1, h2, h3⟩
  go_wp2
  go_ret2
  exact ⟨g, rfl, h1, h2, ⟨h3.os, h3.tape, h3.output, h3.size, h3.block⟩⟩
theorem Num_no (a b : Nat) (ha : a < 18446744073709551616) (hb : b < 18446744073709551616) (hf : fineB (pz a) (pz b) = false) (w : World) : Calls Try.prog 13 #[.complex .f64 a b] w (OneOr 20 4 0 0 ⟨#[]⟩ (pz a) (pz b) w) := by
  have c := fun w => Plain_any a b w
  have d := fun w => fine_any (pz a) (pz b) (by unfold pz; split <;> omega) (by unfold pz; split <;> omega) w
  rw [hf] at d
  clear hf ha hb
  go_enter Try.func13, Try.ntmps13
  go_wp2_with fail
  refine (c _).mono ?_
  rintro e w1 ⟨rfl, rfl⟩
  go_wp2_with fail
  refine (d _).mono ?_
  rintro e w1 ⟨rfl, n, rfl⟩
  go_wp2
  go_ret2
  exact ⟨rfl, rfl, rfl, rfl, Nat.le_refl _, fun _ _ => rfl⟩
end Mk
end Go.Proofs.Ytibhldifmneboaa
