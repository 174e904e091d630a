/- Contracts of package code's read and of its deferred closure, for each kind of thing that is read. -/
import Derived.Test.YtibhldifmneboaaRn
import Derived.Defers
import Derived.Recover
namespace Go.Proofs.Ytibhldifmneboaa
open Go.RowKit
namespace Rd
open Cd Pl
set_option linter.unusedVariables false
theorem st_complex (P : Program) (w : World) (a : Addr) (m : Mode) (k : FloatKind) (x y : Nat) : (store a (.complex k x y) m).run P w = stored P w a (.complex k x y) m := run_store P w a _ m rfl
attribute [local go_sem] st_complex

theorem assert_fault (a b : Int) (w : World) : (Instr.typeAssert (.iface 115 (.agg #[.int .i64 a, .int .i64 b])) 20 115 true).run Try.prog w = .ok (.tuple #[.agg #[.int .i64 a, .int .i64 b], .bool true]) w := by kernel_rfl
theorem assert_nil (w : World) : (Instr.typeAssert .nilIface 20 115 true).run Try.prog w = .ok (.tuple #[.agg #[.int .i64 0, .int .i64 0], .bool false]) w := by kernel_rfl

theorem catch_i (B g0 g1 g2 : Nat) (p er : Int) (x0 x1 x2 : Value) (older : List PanicEntry) (w : World) (h0 : B ≤ g0) (h1 : B ≤ g1) (h2 : B ≤ g2) (h01 : ¬ g0 = g1) (h02 : ¬ g0 = g2) (h12 : ¬ g1 = g2)
    (b0 : w.heap[g0]? = some (.cells #[x0] 2 (0, 0))) (b1 : w.heap[g1]? = some (.cells #[x1] 3 (0, 0))) (b2 : w.heap[g2]? = some (.cells #[x2] 27 (0, 0))) :
    CallsD Try.prog 89 #[.pointer (some ⟨g0, 0, none⟩), .pointer (some ⟨g1, 0, none⟩), .pointer (some ⟨g2, 0, none⟩)] (.panicking ({ v := fault p er, recovered := false } :: older)) w fun e u' w' =>
      e = .returned (.tuple #[]) ∧ u' = .panicking ({ v := fault p er, recovered := true } :: older) ∧ w'.cell? ⟨g0, 0, none⟩ = some (.int .i64 0) ∧ w'.cell? ⟨g1, 0, none⟩ = some (.int .i64 p) ∧ w'.cell? ⟨g2, 0, none⟩ = some (.int .i64 er) ∧ Below B w w' := by
  refine callsD_of_wpS Try.func89 rfl fun c₀ cs hu => ?_
  apply wpS_seq
  apply wpS_region
  have hta := fun w => assert_fault p er w
  simp [wpOpsS, go_sem, recoverD, hu, Try.ntmps89, Exit.thenS, fault, hta]
  refine wpS_of_wp ?_
  have l0 : g0 < w.heap.size := (Array.getElem?_eq_some_iff.1 b0).1
  have l1 : g1 < w.heap.size := (Array.getElem?_eq_some_iff.1 b1).1
  have l2 : g2 < w.heap.size := (Array.getElem?_eq_some_iff.1 b2).1
  have c0 : w.cell? ⟨g0, 0, none⟩ = some x0 := by simp [World.cell?, b0]
  have c1 : w.cell? ⟨g1, 0, none⟩ = some x1 := by simp [World.cell?, b1]
  have c2 : w.cell? ⟨g2, 0, none⟩ = some x2 := by simp [World.cell?, b2]
  have f0 : w.frozen? ⟨g0, 0, none⟩ = false := by simp [World.frozen?, b0]
  have f1 : w.frozen? ⟨g1, 0, none⟩ = false := by simp [World.frozen?, b1]
  have f2 : w.frozen? ⟨g2, 0, none⟩ = false := by simp [World.frozen?, b2]
  have h10 : ¬ g1 = g0 := fun e => h01 e.symm
  have h20 : ¬ g2 = g0 := fun e => h02 e.symm
  have h21 : ¬ g2 = g1 := fun e => h12 e.symm
  clear b0 b1 b2
  simp only [Array.replicate_succ, Array.replicate_zero, List.push_toArray, List.nil_append, List.cons_append, List.setIfInBounds_toArray, List.set_cons_zero, List.set_cons_succ, List.append_toArray]
  go_wp2
  go_region
  change bodyPostS Try.prog Try.f89 c₀ cs _ Exit.normal _ _ _
  simp [bodyPostS, results, Try.results89]
  refine ⟨by go_simp, by go_simp, by go_simp, ?_⟩
  exact (((((Below.refl B w).setCell (p := ⟨g0, 0, none⟩) h0 _).setCell (p := ⟨g1, 0, none⟩) h1 _).setCell (p := ⟨g2, 0, none⟩) h2 _).alloc (by simp [World.setCell]; omega) _).drew

theorem idle_i (g0 g1 g2 : Nat) (w : World) :
    CallsD Try.prog 89 #[.pointer (some ⟨g0, 0, none⟩), .pointer (some ⟨g1, 0, none⟩), .pointer (some ⟨g2, 0, none⟩)] .returning w fun e u' w' => e = .returned (.tuple #[]) ∧ u' = .returning ∧ Below w.heap.size w w' := by
  refine callsD_of_wpS Try.func89 rfl fun c₀ cs hu => ?_
  apply wpS_seq
  apply wpS_region
  have hta := fun w => assert_nil w
  simp [wpOpsS, go_sem, recoverD, hu, Try.ntmps89, Exit.thenS, hta]
  refine wpS_of_wp ?_
  simp only [Array.replicate_succ, Array.replicate_zero, List.push_toArray, List.nil_append, List.cons_append, List.setIfInBounds_toArray, List.set_cons_zero, List.set_cons_succ, List.append_toArray]
  go_wp2
  simp [bodyPostS, results, Try.results89]
  refine ⟨_, ?_, hu, (Below.refl _ _).alloc (Nat.le_refl _) _⟩
  rfl
theorem catch_s (B g0 g1 g2 : Nat) (p er : Int) (x0 x1 x2 : Value) (older : List PanicEntry) (w : World) (h0 : B ≤ g0) (h1 : B ≤ g1) (h2 : B ≤ g2) (h01 : ¬ g0 = g1) (h02 : ¬ g0 = g2) (h12 : ¬ g1 = g2)
    (b0 : w.heap[g0]? = some (.cells #[x0] 9 (0, 0))) (b1 : w.heap[g1]? = some (.cells #[x1] 3 (0, 0))) (b2 : w.heap[g2]? = some (.cells #[x2] 27 (0, 0))) :
    CallsD Try.prog 90 #[.pointer (some ⟨g0, 0, none⟩), .pointer (some ⟨g1, 0, none⟩), .pointer (some ⟨g2, 0, none⟩)] (.panicking ({ v := fault p er, recovered := false } :: older)) w fun e u' w' =>
      e = .returned (.tuple #[]) ∧ u' = .panicking ({ v := fault p er, recovered := true } :: older) ∧ w'.cell? ⟨g0, 0, none⟩ = some (.string ⟨#[]⟩) ∧ w'.cell? ⟨g1, 0, none⟩ = some (.int .i64 p) ∧ w'.cell? ⟨g2, 0, none⟩ = some (.int .i64 er) ∧ Below B w w' := by
  refine callsD_of_wpS Try.func90 rfl fun c₀ cs hu => ?_
  apply wpS_seq
  apply wpS_region
  have hta := fun w => assert_fault p er w
  simp [wpOpsS, go_sem, recoverD, hu, Try.ntmps90, Exit.thenS, fault, hta]
  refine wpS_of_wp ?_
  have l0 : g0 < w.heap.size := (Array.getElem?_eq_some_iff.1 b0).1
  have l1 : g1 < w.heap.size := (Array.getElem?_eq_some_iff.1 b1).1
  have l2 : g2 < w.heap.size := (Array.getElem?_eq_some_iff.1 b2).1
  have c0 : w.cell? ⟨g0, 0, none⟩ = some x0 := by simp [World.cell?, b0]
  have c1 : w.cell? ⟨g1, 0, none⟩ = some x1 := by simp [World.cell?, b1]
  have c2 : w.cell? ⟨g2, 0, none⟩ = some x2 := by simp [World.cell?, b2]
  have f0 : w.frozen? ⟨g0, 0, none⟩ = false := by simp [World.frozen?, b0]
  have f1 : w.frozen? ⟨g1, 0, none⟩ = false := by simp [World.frozen?, b1]
  have f2 : w.frozen? ⟨g2, 0, none⟩ = false := by simp [World.frozen?, b2]
  have h10 : ¬ g1 = g0 := fun e => h01 e.symm
  have h20 : ¬ g2 = g0 := fun e => h02 e.symm
  have h21 : ¬ g2 = g1 := fun e => h12 e.symm
  clear b0 b1 b2
  simp only [Array.replicate_succ, Array.replicate_zero, List.push_toArray, List.nil_append, List.cons_append, List.setIfInBounds_toArray, List.set_cons_zero, List.set_cons_succ, List.append_toArray]
  go_wp2
  go_region
  change bodyPostS Try.prog Try.f90 c₀ cs _ Exit.normal _ _ _
  simp [bodyPostS, results, Try.results90]
  refine ⟨by go_simp, by go_simp, by go_simp, ?_⟩
  exact (((((Below.refl B w).setCell (p := ⟨g0, 0, none⟩) h0 _).setCell (p := ⟨g1, 0, none⟩) h1 _).setCell (p := ⟨g2, 0, none⟩) h2 _).alloc (by simp [World.setCell]; omega) _).drew

theorem idle_s (g0 g1 g2 : Nat) (w : World) :
    CallsD Try.prog 90 #[.pointer (some ⟨g0, 0, none⟩), .pointer (some ⟨g1, 0, none⟩), .pointer (some ⟨g2, 0, none⟩)] .returning w fun e u' w' => e = .returned (.tuple #[]) ∧ u' = .returning ∧ Below w.heap.size w w' := by
  refine callsD_of_wpS Try.func90 rfl fun c₀ cs hu => ?_
  apply wpS_seq
  apply wpS_region
  have hta := fun w => assert_nil w
  simp [wpOpsS, go_sem, recoverD, hu, Try.ntmps90, Exit.thenS, hta]
  refine wpS_of_wp ?_
  simp only [Array.replicate_succ, Array.replicate_zero, List.push_toArray, List.nil_append, List.cons_append, List.setIfInBounds_toArray, List.set_cons_zero, List.set_cons_succ, List.append_toArray]
  go_wp2
  simp [bodyPostS, results, Try.results90]
  refine ⟨_, ?_, hu, (Below.refl _ _).alloc (Nat.le_refl _) _⟩
  rfl
theorem catch_u (B g0 g1 g2 : Nat) (p er : Int) (x0 x1 x2 : Value) (older : List PanicEntry) (w : World) (h0 : B ≤ g0) (h1 : B ≤ g1) (h2 : B ≤ g2) (h01 : ¬ g0 = g1) (h02 : ¬ g0 = g2) (h12 : ¬ g1 = g2)
    (b0 : w.heap[g0]? = some (.cells #[x0] 42 (0, 0))) (b1 : w.heap[g1]? = some (.cells #[x1] 3 (0, 0))) (b2 : w.heap[g2]? = some (.cells #[x2] 27 (0, 0))) :
    CallsD Try.prog 92 #[.pointer (some ⟨g0, 0, none⟩), .pointer (some ⟨g1, 0, none⟩), .pointer (some ⟨g2, 0, none⟩)] (.panicking ({ v := fault p er, recovered := false } :: older)) w fun e u' w' =>
      e = .returned (.tuple #[]) ∧ u' = .panicking ({ v := fault p er, recovered := true } :: older) ∧ w'.cell? ⟨g0, 0, none⟩ = some (.int .u64 0) ∧ w'.cell? ⟨g1, 0, none⟩ = some (.int .i64 p) ∧ w'.cell? ⟨g2, 0, none⟩ = some (.int .i64 er) ∧ Below B w w' := by
  refine callsD_of_wpS Try.func92 rfl fun c₀ cs hu => ?_
  apply wpS_seq
  apply wpS_region
  have hta := fun w => assert_fault p er w
  simp [wpOpsS, go_sem, recoverD, hu, Try.ntmps92, Exit.thenS, fault, hta]
  refine wpS_of_wp ?_
  have l0 : g0 < w.heap.size := (Array.getElem?_eq_some_iff.1 b0).1
  have l1 : g1 < w.heap.size := (Array.getElem?_eq_some_iff.1 b1).1
  have l2 : g2 < w.heap.size := (Array.getElem?_eq_some_iff.1 b2).1
  have c0 : w.cell? ⟨g0, 0, none⟩ = some x0 := by simp [World.cell?, b0]
  have c1 : w.cell? ⟨g1, 0, none⟩ = some x1 := by simp [World.cell?, b1]
  have c2 : w.cell? ⟨g2, 0, none⟩ = some x2 := by simp [World.cell?, b2]
  have f0 : w.frozen? ⟨g0, 0, none⟩ = false := by simp [World.frozen?, b0]
  have f1 : w.frozen? ⟨g1, 0, none⟩ = false := by simp [World.frozen?, b1]
  have f2 : w.frozen? ⟨g2, 0, none⟩ = false := by simp [World.frozen?, b2]
  have h10 : ¬ g1 = g0 := fun e => h01 e.symm
  have h20 : ¬ g2 = g0 := fun e => h02 e.symm
  have h21 : ¬ g2 = g1 := fun e => h12 e.symm
  clear b0 b1 b2
  simp only [Array.replicate_succ, Array.replicate_zero, List.push_toArray, List.nil_append, List.cons_append, List.setIfInBounds_toArray, List.set_cons_zero, List.set_cons_succ, List.append_toArray]
  go_wp2
  go_region
  change bodyPostS Try.prog Try.f92 c₀ cs _ Exit.normal _ _ _
  simp [bodyPostS, results, Try.results92]
  refine ⟨by go_simp, by go_simp, by go_simp, ?_⟩
  exact (((((Below.refl B w).setCell (p := ⟨g0, 0, none⟩) h0 _).setCell (p := ⟨g1, 0, none⟩) h1 _).setCell (p := ⟨g2, 0, none⟩) h2 _).alloc (by simp [World.setCell]; omega) _).drew

theorem idle_u (g0 g1 g2 : Nat) (w : World) :
    CallsD Try.prog 92 #[.pointer (some ⟨g0, 0, none⟩), .pointer (some ⟨g1, 0, none⟩), .pointer (some ⟨g2, 0, none⟩)] .returning w fun e u' w' => e = .returned (.tuple #[]) ∧ u' = .returning ∧ Below w.heap.size w w' := by
  refine callsD_of_wpS Try.func92 rfl fun c₀ cs hu => ?_
  apply wpS_seq
  apply wpS_region
  have hta := fun w => assert_nil w
  simp [wpOpsS, go_sem, recoverD, hu, Try.ntmps92, Exit.thenS, hta]
  refine wpS_of_wp ?_
  simp only [Array.replicate_succ, Array.replicate_zero, List.push_toArray, List.nil_append, List.cons_append, List.setIfInBounds_toArray, List.set_cons_zero, List.set_cons_succ, List.append_toArray]
  go_wp2
  simp [bodyPostS, results, Try.results92]
  refine ⟨_, ?_, hu, (Below.refl _ _).alloc (Nat.le_refl _) _⟩
  rfl
theorem catch_z (B g0 g1 g2 : Nat) (p er : Int) (x0 x1 x2 : Value) (older : List PanicEntry) (w : World) (h0 : B ≤ g0) (h1 : B ≤ g1) (h2 : B ≤ g2) (h01 : ¬ g0 = g1) (h02 : ¬ g0 = g2) (h12 : ¬ g1 = g2)
    (b0 : w.heap[g0]? = some (.cells #[x0] 24 (0, 0))) (b1 : w.heap[g1]? = some (.cells #[x1] 3 (0, 0))) (b2 : w.heap[g2]? = some (.cells #[x2] 27 (0, 0))) :
    CallsD Try.prog 93 #[.pointer (some ⟨g0, 0, none⟩), .pointer (some ⟨g1, 0, none⟩), .pointer (some ⟨g2, 0, none⟩)] (.panicking ({ v := fault p er, recovered := false } :: older)) w fun e u' w' =>
      e = .returned (.tuple #[]) ∧ u' = .panicking ({ v := fault p er, recovered := true } :: older) ∧ w'.cell? ⟨g0, 0, none⟩ = some (.complex .f64 0 0) ∧ w'.cell? ⟨g1, 0, none⟩ = some (.int .i64 p) ∧ w'.cell? ⟨g2, 0, none⟩ = some (.int .i64 er) ∧ Below B w w' := by
  refine callsD_of_wpS Try.func93 rfl fun c₀ cs hu => ?_
  apply wpS_seq
  apply wpS_region
  have hta := fun w => assert_fault p er w
  simp [wpOpsS, go_sem, recoverD, hu, Try.ntmps93, Exit.thenS, fault, hta]
  refine wpS_of_wp ?_
  have l0 : g0 < w.heap.size := (Array.getElem?_eq_some_iff.1 b0).1
  have l1 : g1 < w.heap.size := (Array.getElem?_eq_some_iff.1 b1).1
  have l2 : g2 < w.heap.size := (Array.getElem?_eq_some_iff.1 b2).1
  have c0 : w.cell? ⟨g0, 0, none⟩ = some x0 := by simp [World.cell?, b0]
  have c1 : w.cell? ⟨g1, 0, none⟩ = some x1 := by simp [World.cell?, b1]
  have c2 : w.cell? ⟨g2, 0, none⟩ = some x2 := by simp [World.cell?, b2]
  have f0 : w.frozen? ⟨g0, 0, none⟩ = false := by simp [World.frozen?, b0]
  have f1 : w.frozen? ⟨g1, 0, none⟩ = false := by simp [World.frozen?, b1]
  have f2 : w.frozen? ⟨g2, 0, none⟩ = false := by simp [World.frozen?, b2]
  have h10 : ¬ g1 = g0 := fun e => h01 e.symm
  have h20 : ¬ g2 = g0 := fun e => h02 e.symm
  have h21 : ¬ g2 = g1 := fun e => h12 e.symm
  clear b0 b1 b2
  simp only [Array.replicate_succ, Array.replicate_zero, List.push_toArray, List.nil_append, List.cons_append, List.setIfInBounds_toArray, List.set_cons_zero, List.set_cons_succ, List.append_toArray]
  go_wp2
  go_region
  change bodyPostS Try.prog Try.f93 c₀ cs _ Exit.normal _ _ _
  simp [bodyPostS, results, Try.results93]
  refine ⟨by go_simp, by go_simp, by go_simp, ?_⟩
  exact (((((Below.refl B w).setCell (p := ⟨g0, 0, none⟩) h0 _).setCell (p := ⟨g1, 0, none⟩) h1 _).setCell (p := ⟨g2, 0, none⟩) h2 _).alloc (by simp [World.setCell]; omega) _).drew

theorem idle_z (g0 g1 g2 : Nat) (w : World) :
    CallsD Try.prog 93 #[.pointer (some ⟨g0, 0, none⟩), .pointer (some ⟨g1, 0, none⟩), .pointer (some ⟨g2, 0, none⟩)] .returning w fun e u' w' => e = .returned (.tuple #[]) ∧ u' = .returning ∧ Below w.heap.size w w' := by
  refine callsD_of_wpS Try.func93 rfl fun c₀ cs hu => ?_
  apply wpS_seq
  apply wpS_region
  have hta := fun w => assert_nil w
  simp [wpOpsS, go_sem, recoverD, hu, Try.ntmps93, Exit.thenS, hta]
  refine wpS_of_wp ?_
  simp only [Array.replicate_succ, Array.replicate_zero, List.push_toArray, List.nil_append, List.cons_append, List.setIfInBounds_toArray, List.set_cons_zero, List.set_cons_succ, List.append_toArray]
  go_wp2
  simp [bodyPostS, results, Try.results93]
  refine ⟨_, ?_, hu, (Below.refl _ _).alloc (Nat.le_refl _) _⟩
  rfl
theorem Bs.byt {w : World} {A : Option Addr} {xs : List UInt8} (h : Bs w A xs) : Byt w w.heap.size A xs := fun hx => by
  obtain ⟨ad, e, hc⟩ := h hx
  refine ⟨ad, e, ?_, hc⟩
  have h0 := hc 0 _ (List.getElem?_eq_getElem hx)
  have := World.block_lt_of_cell? w _ h0
  rwa [block_add] at this

/-- what read comes to -/
def Rd_ {α : Type} (val : α → Value) (zero : Value) (o : Out α) (w : World) (e : Ending) (w' : World) : Prop :=
  Below w.heap.size w w' ∧ match o with
  | .ok x k => e = .returned (.tuple #[val x, .int .i64 k, .int .i64 0])
  | .no a er => e = .returned (.tuple #[zero, .int .i64 a, .int .i64 er])

section
variable (w : World) (o0 o1 o2 o3 : Obj)
theorem below4 : Below w.heap.size w ((((w.alloc o0).alloc o1).alloc o2).alloc o3) := ((((Below.refl _ w).alloc (Nat.le_refl _) _).alloc (by simp only [World.size_alloc]; omega) _).alloc (by simp only [World.size_alloc]; omega) _).alloc (by simp only [World.size_alloc]; omega) _
theorem heap3 : ((((w.alloc o0).alloc o1).alloc o2).alloc o3).heap[w.heap.size + 1 + 1 + 1]? = some o3 := by
  have h := heap_alloc_new (((w.alloc o0).alloc o1).alloc o2) o3
  simp only [World.size_alloc] at h
  exact h
theorem heap2 : ((((w.alloc o0).alloc o1).alloc o2).alloc o3).heap[w.heap.size + 1 + 1]? = some o2 := by
  have h := heap_alloc_new ((w.alloc o0).alloc o1) o2
  simp only [World.size_alloc] at h
  exact (Below.heap_alloc _ o3 _ (by simp only [World.size_alloc]; omega)).trans h
theorem heap1 : ((((w.alloc o0).alloc o1).alloc o2).alloc o3).heap[w.heap.size + 1]? = some o1 := by
  have h := heap_alloc_new (w.alloc o0) o1
  simp only [World.size_alloc] at h
  exact (Below.heap_alloc _ o3 _ (by simp only [World.size_alloc]; omega)).trans ((Below.heap_alloc _ o2 _ (by simp only [World.size_alloc]; omega)).trans h)
theorem heap0 : ((((w.alloc o0).alloc o1).alloc o2).alloc o3).heap[w.heap.size]? = some o0 :=
  (Below.heap_alloc _ o3 _ (by simp only [World.size_alloc]; omega)).trans ((Below.heap_alloc _ o2 _ (by simp only [World.size_alloc]; omega)).trans ((Below.heap_alloc _ o1 _ (by simp only [World.size_alloc]; omega)).trans (heap_alloc_new w o0)))
theorem byt4 {w : World} {A : Option Addr} {xs : List UInt8} (h : Byt w w.heap.size A xs) (o0 o1 o2 o3 : Obj) : Byt ((((w.alloc o0).alloc o1).alloc o2).alloc o3) (w.heap.size + 1 + 1 + 1) A xs := fun hx => by
  obtain ⟨ad, e, hb, hc⟩ := h hx
  refine ⟨ad, e, by omega, fun j u hu => ((below4 w o0 o1 o2 o3).cell ?_).trans (hc j u hu)⟩
  rw [block_add]; exact hb
end

set_option maxHeartbeats 1000000 in
theorem read_i (A : Option Addr) (n c : Nat) (xs : List UInt8) (hx : xs.length = n) (O : Out Int) (w : World) (hb : Bs w A xs)
    (hdo : ∀ (g : Nat) (W : World), At W g A n c 0 → Byt W g A xs → Calls Try.prog 63 #[.pointer (some ⟨g, 0, none⟩)] W (Come g A n c 0 ValI O W)) :
    Calls Try.prog 62 #[.slice A n c, .func (.func 63) #[] #[]] w (Rd_ ValI (.int .i64 0) O w) := by
  have hmf : ∀ (fn : Fn) (first cap : Array Value) (w : World), (Instr.makeFunc fn first cap).run Try.prog w = .ok (.func fn first cap) w := fun _ _ _ _ => rfl
  have hB := hb.byt
  have HD := Lib.hid hdo
  clear hdo hb
  have hAt : At ((((w.alloc (.cells #[.int .i64 0] 2)).alloc (.cells #[.int .i64 0] 3)).alloc (.cells #[.int .i64 0] 27)).alloc (.cells #[.slice A n c, .int .i64 0] 104)) (w.heap.size + 1 + 1 + 1) A n c 0 := heap3 w _ _ _ _
  have hBy : Byt ((((w.alloc (.cells #[.int .i64 0] 2)).alloc (.cells #[.int .i64 0] 3)).alloc (.cells #[.int .i64 0] 27)).alloc (.cells #[.slice A n c, .int .i64 0] 104)) (w.heap.size + 1 + 1 + 1) A xs := byt4 hB _ _ _ _
  have hb4 := below4 w (.cells #[.int .i64 0] 2) (.cells #[.int .i64 0] 3) (.cells #[.int .i64 0] 27) (.cells #[.slice A n c, .int .i64 0] 104)
  have d0 := heap0 w (.cells #[.int .i64 0] 2) (.cells #[.int .i64 0] 3) (.cells #[.int .i64 0] 27) (.cells #[.slice A n c, .int .i64 0] 104)
  have d1 := heap1 w (.cells #[.int .i64 0] 2) (.cells #[.int .i64 0] 3) (.cells #[.int .i64 0] 27) (.cells #[.slice A n c, .int .i64 0] 104)
  have d2 := heap2 w (.cells #[.int .i64 0] 2) (.cells #[.int .i64 0] 3) (.cells #[.int .i64 0] 27) (.cells #[.slice A n c, .int .i64 0] 104)
  have cd := HD.out _ _ hAt hBy
  have sz := hAt.lt
  obtain ⟨W, hW⟩ : ∃ W, W = ((((w.alloc (.cells #[.int .i64 0] 2)).alloc (.cells #[.int .i64 0] 3)).alloc (.cells #[.int .i64 0] 27)).alloc (.cells #[.slice A n c, .int .i64 0] 104)) := ⟨_, rfl⟩
  have HW := Lib.hid hW
  rw [← hW] at cd hb4 d0 d1 d2 sz
  clear hW hAt hBy hB HD
  have D0 := Lib.hid d0
  have D1 := Lib.hid d1
  have D2 := Lib.hid d2
  clear d0 d1 d2
  cases O with
  | ok x k =>
    go_enter_defers Try.func62, Try.ntmps62
    go_wp2_with fail
    rw [← HW.out]
    refine cd.mono ?_
    rintro e w2 ⟨rfl, a2, g2⟩
    obtain ⟨r0, r1, rf⟩ := a2.cells
    have ha2 := a2.lt
    have e0 : w2.heap[w.heap.size]? = some (.cells #[.int .i64 0] 2 (0, 0)) := (g2.block _ (by omega) (by intro h; injection h; omega)).trans D0.out
    have e1 : w2.heap[w.heap.size + 1]? = some (.cells #[.int .i64 0] 3 (0, 0)) := (g2.block _ (by omega) (by intro h; injection h; omega)).trans D1.out
    have e2 : w2.heap[w.heap.size + 1 + 1]? = some (.cells #[.int .i64 0] 27 (0, 0)) := (g2.block _ (by omega) (by intro h; injection h; omega)).trans D2.out
    have c0 : w2.cell? ⟨w.heap.size, 0, none⟩ = some (.int .i64 0) := by simp [World.cell?, e0]
    have c1 : w2.cell? ⟨w.heap.size + 1, 0, none⟩ = some (.int .i64 0) := by simp [World.cell?, e1]
    have c2 : w2.cell? ⟨w.heap.size + 1 + 1, 0, none⟩ = some (.int .i64 0) := by simp [World.cell?, e2]
    have f0 : w2.frozen? ⟨w.heap.size, 0, none⟩ = false := by simp [World.frozen?, e0]
    have f1 : w2.frozen? ⟨w.heap.size + 1, 0, none⟩ = false := by simp [World.frozen?, e1]
    have f2 : w2.frozen? ⟨w.heap.size + 1 + 1, 0, none⟩ = false := by simp [World.frozen?, e2]
    have B2 : Below w.heap.size w w2 := hb4.trans ⟨g2.os, g2.tape, g2.output, g2.size, fun i hi => g2.block i (by omega) (by intro h; injection h; omega)⟩
    have hv : ValI x = .int .i64 x := rfl
    clear e0 e1 e2
    go_wp2
    go_region
    go_wp2
    obtain ⟨W3, hW3⟩ : ∃ W3, W3 = ((((w2.setCell ⟨w.heap.size, 0, none⟩ (.int .i64 x)).setCell ⟨w.heap.size, 0, none⟩ (.int .i64 x)).setCell ⟨w.heap.size + 1, 0, none⟩ (.int .i64 k)).setCell ⟨w.heap.size + 1 + 1, 0, none⟩ (.int .i64 0)).drew := ⟨_, rfl⟩
    have q0 : W3.cell? ⟨w.heap.size, 0, none⟩ = some (.int .i64 x) := by rw [hW3]; go_simp
    have q1 : W3.cell? ⟨w.heap.size + 1, 0, none⟩ = some (.int .i64 k) := by rw [hW3]; go_simp
    have q2 : W3.cell? ⟨w.heap.size + 1 + 1, 0, none⟩ = some (.int .i64 0) := by rw [hW3]; go_simp
    have B3 : Below w.heap.size w W3 := by
      rw [hW3]
      exact ((((B2.setCell (p := ⟨w.heap.size, 0, none⟩) (Nat.le_refl _) _).setCell (p := ⟨w.heap.size, 0, none⟩) (Nat.le_refl _) _).setCell (p := ⟨w.heap.size + 1, 0, none⟩) (by simp) _).setCell (p := ⟨w.heap.size + 1 + 1, 0, none⟩) (by simp; omega) _).drew
    have sz3 : w.heap.size + 1 + 1 < W3.heap.size := by rw [hW3]; simp [World.setCell]; omega
    rw [← hW3]
    clear hW3
    refine leaves_cons (f := 89) (args := #[.pointer (some ⟨w.heap.size, 0, none⟩), .pointer (some ⟨w.heap.size + 1, 0, none⟩), .pointer (some ⟨w.heap.size + 1 + 1, 0, none⟩)]) (by simp) (by simp [go_sem]) ?_
    refine (idle_i _ _ _ W3).mono ?_
    rintro e u' w4 ⟨rfl, rfl, k4⟩
    have t0 : w4.cell? ⟨w.heap.size, 0, none⟩ = some (.int .i64 x) := (k4.cell (p := ⟨w.heap.size, 0, none⟩) (by simp; omega)).trans q0
    have t1 : w4.cell? ⟨w.heap.size + 1, 0, none⟩ = some (.int .i64 k) := (k4.cell (p := ⟨w.heap.size + 1, 0, none⟩) (by simp; omega)).trans q1
    have t2 : w4.cell? ⟨w.heap.size + 1 + 1, 0, none⟩ = some (.int .i64 0) := (k4.cell (p := ⟨w.heap.size + 1 + 1, 0, none⟩) (by simp; omega)).trans q2
    have B4 := B3.trans (k4.mono B3.size)
    simp [Leaves, settle, results, Try.results62, go_sem, t0, t1, t2, Rd_, B4, ValI]
  | no a er =>
    go_enter_defers Try.func62, Try.ntmps62
    go_wp2_with fail
    rw [← HW.out]
    refine cd.mono ?_
    rintro e w2 ⟨rfl, g2⟩
    have ha2 : w.heap.size + 1 + 1 + 1 < w2.heap.size := Nat.lt_of_lt_of_le sz g2.size
    have e0 : w2.heap[w.heap.size]? = some (.cells #[.int .i64 0] 2 (0, 0)) := (g2.block _ (by omega) (by intro h; injection h; omega)).trans D0.out
    have e1 : w2.heap[w.heap.size + 1]? = some (.cells #[.int .i64 0] 3 (0, 0)) := (g2.block _ (by omega) (by intro h; injection h; omega)).trans D1.out
    have e2 : w2.heap[w.heap.size + 1 + 1]? = some (.cells #[.int .i64 0] 27 (0, 0)) := (g2.block _ (by omega) (by intro h; injection h; omega)).trans D2.out
    have B2 : Below w.heap.size w w2 := hb4.trans ⟨g2.os, g2.tape, g2.output, g2.size, fun i hi => g2.block i (by omega) (by intro h; injection h; omega)⟩
    refine leaves_cons (f := 89) (args := #[.pointer (some ⟨w.heap.size, 0, none⟩), .pointer (some ⟨w.heap.size + 1, 0, none⟩), .pointer (some ⟨w.heap.size + 1 + 1, 0, none⟩)]) (by simp) (by simp [go_sem]) ?_
    refine (catch_i w.heap.size _ _ _ _ er _ _ _ [] w2 (Nat.le_refl _) (by omega) (by omega) (by omega) (by omega) (by omega) e0 e1 e2).mono ?_
    rintro e u' w4 ⟨rfl, rfl, t0, t1, t2, k4⟩
    have B4 := B2.trans k4
    simp [Leaves, settle, results, Try.results62, go_sem, t0, t1, t2, Rd_, B4]
set_option maxHeartbeats 1000000 in
theorem read_s (A : Option Addr) (n c : Nat) (xs : List UInt8) (hx : xs.length = n) (O : Out ByteArray) (w : World) (hb : Bs w A xs)
    (hdo : ∀ (g : Nat) (W : World), At W g A n c 0 → Byt W g A xs → Calls Try.prog 65 #[.pointer (some ⟨g, 0, none⟩)] W (Come g A n c 0 ValS O W)) :
    Calls Try.prog 64 #[.slice A n c, .func (.func 65) #[] #[]] w (Rd_ ValS (.string ⟨#[]⟩) O w) := by
  have hmf : ∀ (fn : Fn) (first cap : Array Value) (w : World), (Instr.makeFunc fn first cap).run Try.prog w = .ok (.func fn first cap) w := fun _ _ _ _ => rfl
  have hB := hb.byt
  have HD := Lib.hid hdo
  clear hdo hb
  have hAt : At ((((w.alloc (.cells #[.string ⟨#[]⟩] 9)).alloc (.cells #[.int .i64 0] 3)).alloc (.cells #[.int .i64 0] 27)).alloc (.cells #[.slice A n c, .int .i64 0] 104)) (w.heap.size + 1 + 1 + 1) A n c 0 := heap3 w _ _ _ _
  have hBy : Byt ((((w.alloc (.cells #[.string ⟨#[]⟩] 9)).alloc (.cells #[.int .i64 0] 3)).alloc (.cells #[.int .i64 0] 27)).alloc (.cells #[.slice A n c, .int .i64 0] 104)) (w.heap.size + 1 + 1 + 1) A xs := byt4 hB _ _ _ _
  have hb4 := below4 w (.cells #[.string ⟨#[]⟩] 9) (.cells #[.int .i64 0] 3) (.cells #[.int .i64 0] 27) (.cells #[.slice A n c, .int .i64 0] 104)
  have d0 := heap0 w (.cells #[.string ⟨#[]⟩] 9) (.cells #[.int .i64 0] 3) (.cells #[.int .i64 0] 27) (.cells #[.slice A n c, .int .i64 0] 104)
  have d1 := heap1 w (.cells #[.string ⟨#[]⟩] 9) (.cells #[.int .i64 0] 3) (.cells #[.int .i64 0] 27) (.cells #[.slice A n c, .int .i64 0] 104)
  have d2 := heap2 w (.cells #[.string ⟨#[]⟩] 9) (.cells #[.int .i64 0] 3) (.cells #[.int .i64 0] 27) (.cells #[.slice A n c, .int .i64 0] 104)
  have cd := HD.out _ _ hAt hBy
  have sz := hAt.lt
  obtain ⟨W, hW⟩ : ∃ W, W = ((((w.alloc (.cells #[.string ⟨#[]⟩] 9)).alloc (.cells #[.int .i64 0] 3)).alloc (.cells #[.int .i64 0] 27)).alloc (.cells #[.slice A n c, .int .i64 0] 104)) := ⟨_, rfl⟩
  have HW := Lib.hid hW
  rw [← hW] at cd hb4 d0 d1 d2 sz
  clear hW hAt hBy hB HD
  have D0 := Lib.hid d0
  have D1 := Lib.hid d1
  have D2 := Lib.hid d2
  clear d0 d1 d2
  cases O with
  | ok x k =>
    go_enter_defers Try.func64, Try.ntmps64
    go_wp2_with fail
    rw [← HW.out]
    refine cd.mono ?_
    rintro e w2 ⟨rfl, a2, g2⟩
    obtain ⟨r0, r1, rf⟩ := a2.cells
    have ha2 := a2.lt
    have e0 : w2.heap[w.heap.size]? = some (.cells #[.string ⟨#[]⟩] 9 (0, 0)) := (g2.block _ (by omega) (by intro h; injection h; omega)).trans D0.out
    have e1 : w2.heap[w.heap.size + 1]? = some (.cells #[.int .i64 0] 3 (0, 0)) := (g2.block _ (by omega) (by intro h; injection h; omega)).trans D1.out
    have e2 : w2.heap[w.heap.size + 1 + 1]? = some (.cells #[.int .i64 0] 27 (0, 0)) := (g2.block _ (by omega) (by intro h; injection h; omega)).trans D2.out
    have c0 : w2.cell? ⟨w.heap.size, 0, none⟩ = some (.string ⟨#[]⟩) := by simp [World.cell?, e0]
    have c1 : w2.cell? ⟨w.heap.size + 1, 0, none⟩ = some (.int .i64 0) := by simp [World.cell?, e1]
    have c2 : w2.cell? ⟨w.heap.size + 1 + 1, 0, none⟩ = some (.int .i64 0) := by simp [World.cell?, e2]
    have f0 : w2.frozen? ⟨w.heap.size, 0, none⟩ = false := by simp [World.frozen?, e0]
    have f1 : w2.frozen? ⟨w.heap.size + 1, 0, none⟩ = false := by simp [World.frozen?, e1]
    have f2 : w2.frozen? ⟨w.heap.size + 1 + 1, 0, none⟩ = false := by simp [World.frozen?, e2]
    have B2 : Below w.heap.size w w2 := hb4.trans ⟨g2.os, g2.tape, g2.output, g2.size, fun i hi => g2.block i (by omega) (by intro h; injection h; omega)⟩
    have hv : ValS x = .string x := rfl
    clear e0 e1 e2
    go_wp2
    go_region
    go_wp2
    obtain ⟨W3, hW3⟩ : ∃ W3, W3 = ((((w2.setCell ⟨w.heap.size, 0, none⟩ (.string x)).setCell ⟨w.heap.size, 0, none⟩ (.string x)).setCell ⟨w.heap.size + 1, 0, none⟩ (.int .i64 k)).setCell ⟨w.heap.size + 1 + 1, 0, none⟩ (.int .i64 0)).drew := ⟨_, rfl⟩
    have q0 : W3.cell? ⟨w.heap.size, 0, none⟩ = some (.string x) := by rw [hW3]; go_simp
    have q1 : W3.cell? ⟨w.heap.size + 1, 0, none⟩ = some (.int .i64 k) := by rw [hW3]; go_simp
    have q2 : W3.cell? ⟨w.heap.size + 1 + 1, 0, none⟩ = some (.int .i64 0) := by rw [hW3]; go_simp
    have B3 : Below w.heap.size w W3 := by
      rw [hW3]
      exact ((((B2.setCell (p := ⟨w.heap.size, 0, none⟩) (Nat.le_refl _) _).setCell (p := ⟨w.heap.size, 0, none⟩) (Nat.le_refl _) _).setCell (p := ⟨w.heap.size + 1, 0, none⟩) (by simp) _).setCell (p := ⟨w.heap.size + 1 + 1, 0, none⟩) (by simp; omega) _).drew
    have sz3 : w.heap.size + 1 + 1 < W3.heap.size := by rw [hW3]; simp [World.setCell]; omega
    rw [← hW3]
    clear hW3
    refine leaves_cons (f := 90) (args := #[.pointer (some ⟨w.heap.size, 0, none⟩), .pointer (some ⟨w.heap.size + 1, 0, none⟩), .pointer (some ⟨w.heap.size + 1 + 1, 0, none⟩)]) (by simp) (by simp [go_sem]) ?_
    refine (idle_s _ _ _ W3).mono ?_
    rintro e u' w4 ⟨rfl, rfl, k4⟩
    have t0 : w4.cell? ⟨w.heap.size, 0, none⟩ = some (.string x) := (k4.cell (p := ⟨w.heap.size, 0, none⟩) (by simp; omega)).trans q0
    have t1 : w4.cell? ⟨w.heap.size + 1, 0, none⟩ = some (.int .i64 k) := (k4.cell (p := ⟨w.heap.size + 1, 0, none⟩) (by simp; omega)).trans q1
    have t2 : w4.cell? ⟨w.heap.size + 1 + 1, 0, none⟩ = some (.int .i64 0) := (k4.cell (p := ⟨w.heap.size + 1 + 1, 0, none⟩) (by simp; omega)).trans q2
    have B4 := B3.trans (k4.mono B3.size)
    simp [Leaves, settle, results, Try.results64, go_sem, t0, t1, t2, Rd_, B4, ValS]
  | no a er =>
    go_enter_defers Try.func64, Try.ntmps64
    go_wp2_with fail
    rw [← HW.out]
    refine cd.mono ?_
    rintro e w2 ⟨rfl, g2⟩
    have ha2 : w.heap.size + 1 + 1 + 1 < w2.heap.size := Nat.lt_of_lt_of_le sz g2.size
    have e0 : w2.heap[w.heap.size]? = some (.cells #[.string ⟨#[]⟩] 9 (0, 0)) := (g2.block _ (by omega) (by intro h; injection h; omega)).trans D0.out
    have e1 : w2.heap[w.heap.size + 1]? = some (.cells #[.int .i64 0] 3 (0, 0)) := (g2.block _ (by omega) (by intro h; injection h; omega)).trans D1.out
    have e2 : w2.heap[w.heap.size + 1 + 1]? = some (.cells #[.int .i64 0] 27 (0, 0)) := (g2.block _ (by omega) (by intro h; injection h; omega)).trans D2.out
    have B2 : Below w.heap.size w w2 := hb4.trans ⟨g2.os, g2.tape, g2.output, g2.size, fun i hi => g2.block i (by omega) (by intro h; injection h; omega)⟩
    refine leaves_cons (f := 90) (args := #[.pointer (some ⟨w.heap.size, 0, none⟩), .pointer (some ⟨w.heap.size + 1, 0, none⟩), .pointer (some ⟨w.heap.size + 1 + 1, 0, none⟩)]) (by simp) (by simp [go_sem]) ?_
    refine (catch_s w.heap.size _ _ _ _ er _ _ _ [] w2 (Nat.le_refl _) (by omega) (by omega) (by omega) (by omega) (by omega) e0 e1 e2).mono ?_
    rintro e u' w4 ⟨rfl, rfl, t0, t1, t2, k4⟩
    have B4 := B2.trans k4
    simp [Leaves, settle, results, Try.results64, go_sem, t0, t1, t2, Rd_, B4]
set_option maxHeartbeats 1000000 in
theorem read_u (A : Option Addr) (n c : Nat) (xs : List UInt8) (hx : xs.length = n) (O : Out Nat) (w : World) (hb : Bs w A xs)
    (hdo : ∀ (g : Nat) (W : World), At W g A n c 0 → Byt W g A xs → Calls Try.prog 67 #[.pointer (some ⟨g, 0, none⟩)] W (Come g A n c 0 Val64 O W)) :
    Calls Try.prog 69 #[.slice A n c, .func (.func 67) #[] #[]] w (Rd_ Val64 (.int .u64 0) O w) := by
  have hmf : ∀ (fn : Fn) (first cap : Array Value) (w : World), (Instr.makeFunc fn first cap).run Try.prog w = .ok (.func fn first cap) w := fun _ _ _ _ => rfl
  have hB := hb.byt
  have HD := Lib.hid hdo
  clear hdo hb
  have hAt : At ((((w.alloc (.cells #[.int .u64 0] 42)).alloc (.cells #[.int .i64 0] 3)).alloc (.cells #[.int .i64 0] 27)).alloc (.cells #[.slice A n c, .int .i64 0] 104)) (w.heap.size + 1 + 1 + 1) A n c 0 := heap3 w _ _ _ _
  have hBy : Byt ((((w.alloc (.cells #[.int .u64 0] 42)).alloc (.cells #[.int .i64 0] 3)).alloc (.cells #[.int .i64 0] 27)).alloc (.cells #[.slice A n c, .int .i64 0] 104)) (w.heap.size + 1 + 1 + 1) A xs := byt4 hB _ _ _ _
  have hb4 := below4 w (.cells #[.int .u64 0] 42) (.cells #[.int .i64 0] 3) (.cells #[.int .i64 0] 27) (.cells #[.slice A n c, .int .i64 0] 104)
  have d0 := heap0 w (.cells #[.int .u64 0] 42) (.cells #[.int .i64 0] 3) (.cells #[.int .i64 0] 27) (.cells #[.slice A n c, .int .i64 0] 104)
  have d1 := heap1 w (.cells #[.int .u64 0] 42) (.cells #[.int .i64 0] 3) (.cells #[.int .i64 0] 27) (.cells #[.slice A n c, .int .i64 0] 104)
  have d2 := heap2 w (.cells #[.int .u64 0] 42) (.cells #[.int .i64 0] 3) (.cells #[.int .i64 0] 27) (.cells #[.slice A n c, .int .i64 0] 104)
  have cd := HD.out _ _ hAt hBy
  have sz := hAt.lt
  obtain ⟨W, hW⟩ : ∃ W, W = ((((w.alloc (.cells #[.int .u64 0] 42)).alloc (.cells #[.int .i64 0] 3)).alloc (.cells #[.int .i64 0] 27)).alloc (.cells #[.slice A n c, .int .i64 0] 104)) := ⟨_, rfl⟩
  have HW := Lib.hid hW
  rw [← hW] at cd hb4 d0 d1 d2 sz
  clear hW hAt hBy hB HD
  have D0 := Lib.hid d0
  have D1 := Lib.hid d1
  have D2 := Lib.hid d2
  clear d0 d1 d2
  cases O with
  | ok x k =>
    go_enter_defers Try.func69, Try.ntmps69
    go_wp2_with fail
    rw [← HW.out]
    refine cd.mono ?_
    rintro e w2 ⟨rfl, a2, g2⟩
    obtain ⟨r0, r1, rf⟩ := a2.cells
    have ha2 := a2.lt
    have e0 : w2.heap[w.heap.size]? = some (.cells #[.int .u64 0] 42 (0, 0)) := (g2.block _ (by omega) (by intro h; injection h; omega)).trans D0.out
    have e1 : w2.heap[w.heap.size + 1]? = some (.cells #[.int .i64 0] 3 (0, 0)) := (g2.block _ (by omega) (by intro h; injection h; omega)).trans D1.out
    have e2 : w2.heap[w.heap.size + 1 + 1]? = some (.cells #[.int .i64 0] 27 (0, 0)) := (g2.block _ (by omega) (by intro h; injection h; omega)).trans D2.out
    have c0 : w2.cell? ⟨w.heap.size, 0, none⟩ = some (.int .u64 0) := by simp [World.cell?, e0]
    have c1 : w2.cell? ⟨w.heap.size + 1, 0, none⟩ = some (.int .i64 0) := by simp [World.cell?, e1]
    have c2 : w2.cell? ⟨w.heap.size + 1 + 1, 0, none⟩ = some (.int .i64 0) := by simp [World.cell?, e2]
    have f0 : w2.frozen? ⟨w.heap.size, 0, none⟩ = false := by simp [World.frozen?, e0]
    have f1 : w2.frozen? ⟨w.heap.size + 1, 0, none⟩ = false := by simp [World.frozen?, e1]
    have f2 : w2.frozen? ⟨w.heap.size + 1 + 1, 0, none⟩ = false := by simp [World.frozen?, e2]
    have B2 : Below w.heap.size w w2 := hb4.trans ⟨g2.os, g2.tape, g2.output, g2.size, fun i hi => g2.block i (by omega) (by intro h; injection h; omega)⟩
    have hv : Val64 x = .int .u64 (x : Int) := rfl
    clear e0 e1 e2
    go_wp2
    go_region
    go_wp2
    obtain ⟨W3, hW3⟩ : ∃ W3, W3 = ((((w2.setCell ⟨w.heap.size, 0, none⟩ (.int .u64 (x : Int))).setCell ⟨w.heap.size, 0, none⟩ (.int .u64 (x : Int))).setCell ⟨w.heap.size + 1, 0, none⟩ (.int .i64 k)).setCell ⟨w.heap.size + 1 + 1, 0, none⟩ (.int .i64 0)).drew := ⟨_, rfl⟩
    have q0 : W3.cell? ⟨w.heap.size, 0, none⟩ = some (.int .u64 (x : Int)) := by rw [hW3]; go_simp
    have q1 : W3.cell? ⟨w.heap.size + 1, 0, none⟩ = some (.int .i64 k) := by rw [hW3]; go_simp
    have q2 : W3.cell? ⟨w.heap.size + 1 + 1, 0, none⟩ = some (.int .i64 0) := by rw [hW3]; go_simp
    have B3 : Below w.heap.size w W3 := by
      rw [hW3]
      exact ((((B2.setCell (p := ⟨w.heap.size, 0, none⟩) (Nat.le_refl _) _).setCell (p := ⟨w.heap.size, 0, none⟩) (Nat.le_refl _) _).setCell (p := ⟨w.heap.size + 1, 0, none⟩) (by simp) _).setCell (p := ⟨w.heap.size + 1 + 1, 0, none⟩) (by simp; omega) _).drew
    have sz3 : w.heap.size + 1 + 1 < W3.heap.size := by rw [hW3]; simp [World.setCell]; omega
    rw [← hW3]
    clear hW3
    refine leaves_cons (f := 92) (args := #[.pointer (some ⟨w.heap.size, 0, none⟩), .pointer (some ⟨w.heap.size + 1, 0, none⟩), .pointer (some ⟨w.heap.size + 1 + 1, 0, none⟩)]) (by simp) (by simp [go_sem]) ?_
    refine (idle_u _ _ _ W3).mono ?_
    rintro e u' w4 ⟨rfl, rfl, k4⟩
    have t0 : w4.cell? ⟨w.heap.size, 0, none⟩ = some (.int .u64 (x : Int)) := (k4.cell (p := ⟨w.heap.size, 0, none⟩) (by simp; omega)).trans q0
    have t1 : w4.cell? ⟨w.heap.size + 1, 0, none⟩ = some (.int .i64 k) := (k4.cell (p := ⟨w.heap.size + 1, 0, none⟩) (by simp; omega)).trans q1
    have t2 : w4.cell? ⟨w.heap.size + 1 + 1, 0, none⟩ = some (.int .i64 0) := (k4.cell (p := ⟨w.heap.size + 1 + 1, 0, none⟩) (by simp; omega)).trans q2
    have B4 := B3.trans (k4.mono B3.size)
    simp [Leaves, settle, results, Try.results69, go_sem, t0, t1, t2, Rd_, B4, Val64]
  | no a er =>
    go_enter_defers Try.func69, Try.ntmps69
    go_wp2_with fail
    rw [← HW.out]
    refine cd.mono ?_
    rintro e w2 ⟨rfl, g2⟩
    have ha2 : w.heap.size + 1 + 1 + 1 < w2.heap.size := Nat.lt_of_lt_of_le sz g2.size
    have e0 : w2.heap[w.heap.size]? = some (.cells #[.int .u64 0] 42 (0, 0)) := (g2.block _ (by omega) (by intro h; injection h; omega)).trans D0.out
    have e1 : w2.heap[w.heap.size + 1]? = some (.cells #[.int .i64 0] 3 (0, 0)) := (g2.block _ (by omega) (by intro h; injection h; omega)).trans D1.out
    have e2 : w2.heap[w.heap.size + 1 + 1]? = some (.cells #[.int .i64 0] 27 (0, 0)) := (g2.block _ (by omega) (by intro h; injection h; omega)).trans D2.out
    have B2 : Below w.heap.size w w2 := hb4.trans ⟨g2.os, g2.tape, g2.output, g2.size, fun i hi => g2.block i (by omega) (by intro h; injection h; omega)⟩
    refine leaves_cons (f := 92) (args := #[.pointer (some ⟨w.heap.size, 0, none⟩), .pointer (some ⟨w.heap.size + 1, 0, none⟩), .pointer (some ⟨w.heap.size + 1 + 1, 0, none⟩)]) (by simp) (by simp [go_sem]) ?_
    refine (catch_u w.heap.size _ _ _ _ er _ _ _ [] w2 (Nat.le_refl _) (by omega) (by omega) (by omega) (by omega) (by omega) e0 e1 e2).mono ?_
    rintro e u' w4 ⟨rfl, rfl, t0, t1, t2, k4⟩
    have B4 := B2.trans k4
    simp [Leaves, settle, results, Try.results69, go_sem, t0, t1, t2, Rd_, B4]
set_option maxHeartbeats 1000000 in
theorem read_z (A : Option Addr) (n c : Nat) (xs : List UInt8) (hx : xs.length = n) (O : Out (Nat × Nat)) (w : World) (hb : Bs w A xs)
    (hdo : ∀ (g : Nat) (W : World), At W g A n c 0 → Byt W g A xs → Calls Try.prog 71 #[.pointer (some ⟨g, 0, none⟩)] W (Come g A n c 0 ValZ O W)) :
    Calls Try.prog 70 #[.slice A n c, .func (.func 71) #[] #[]] w (Rd_ ValZ (.complex .f64 0 0) O w) := by
  have hmf : ∀ (fn : Fn) (first cap : Array Value) (w : World), (Instr.makeFunc fn first cap).run Try.prog w = .ok (.func fn first cap) w := fun _ _ _ _ => rfl
  have hB := hb.byt
  have HD := Lib.hid hdo
  clear hdo hb
  have hAt : At ((((w.alloc (.cells #[.complex .f64 0 0] 24)).alloc (.cells #[.int .i64 0] 3)).alloc (.cells #[.int .i64 0] 27)).alloc (.cells #[.slice A n c, .int .i64 0] 104)) (w.heap.size + 1 + 1 + 1) A n c 0 := heap3 w _ _ _ _
  have hBy : Byt ((((w.alloc (.cells #[.complex .f64 0 0] 24)).alloc (.cells #[.int .i64 0] 3)).alloc (.cells #[.int .i64 0] 27)).alloc (.cells #[.slice A n c, .int .i64 0] 104)) (w.heap.size + 1 + 1 + 1) A xs := byt4 hB _ _ _ _
  have hb4 := below4 w (.cells #[.complex .f64 0 0] 24) (.cells #[.int .i64 0] 3) (.cells #[.int .i64 0] 27) (.cells #[.slice A n c, .int .i64 0] 104)
  have d0 := heap0 w (.cells #[.complex .f64 0 0] 24) (.cells #[.int .i64 0] 3) (.cells #[.int .i64 0] 27) (.cells #[.slice A n c, .int .i64 0] 104)
  have d1 := heap1 w (.cells #[.complex .f64 0 0] 24) (.cells #[.int .i64 0] 3) (.cells #[.int .i64 0] 27) (.cells #[.slice A n c, .int .i64 0] 104)
  have d2 := heap2 w (.cells #[.complex .f64 0 0] 24) (.cells #[.int .i64 0] 3) (.cells #[.int .i64 0] 27) (.cells #[.slice A n c, .int .i64 0] 104)
  have cd := HD.out _ _ hAt hBy
  have sz := hAt.lt
  obtain ⟨W, hW⟩ : ∃ W, W = ((((w.alloc (.cells #[.complex .f64 0 0] 24)).alloc (.cells #[.int .i64 0] 3)).alloc (.cells #[.int .i64 0] 27)).alloc (.cells #[.slice A n c, .int .i64 0] 104)) := ⟨_, rfl⟩
  have HW := Lib.hid hW
  rw [← hW] at cd hb4 d0 d1 d2 sz
  clear hW hAt hBy hB HD
  have D0 := Lib.hid d0
  have D1 := Lib.hid d1
  have D2 := Lib.hid d2
  clear d0 d1 d2
  cases O with
  | ok x k =>
    go_enter_defers Try.func70, Try.ntmps70
    go_wp2_with fail
    rw [← HW.out]
    refine cd.mono ?_
    rintro e w2 ⟨rfl, a2, g2⟩
    obtain ⟨r0, r1, rf⟩ := a2.cells
    have ha2 := a2.lt
    have e0 : w2.heap[w.heap.size]? = some (.cells #[.complex .f64 0 0] 24 (0, 0)) := (g2.block _ (by omega) (by intro h; injection h; omega)).trans D0.out
    have e1 : w2.heap[w.heap.size + 1]? = some (.cells #[.int .i64 0] 3 (0, 0)) := (g2.block _ (by omega) (by intro h; injection h; omega)).trans D1.out
    have e2 : w2.heap[w.heap.size + 1 + 1]? = some (.cells #[.int .i64 0] 27 (0, 0)) := (g2.block _ (by omega) (by intro h; injection h; omega)).trans D2.out
    have c0 : w2.cell? ⟨w.heap.size, 0, none⟩ = some (.complex .f64 0 0) := by simp [World.cell?, e0]
    have c1 : w2.cell? ⟨w.heap.size + 1, 0, none⟩ = some (.int .i64 0) := by simp [World.cell?, e1]
    have c2 : w2.cell? ⟨w.heap.size + 1 + 1, 0, none⟩ = some (.int .i64 0) := by simp [World.cell?, e2]
    have f0 : w2.frozen? ⟨w.heap.size, 0, none⟩ = false := by simp [World.frozen?, e0]
    have f1 : w2.frozen? ⟨w.heap.size + 1, 0, none⟩ = false := by simp [World.frozen?, e1]
    have f2 : w2.frozen? ⟨w.heap.size + 1 + 1, 0, none⟩ = false := by simp [World.frozen?, e2]
    have B2 : Below w.heap.size w w2 := hb4.trans ⟨g2.os, g2.tape, g2.output, g2.size, fun i hi => g2.block i (by omega) (by intro h; injection h; omega)⟩
    have hv : ValZ x = .complex .f64 x.1 x.2 := rfl
    clear e0 e1 e2
    go_wp2
    go_region
    go_wp2
    obtain ⟨W3, hW3⟩ : ∃ W3, W3 = ((((w2.setCell ⟨w.heap.size, 0, none⟩ (.complex .f64 x.1 x.2)).setCell ⟨w.heap.size, 0, none⟩ (.complex .f64 x.1 x.2)).setCell ⟨w.heap.size + 1, 0, none⟩ (.int .i64 k)).setCell ⟨w.heap.size + 1 + 1, 0, none⟩ (.int .i64 0)).drew := ⟨_, rfl⟩
    have q0 : W3.cell? ⟨w.heap.size, 0, none⟩ = some (.complex .f64 x.1 x.2) := by rw [hW3]; go_simp
    have q1 : W3.cell? ⟨w.heap.size + 1, 0, none⟩ = some (.int .i64 k) := by rw [hW3]; go_simp
    have q2 : W3.cell? ⟨w.heap.size + 1 + 1, 0, none⟩ = some (.int .i64 0) := by rw [hW3]; go_simp
    have B3 : Below w.heap.size w W3 := by
      rw [hW3]
      exact ((((B2.setCell (p := ⟨w.heap.size, 0, none⟩) (Nat.le_refl _) _).setCell (p := ⟨w.heap.size, 0, none⟩) (Nat.le_refl _) _).setCell (p := ⟨w.heap.size + 1, 0, none⟩) (by simp) _).setCell (p := ⟨w.heap.size + 1 + 1, 0, none⟩) (by simp; omega) _).drew
    have sz3 : w.heap.size + 1 + 1 < W3.heap.size := by rw [hW3]; simp [World.setCell]; omega
    rw [← hW3]
    clear hW3
    refine leaves_cons (f := 93) (args := #[.pointer (some ⟨w.heap.size, 0, none⟩), .pointer (some ⟨w.heap.size + 1, 0, none⟩), .pointer (some ⟨w.heap.size + 1 + 1, 0, none⟩)]) (by simp) (by simp [go_sem]) ?_
    refine (idle_z _ _ _ W3).mono ?_
    rintro e u' w4 ⟨rfl, rfl, k4⟩
    have t0 : w4.cell? ⟨w.heap.size, 0, none⟩ = some (.complex .f64 x.1 x.2) := (k4.cell (p := ⟨w.heap.size, 0, none⟩) (by simp; omega)).trans q0
    have t1 : w4.cell? ⟨w.heap.size + 1, 0, none⟩ = some (.int .i64 k) := (k4.cell (p := ⟨w.heap.size + 1, 0, none⟩) (by simp; omega)).trans q1
    have t2 : w4.cell? ⟨w.heap.size + 1 + 1, 0, none⟩ = some (.int .i64 0) := (k4.cell (p := ⟨w.heap.size + 1 + 1, 0, none⟩) (by simp; omega)).trans q2
    have B4 := B3.trans (k4.mono B3.size)
    simp [Leaves, settle, results, Try.results70, go_sem, t0, t1, t2, Rd_, B4, ValZ]
  | no a er =>
    go_enter_defers Try.func70, Try.ntmps70
    go_wp2_with fail
    rw [← HW.out]
    refine cd.mono ?_
    rintro e w2 ⟨rfl, g2⟩
    have ha2 : w.heap.size + 1 + 1 + 1 < w2.heap.size := Nat.lt_of_lt_of_le sz g2.size
    have e0 : w2.heap[w.heap.size]? = some (.cells #[.complex .f64 0 0] 24 (0, 0)) := (g2.block _ (by omega) (by intro h; injection h; omega)).trans D0.out
    have e1 : w2.heap[w.heap.size + 1]? = some (.cells #[.int .i64 0] 3 (0, 0)) := (g2.block _ (by omega) (by intro h; injection h; omega)).trans D1.out
    have e2 : w2.heap[w.heap.size + 1 + 1]? = some (.cells #[.int .i64 0] 27 (0, 0)) := (g2.block _ (by omega) (by intro h; injection h; omega)).trans D2.out
    have B2 : Below w.heap.size w w2 := hb4.trans ⟨g2.os, g2.tape, g2.output, g2.size, fun i hi => g2.block i (by omega) (by intro h; injection h; omega)⟩
    refine leaves_cons (f := 93) (args := #[.pointer (some ⟨w.heap.size, 0, none⟩), .pointer (some ⟨w.heap.size + 1, 0, none⟩), .pointer (some ⟨w.heap.size + 1 + 1, 0, none⟩)]) (by simp) (by simp [go_sem]) ?_
    refine (catch_z w.heap.size _ _ _ _ er _ _ _ [] w2 (Nat.le_refl _) (by omega) (by omega) (by omega) (by omega) (by omega) e0 e1 e2).mono ?_
    rintro e u' w4 ⟨rfl, rfl, t0, t1, t2, k4⟩
    have B4 := B2.trans k4
    simp [Leaves, settle, results, Try.results70, go_sem, t0, t1, t2, Rd_, B4]
end Rd
end Go.Proofs.Ytibhldifmneboaa
