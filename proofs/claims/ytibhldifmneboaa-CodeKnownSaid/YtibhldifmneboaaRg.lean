/- Contracts of package code's read at a value, its deferred closure, ReadValue and ReadAll. -/
import Derived.Test.YtibhldifmneboaaRf
import Derived.Test.YtibhldifmneboaaRv
namespace Go.Proofs.Ytibhldifmneboaa
open Go Go.RowKit
namespace Rd
open Cd Pl
set_option linter.unusedVariables false
set_option linter.unusedSimpArgs false

/-- what read at a value comes to -/
def RdV (o : Out (List Nd)) (w : World) (e : Ending) (w' : World) : Prop :=
  match o with
  | .ok x k => ∃ v, e = .returned (.tuple #[v, .int .i64 k, .int .i64 0]) ∧ w'.ownsRow w.heap.size 37 5 v x.length (nds x) ∧ Below w.heap.size w w'
  | .no a er => e = .returned (.tuple #[.slice none 0 0, .int .i64 a, .int .i64 er]) ∧ Below w.heap.size w w'
theorem own_mono {w : World} {base base' t k : Nat} {v : Value} {n : Nat} {xs : List Value} (h : w.ownsRow base t k v n xs) (hb : base' ≤ base) : w.ownsRow base' t k v n xs := by
  obtain ⟨h1, h2⟩ := h
  refine ⟨h1, ?_⟩
  rcases h2 with h2 | ⟨i, cap, cur, hv, hi, r⟩
  · exact .inl h2
  · exact .inr ⟨i, cap, cur, hv, by omega, r⟩
theorem own_below {w w' : World} {base t k : Nat} {v : Value} {n : Nat} {xs : List Value} (h : w.ownsRow base t k v n xs) (hb : Below w.heap.size w w') : w'.ownsRow base t k v n xs := by
  obtain ⟨h1, h2⟩ := h
  refine ⟨h1, ?_⟩
  rcases h2 with h2 | ⟨i, cap, cur, hv, hi, hh, r⟩
  · exact .inl h2
  · exact .inr ⟨i, cap, cur, hv, hi, by rw [hb.block i (Array.getElem?_eq_some_iff.1 hh).1]; exact hh, r⟩

theorem catch_v (B g0 g1 g2 : Nat) (p er : Int) (x0 x1 x2 : Value) (older : List PanicEntry) (w : World) (h0 : B ≤ g0) (h1 : B ≤ g1) (h2 : B ≤ g2) (h01 : ¬ g0 = g1) (h02 : ¬ g0 = g2) (h12 : ¬ g1 = g2)
    (b0 : w.heap[g0]? = some (.cells #[x0] 26 (0, 0))) (b1 : w.heap[g1]? = some (.cells #[x1] 3 (0, 0))) (b2 : w.heap[g2]? = some (.cells #[x2] 27 (0, 0))) :
    CallsD Try.prog 94 #[.pointer (some ⟨g0, 0, none⟩), .pointer (some ⟨g1, 0, none⟩), .pointer (some ⟨g2, 0, none⟩)] (.panicking ({ v := fault p er, recovered := false } :: older)) w fun e u' w' =>
      e = .returned (.tuple #[]) ∧ u' = .panicking ({ v := fault p er, recovered := true } :: older) ∧ w'.cell? ⟨g0, 0, none⟩ = some (.slice none 0 0) ∧ w'.cell? ⟨g1, 0, none⟩ = some (.int .i64 p) ∧ w'.cell? ⟨g2, 0, none⟩ = some (.int .i64 er) ∧ Below B w w' := by
  refine callsD_of_wpS Try.func94 rfl fun c₀ cs hu => ?_
  apply wpS_seq
  apply wpS_region
  have hta := fun w => assert_fault p er w
  simp [wpOpsS, go_sem, recoverD, hu, Try.ntmps94, Exit.thenS, fault, hta]
  refine wpS_of_wp ?_
  have l0 : g0 < w.heap.size := (Array.getElem?_eq_some_iff.1 b0).1
  have l1 : g1 < w.heap.size := (Array.getElem?_eq_some_iff.1 b1).1
  have l2 : g2 < w.heap.size := (Array.getElem?_eq_some_iff.1 b2).1
  have c0 : w.cell? ⟨g0, 0, none⟩ = some x0 := by simp [World.cell?, b0]
  have c1 : w.cell? ⟨g1, 0, none⟩ = some x1 := by simp [World.cell?, b1]
  have c2 : w.cell? ⟨g2, 0, none⟩ = some x2 := by simp [World.cell?, b2]
  have f0 : w.frozen? ⟨g0, 0, none⟩ = false := by simp [World.frozen?, b0]
  have f1 : w.frozen? ⟨g1, 0, none⟩ = false := by simp [World.frozen?, b1]
  have f2 : w.frozen? ⟨g2, 0, none⟩ = false := by simp [World.frozen?, b2]
  have h10 : ¬ g1 = g0 := fun e => h01 e.symm
  have h20 : ¬ g2 = g0 := fun e => h02 e.symm
  have h21 : ¬ g2 = g1 := fun e => h12 e.symm
  clear b0 b1 b2
  simp only [Array.replicate_succ, Array.replicate_zero, List.push_toArray, List.nil_append, List.cons_append, List.setIfInBounds_toArray, List.set_cons_zero, List.set_cons_succ, List.append_toArray]
  go_wp2
  go_region
  change bodyPostS Try.prog Try.f94 c₀ cs _ Exit.normal _ _ _
  simp [bodyPostS, results, Try.results94]
  refine ⟨by go_simp, by go_simp, by go_simp, ?_⟩
  exact (((((Below.refl B w).setCell (p := ⟨g0, 0, none⟩) h0 _).setCell (p := ⟨g1, 0, none⟩) h1 _).setCell (p := ⟨g2, 0, none⟩) h2 _).alloc (by simp [World.setCell]; omega) _).drew

theorem idle_v (g0 g1 g2 : Nat) (w : World) :
    CallsD Try.prog 94 #[.pointer (some ⟨g0, 0, none⟩), .pointer (some ⟨g1, 0, none⟩), .pointer (some ⟨g2, 0, none⟩)] .returning w fun e u' w' => e = .returned (.tuple #[]) ∧ u' = .returning ∧ Below w.heap.size w w' := by
  refine callsD_of_wpS Try.func94 rfl fun c₀ cs hu => ?_
  apply wpS_seq
  apply wpS_region
  have hta := fun w => assert_nil w
  simp [wpOpsS, go_sem, recoverD, hu, Try.ntmps94, Exit.thenS, hta]
  refine wpS_of_wp ?_
  simp only [Array.replicate_succ, Array.replicate_zero, List.push_toArray, List.nil_append, List.cons_append, List.setIfInBounds_toArray, List.set_cons_zero, List.set_cons_succ, List.append_toArray]
  go_wp2
  simp [bodyPostS, results, Try.results94]
  refine ⟨_, ?_, hu, (Below.refl _ _).alloc (Nat.le_refl _) _⟩
  rfl
set_option maxHeartbeats 1000000 in
theorem read_v (A : Option Addr) (n c : Nat) (xs : List UInt8) (hx : xs.length = n) (O : Out (List Nd)) (w : World) (hb : Bs w A xs)
    (hdo : ∀ (g : Nat) (W : World), At W g A n c 0 → Byt W g A xs → Calls Try.prog 75 #[.pointer (some ⟨g, 0, none⟩)] W (ComeV g A n c 0 O W)) :
    Calls Try.prog 74 #[.slice A n c, .func (.func 75) #[] #[]] w (RdV O w) := by
  have hmf : ∀ (fn : Fn) (first cap : Array Value) (w : World), (Instr.makeFunc fn first cap).run Try.prog w = .ok (.func fn first cap) w := fun _ _ _ _ => rfl
  have hB := hb.byt
  have HD := Lib.hid hdo
  clear hdo hb
  have hAt : At ((((w.alloc (.cells #[.slice none 0 0] 26)).alloc (.cells #[.int .i64 0] 3)).alloc (.cells #[.int .i64 0] 27)).alloc (.cells #[.slice A n c, .int .i64 0] 104)) (w.heap.size + 1 + 1 + 1) A n c 0 := heap3 w _ _ _ _
  have hBy : Byt ((((w.alloc (.cells #[.slice none 0 0] 26)).alloc (.cells #[.int .i64 0] 3)).alloc (.cells #[.int .i64 0] 27)).alloc (.cells #[.slice A n c, .int .i64 0] 104)) (w.heap.size + 1 + 1 + 1) A xs := byt4 hB _ _ _ _
  have hb4 := below4 w (.cells #[.slice none 0 0] 26) (.cells #[.int .i64 0] 3) (.cells #[.int .i64 0] 27) (.cells #[.slice A n c, .int .i64 0] 104)
  have d0 := heap0 w (.cells #[.slice none 0 0] 26) (.cells #[.int .i64 0] 3) (.cells #[.int .i64 0] 27) (.cells #[.slice A n c, .int .i64 0] 104)
  have d1 := heap1 w (.cells #[.slice none 0 0] 26) (.cells #[.int .i64 0] 3) (.cells #[.int .i64 0] 27) (.cells #[.slice A n c, .int .i64 0] 104)
  have d2 := heap2 w (.cells #[.slice none 0 0] 26) (.cells #[.int .i64 0] 3) (.cells #[.int .i64 0] 27) (.cells #[.slice A n c, .int .i64 0] 104)
  have cd := HD.out _ _ hAt hBy
  have sz := hAt.lt
  obtain ⟨W, hW⟩ : ∃ W, W = ((((w.alloc (.cells #[.slice none 0 0] 26)).alloc (.cells #[.int .i64 0] 3)).alloc (.cells #[.int .i64 0] 27)).alloc (.cells #[.slice A n c, .int .i64 0] 104)) := ⟨_, rfl⟩
  have HW := Lib.hid hW
  rw [← hW] at cd hb4 d0 d1 d2 sz
  clear hW hAt hBy hB HD
  have D0 := Lib.hid d0
  have D1 := Lib.hid d1
  have D2 := Lib.hid d2
  clear d0 d1 d2
  cases O with
  | ok x k =>
    go_enter_defers Try.func74, Try.ntmps74
    go_wp2_with fail
    rw [← HW.out]
    refine cd.mono ?_
    rintro e w2 ⟨v, rfl, own2, a2, g2⟩
    obtain ⟨av, cv, rfl⟩ := own2.slice
    have oW := Lib.hid own2
    clear own2
    obtain ⟨r0, r1, rf⟩ := a2.cells
    have ha2 := a2.lt
    have e0 : w2.heap[w.heap.size]? = some (.cells #[.slice none 0 0] 26 (0, 0)) := (g2.block _ (by omega) (by intro h; injection h; omega)).trans D0.out
    have e1 : w2.heap[w.heap.size + 1]? = some (.cells #[.int .i64 0] 3 (0, 0)) := (g2.block _ (by omega) (by intro h; injection h; omega)).trans D1.out
    have e2 : w2.heap[w.heap.size + 1 + 1]? = some (.cells #[.int .i64 0] 27 (0, 0)) := (g2.block _ (by omega) (by intro h; injection h; omega)).trans D2.out
    have c0 : w2.cell? ⟨w.heap.size, 0, none⟩ = some (.slice none 0 0) := by simp [World.cell?, e0]
    have c1 : w2.cell? ⟨w.heap.size + 1, 0, none⟩ = some (.int .i64 0) := by simp [World.cell?, e1]
    have c2 : w2.cell? ⟨w.heap.size + 1 + 1, 0, none⟩ = some (.int .i64 0) := by simp [World.cell?, e2]
    have f0 : w2.frozen? ⟨w.heap.size, 0, none⟩ = false := by simp [World.frozen?, e0]
    have f1 : w2.frozen? ⟨w.heap.size + 1, 0, none⟩ = false := by simp [World.frozen?, e1]
    have f2 : w2.frozen? ⟨w.heap.size + 1 + 1, 0, none⟩ = false := by simp [World.frozen?, e2]
    have B2 : Below w.heap.size w w2 := hb4.trans ⟨g2.os, g2.tape, g2.output, g2.size, fun i hi => g2.block i (by omega) (by intro h; injection h; omega)⟩
    clear e0 e1 e2
    go_wp2
    go_region
    go_wp2
    obtain ⟨W3, hW3⟩ : ∃ W3, W3 = ((((w2.setCell ⟨w.heap.size, 0, none⟩ (.slice av x.length cv)).setCell ⟨w.heap.size, 0, none⟩ (.slice av x.length cv)).setCell ⟨w.heap.size + 1, 0, none⟩ (.int .i64 k)).setCell ⟨w.heap.size + 1 + 1, 0, none⟩ (.int .i64 0)).drew := ⟨_, rfl⟩
    have q0 : W3.cell? ⟨w.heap.size, 0, none⟩ = some (.slice av x.length cv) := by rw [hW3]; go_simp
    have q1 : W3.cell? ⟨w.heap.size + 1, 0, none⟩ = some (.int .i64 k) := by rw [hW3]; go_simp
    have q2 : W3.cell? ⟨w.heap.size + 1 + 1, 0, none⟩ = some (.int .i64 0) := by rw [hW3]; go_simp
    have B3 : Below w.heap.size w W3 := by
      rw [hW3]
      exact ((((B2.setCell (p := ⟨w.heap.size, 0, none⟩) (Nat.le_refl _) _).setCell (p := ⟨w.heap.size, 0, none⟩) (Nat.le_refl _) _).setCell (p := ⟨w.heap.size + 1, 0, none⟩) (by simp) _).setCell (p := ⟨w.heap.size + 1 + 1, 0, none⟩) (by simp; omega) _).drew
    have sz3 : w.heap.size + 1 + 1 < W3.heap.size := by rw [hW3]; simp [World.setCell]; omega
    have own3 : W3.ownsRow W.heap.size 37 5 (.slice av x.length cv) x.length (nds x) := by
      rw [hW3]
      exact (ownsRow_setCell_below (ownsRow_setCell_below (ownsRow_setCell_below (ownsRow_setCell_below oW.out (a := ⟨w.heap.size, 0, none⟩) (by simp; omega) _) (a := ⟨w.heap.size, 0, none⟩) (by simp; omega) _) (a := ⟨w.heap.size + 1, 0, none⟩) (by simp; omega) _) (a := ⟨w.heap.size + 1 + 1, 0, none⟩) (by simp; omega) _).drew
    rw [← hW3]
    clear hW3
    refine leaves_cons (f := 94) (args := #[.pointer (some ⟨w.heap.size, 0, none⟩), .pointer (some ⟨w.heap.size + 1, 0, none⟩), .pointer (some ⟨w.heap.size + 1 + 1, 0, none⟩)]) (by simp) (by simp [go_sem]) ?_
    refine (idle_v _ _ _ W3).mono ?_
    rintro e u' w4 ⟨rfl, rfl, k4⟩
    have t0 : w4.cell? ⟨w.heap.size, 0, none⟩ = some (.slice av x.length cv) := (k4.cell (p := ⟨w.heap.size, 0, none⟩) (by simp; omega)).trans q0
    have t1 : w4.cell? ⟨w.heap.size + 1, 0, none⟩ = some (.int .i64 k) := (k4.cell (p := ⟨w.heap.size + 1, 0, none⟩) (by simp; omega)).trans q1
    have t2 : w4.cell? ⟨w.heap.size + 1 + 1, 0, none⟩ = some (.int .i64 0) := (k4.cell (p := ⟨w.heap.size + 1 + 1, 0, none⟩) (by simp; omega)).trans q2
    have B4 := B3.trans (k4.mono B3.size)
    have own4 := own_mono (own_below own3 k4) (by omega : w.heap.size ≤ W.heap.size)
    simp [Leaves, settle, results, Try.results74, go_sem, t0, t1, t2, RdV, B4]
    exact own4
  | no a er =>
    go_enter_defers Try.func74, Try.ntmps74
    go_wp2_with fail
    rw [← HW.out]
    refine cd.mono ?_
    rintro e w2 ⟨rfl, g2⟩
    have ha2 : w.heap.size + 1 + 1 + 1 < w2.heap.size := Nat.lt_of_lt_of_le sz g2.size
    have e0 : w2.heap[w.heap.size]? = some (.cells #[.slice none 0 0] 26 (0, 0)) := (g2.block _ (by omega) (by intro h; injection h; omega)).trans D0.out
    have e1 : w2.heap[w.heap.size + 1]? = some (.cells #[.int .i64 0] 3 (0, 0)) := (g2.block _ (by omega) (by intro h; injection h; omega)).trans D1.out
    have e2 : w2.heap[w.heap.size + 1 + 1]? = some (.cells #[.int .i64 0] 27 (0, 0)) := (g2.block _ (by omega) (by intro h; injection h; omega)).trans D2.out
    have B2 : Below w.heap.size w w2 := hb4.trans ⟨g2.os, g2.tape, g2.output, g2.size, fun i hi => g2.block i (by omega) (by intro h; injection h; omega)⟩
    refine leaves_cons (f := 94) (args := #[.pointer (some ⟨w.heap.size, 0, none⟩), .pointer (some ⟨w.heap.size + 1, 0, none⟩), .pointer (some ⟨w.heap.size + 1 + 1, 0, none⟩)]) (by simp) (by simp [go_sem]) ?_
    refine (catch_v w.heap.size _ _ _ _ er _ _ _ [] w2 (Nat.le_refl _) (by omega) (by omega) (by omega) (by omega) (by omega) e0 e1 e2).mono ?_
    rintro e u' w4 ⟨rfl, rfl, t0, t1, t2, k4⟩
    have B4 := B2.trans k4
    simp [Leaves, settle, results, Try.results74, go_sem, t0, t1, t2, RdV, B4]
set_option maxHeartbeats 1000000 in
theorem read_a (A : Option Addr) (n c : Nat) (xs : List UInt8) (hx : xs.length = n) (O : Out (List Nd)) (w : World) (hb : Bs w A xs) (bx : Nat) (hbx : w.heap[bx]? = some (.cells #[.slice A n c] 44 (0, 0)))
    (hdo : ∀ (g : Nat) (W : World), At W g A n c 0 → Byt W g A xs → bx < g → W.heap[bx]? = some (.cells #[.slice A n c] 44 (0, 0)) → Calls Try.prog 78 #[.pointer (some ⟨g, 0, none⟩), .pointer (some ⟨bx, 0, none⟩)] W (ComeV g A n c 0 O W)) :
    Calls Try.prog 74 #[.slice A n c, .func (.func 78) #[] #[.pointer (some ⟨bx, 0, none⟩)]] w (RdV O w) := by
  have hmf : ∀ (fn : Fn) (first cap : Array Value) (w : World), (Instr.makeFunc fn first cap).run Try.prog w = .ok (.func fn first cap) w := fun _ _ _ _ => rfl
  have hB := hb.byt
  have HD := Lib.hid hdo
  clear hdo hb
  have hAt : At ((((w.alloc (.cells #[.slice none 0 0] 26)).alloc (.cells #[.int .i64 0] 3)).alloc (.cells #[.int .i64 0] 27)).alloc (.cells #[.slice A n c, .int .i64 0] 104)) (w.heap.size + 1 + 1 + 1) A n c 0 := heap3 w _ _ _ _
  have hBy : Byt ((((w.alloc (.cells #[.slice none 0 0] 26)).alloc (.cells #[.int .i64 0] 3)).alloc (.cells #[.int .i64 0] 27)).alloc (.cells #[.slice A n c, .int .i64 0] 104)) (w.heap.size + 1 + 1 + 1) A xs := byt4 hB _ _ _ _
  have hb4 := below4 w (.cells #[.slice none 0 0] 26) (.cells #[.int .i64 0] 3) (.cells #[.int .i64 0] 27) (.cells #[.slice A n c, .int .i64 0] 104)
  have d0 := heap0 w (.cells #[.slice none 0 0] 26) (.cells #[.int .i64 0] 3) (.cells #[.int .i64 0] 27) (.cells #[.slice A n c, .int .i64 0] 104)
  have d1 := heap1 w (.cells #[.slice none 0 0] 26) (.cells #[.int .i64 0] 3) (.cells #[.int .i64 0] 27) (.cells #[.slice A n c, .int .i64 0] 104)
  have d2 := heap2 w (.cells #[.slice none 0 0] 26) (.cells #[.int .i64 0] 3) (.cells #[.int .i64 0] 27) (.cells #[.slice A n c, .int .i64 0] 104)
  have lbx : bx < w.heap.size := (Array.getElem?_eq_some_iff.1 hbx).1
  have cd := HD.out _ _ hAt hBy (by omega) ((hb4.block bx lbx).trans hbx)
  have sz := hAt.lt
  obtain ⟨W, hW⟩ : ∃ W, W = ((((w.alloc (.cells #[.slice none 0 0] 26)).alloc (.cells #[.int .i64 0] 3)).alloc (.cells #[.int .i64 0] 27)).alloc (.cells #[.slice A n c, .int .i64 0] 104)) := ⟨_, rfl⟩
  have HW := Lib.hid hW
  rw [← hW] at cd hb4 d0 d1 d2 sz
  clear hW hAt hBy hB HD
  have D0 := Lib.hid d0
  have D1 := Lib.hid d1
  have D2 := Lib.hid d2
  clear d0 d1 d2
  cases O with
  | ok x k =>
    go_enter_defers Try.func74, Try.ntmps74
    go_wp2_with fail
    rw [← HW.out]
    refine cd.mono ?_
    rintro e w2 ⟨v, rfl, own2, a2, g2⟩
    obtain ⟨av, cv, rfl⟩ := own2.slice
    have oW := Lib.hid own2
    clear own2
    obtain ⟨r0, r1, rf⟩ := a2.cells
    have ha2 := a2.lt
    have e0 : w2.heap[w.heap.size]? = some (.cells #[.slice none 0 0] 26 (0, 0)) := (g2.block _ (by omega) (by intro h; injection h; omega)).trans D0.out
    have e1 : w2.heap[w.heap.size + 1]? = some (.cells #[.int .i64 0] 3 (0, 0)) := (g2.block _ (by omega) (by intro h; injection h; omega)).trans D1.out
    have e2 : w2.heap[w.heap.size + 1 + 1]? = some (.cells #[.int .i64 0] 27 (0, 0)) := (g2.block _ (by omega) (by intro h; injection h; omega)).trans D2.out
    have c0 : w2.cell? ⟨w.heap.size, 0, none⟩ = some (.slice none 0 0) := by simp [World.cell?, e0]
    have c1 : w2.cell? ⟨w.heap.size + 1, 0, none⟩ = some (.int .i64 0) := by simp [World.cell?, e1]
    have c2 : w2.cell? ⟨w.heap.size + 1 + 1, 0, none⟩ = some (.int .i64 0) := by simp [World.cell?, e2]
    have f0 : w2.frozen? ⟨w.heap.size, 0, none⟩ = false := by simp [World.frozen?, e0]
    have f1 : w2.frozen? ⟨w.heap.size + 1, 0, none⟩ = false := by simp [World.frozen?, e1]
    have f2 : w2.frozen? ⟨w.heap.size + 1 + 1, 0, none⟩ = false := by simp [World.frozen?, e2]
    have B2 : Below w.heap.size w w2 := hb4.trans ⟨g2.os, g2.tape, g2.output, g2.size, fun i hi => g2.block i (by omega) (by intro h; injection h; omega)⟩
    clear e0 e1 e2
    go_wp2
    go_region
    go_wp2
    obtain ⟨W3, hW3⟩ : ∃ W3, W3 = ((((w2.setCell ⟨w.heap.size, 0, none⟩ (.slice av x.length cv)).setCell ⟨w.heap.size, 0, none⟩ (.slice av x.length cv)).setCell ⟨w.heap.size + 1, 0, none⟩ (.int .i64 k)).setCell ⟨w.heap.size + 1 + 1, 0, none⟩ (.int .i64 0)).drew := ⟨_, rfl⟩
    have q0 : W3.cell? ⟨w.heap.size, 0, none⟩ = some (.slice av x.length cv) := by rw [hW3]; go_simp
    have q1 : W3.cell? ⟨w.heap.size + 1, 0, none⟩ = some (.int .i64 k) := by rw [hW3]; go_simp
    have q2 : W3.cell? ⟨w.heap.size + 1 + 1, 0, none⟩ = some (.int .i64 0) := by rw [hW3]; go_simp
    have B3 : Below w.heap.size w W3 := by
      rw [hW3]
      exact ((((B2.setCell (p := ⟨w.heap.size, 0, none⟩) (Nat.le_refl _) _).setCell (p := ⟨w.heap.size, 0, none⟩) (Nat.le_refl _) _).setCell (p := ⟨w.heap.size + 1, 0, none⟩) (by simp) _).setCell (p := ⟨w.heap.size + 1 + 1, 0, none⟩) (by simp; omega) _).drew
    have sz3 : w.heap.size + 1 + 1 < W3.heap.size := by rw [hW3]; simp [World.setCell]; omega
    have own3 : W3.ownsRow W.heap.size 37 5 (.slice av x.length cv) x.length (nds x) := by
      rw [hW3]
      exact (ownsRow_setCell_below (ownsRow_setCell_below (ownsRow_setCell_below (ownsRow_setCell_below oW.out (a := ⟨w.heap.size, 0, none⟩) (by simp; omega) _) (a := ⟨w.heap.size, 0, none⟩) (by simp; omega) _) (a := ⟨w.heap.size + 1, 0, none⟩) (by simp; omega) _) (a := ⟨w.heap.size + 1 + 1, 0, none⟩) (by simp; omega) _).drew
    rw [← hW3]
    clear hW3
    refine leaves_cons (f := 94) (args := #[.pointer (some ⟨w.heap.size, 0, none⟩), .pointer (some ⟨w.heap.size + 1, 0, none⟩), .pointer (some ⟨w.heap.size + 1 + 1, 0, none⟩)]) (by simp) (by simp [go_sem]) ?_
    refine (idle_v _ _ _ W3).mono ?_
    rintro e u' w4 ⟨rfl, rfl, k4⟩
    have t0 : w4.cell? ⟨w.heap.size, 0, none⟩ = some (.slice av x.length cv) := (k4.cell (p := ⟨w.heap.size, 0, none⟩) (by simp; omega)).trans q0
    have t1 : w4.cell? ⟨w.heap.size + 1, 0, none⟩ = some (.int .i64 k) := (k4.cell (p := ⟨w.heap.size + 1, 0, none⟩) (by simp; omega)).trans q1
    have t2 : w4.cell? ⟨w.heap.size + 1 + 1, 0, none⟩ = some (.int .i64 0) := (k4.cell (p := ⟨w.heap.size + 1 + 1, 0, none⟩) (by simp; omega)).trans q2
    have B4 := B3.trans (k4.mono B3.size)
    have own4 := own_mono (own_below own3 k4) (by omega : w.heap.size ≤ W.heap.size)
    simp [Leaves, settle, results, Try.results74, go_sem, t0, t1, t2, RdV, B4]
    exact own4
  | no a er =>
    go_enter_defers Try.func74, Try.ntmps74
    go_wp2_with fail
    rw [← HW.out]
    refine cd.mono ?_
    rintro e w2 ⟨rfl, g2⟩
    have ha2 : w.heap.size + 1 + 1 + 1 < w2.heap.size := Nat.lt_of_lt_of_le sz g2.size
    have e0 : w2.heap[w.heap.size]? = some (.cells #[.slice none 0 0] 26 (0, 0)) := (g2.block _ (by omega) (by intro h; injection h; omega)).trans D0.out
    have e1 : w2.heap[w.heap.size + 1]? = some (.cells #[.int .i64 0] 3 (0, 0)) := (g2.block _ (by omega) (by intro h; injection h; omega)).trans D1.out
    have e2 : w2.heap[w.heap.size + 1 + 1]? = some (.cells #[.int .i64 0] 27 (0, 0)) := (g2.block _ (by omega) (by intro h; injection h; omega)).trans D2.out
    have B2 : Below w.heap.size w w2 := hb4.trans ⟨g2.os, g2.tape, g2.output, g2.size, fun i hi => g2.block i (by omega) (by intro h; injection h; omega)⟩
    refine leaves_cons (f := 94) (args := #[.pointer (some ⟨w.heap.size, 0, none⟩), .pointer (some ⟨w.heap.size + 1, 0, none⟩), .pointer (some ⟨w.heap.size + 1 + 1, 0, none⟩)]) (by simp) (by simp [go_sem]) ?_
    refine (catch_v w.heap.size _ _ _ _ er _ _ _ [] w2 (Nat.le_refl _) (by omega) (by omega) (by omega) (by omega) (by omega) e0 e1 e2).mono ?_
    rintro e u' w4 ⟨rfl, rfl, t0, t1, t2, k4⟩
    have B4 := B2.trans k4
    simp [Leaves, settle, results, Try.results74, go_sem, t0, t1, t2, RdV, B4]
end Rd
end Go.Proofs.Ytibhldifmneboaa
