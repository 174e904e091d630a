/- The contract of raft's Handle. -/
import Derived.Test.YtdacdkidjgbdoaaTm
import Derived.Laws.EntriesVeiled
set_option linter.unusedVariables false
set_option linter.unusedSimpArgs false
namespace Go.Proofs.Ytdacdkidjgbdoaa
open Go Go.RowKit
namespace Rf
attribute [local go_sem ↓] Go.wp_at_zero Go.wp_at_succ

theorem five_cells {w : World} {b : Nat} {c0 c1 c2 c3 c4 : Value} {t : TypeId} {fr : Nat × Nat} (h : w.heap[b]? = some (.cells #[c0, c1, c2, c3, c4] t fr)) :
    w.cell? ⟨b, 0, none⟩ = some c0 ∧ w.cell? ⟨b, 1, none⟩ = some c1 ∧ w.cell? ⟨b, 2, none⟩ = some c2 ∧ w.cell? ⟨b, 3, none⟩ = some c3 ∧ w.cell? ⟨b, 4, none⟩ = some c4 := by
  simp only [World.cell?, h]
  exact ⟨rfl, rfl, rfl, rfl, rfl⟩
theorem nine_cells {w : World} {b : Nat} {c0 c1 c2 c3 c4 c5 c6 c7 c8 : Value} {t : TypeId} {fr : Nat × Nat} (h : w.heap[b]? = some (.cells #[c0, c1, c2, c3, c4, c5, c6, c7, c8] t fr)) :
    w.cell? ⟨b, 0, none⟩ = some c0 ∧ w.cell? ⟨b, 1, none⟩ = some c1 ∧ w.cell? ⟨b, 2, none⟩ = some c2 ∧ w.cell? ⟨b, 3, none⟩ = some c3 ∧ w.cell? ⟨b, 4, none⟩ = some c4 ∧ w.cell? ⟨b, 5, none⟩ = some c5 ∧ w.cell? ⟨b, 6, none⟩ = some c6 ∧ w.cell? ⟨b, 7, none⟩ = some c7 ∧ w.cell? ⟨b, 8, none⟩ = some c8 := by
  simp only [World.cell?, h]
  exact ⟨rfl, rfl, rfl, rfl, rfl, rfl, rfl, rfl, rfl⟩
set_option maxRecDepth 100000 in
set_option maxHeartbeats 1000000 in
theorem handle_deaf (k : Nat) (g : Nat) (s : Srv) (v : Value) (h0 : 1 ≤ s.nodes) (src dst tm ix lt cm : Int) (ok : Bool) (a : Option Addr) (n c : Nat) (w : World) (h : Is w g s v) (ch : ∀ W, Below w.heap.size w W → Calls Try.prog 42 #[.pointer (some ⟨g, 0, none⟩), .agg #[.int .u8 k, .int .i64 src, .int .i64 dst, .int .i64 tm, .int .i64 ix, .int .i64 lt, .slice a n c, .int .i64 cm, .bool ok]] W (PlainPost false W)) :
    Calls Try.prog 10 #[.pointer (some ⟨g, 0, none⟩), .agg #[.int .u8 k, .int .i64 src, .int .i64 dst, .int .i64 tm, .int .i64 ix, .int .i64 lt, .slice a n c, .int .i64 cm, .bool ok]] w (DidPost g v w s []) := by
  have hB := (Below.refl _ w).alloc (Nat.le_refl _) (.cells #[.int .u8 k, .int .i64 src, .int .i64 dst, .int .i64 tm, .int .i64 ix, .int .i64 lt, .slice a n c, .int .i64 cm, .bool ok] 34)
  have h1 := h.below hB
  have hlt := h.lt
  go_enter Try.func10, Try.ntmps10
  go_wp2_with fail
  refine (made1 g s v true _ h1 (by simp; omega)).mono ?_
  rintro e w1 ⟨rfl, rfl⟩
  go_wp2_with fail
  refine (ch _ hB).mono ?_
  rintro e w2 ⟨rfl, hB2⟩
  go_wp2_with fail
  go_ret
  exact ⟨_, rfl, Did.none (h1.below hB2) ((Only.of_below hB).trans (Only.of_below hB2)) hlt⟩

set_option maxRecDepth 100000 in
set_option maxHeartbeats 1000000 in
theorem handle_1u (g : Nat) (s : Srv) (v : Value) (h0 : 1 ≤ s.nodes) (src dst tm ix lt cm : Int) (ok : Bool) (a : Option Addr) (n c : Nat) (w : World) (h : Is w g s v) (ch : ∀ W, Below w.heap.size w W → Calls Try.prog 42 #[.pointer (some ⟨g, 0, none⟩), .agg #[.int .u8 1, .int .i64 src, .int .i64 dst, .int .i64 tm, .int .i64 ix, .int .i64 lt, .slice a n c, .int .i64 cm, .bool ok]] W (PlainPost true W))
    (T : Int) (hT : s.term = T) (d0 : decide (T < tm) = true) (S' : Srv) (ms : List Msg)
    (cr : ∀ W, Is W g (bump s tm) v → Only (fun j => j = g) w W → Calls Try.prog 43 #[.pointer (some ⟨g, 0, none⟩), .agg #[.int .u8 1, .int .i64 src, .int .i64 dst, .int .i64 tm, .int .i64 ix, .int .i64 lt, .slice a n c, .int .i64 cm, .bool ok]] W (DidPost g v W S' ms)) :
    Calls Try.prog 10 #[.pointer (some ⟨g, 0, none⟩), .agg #[.int .u8 1, .int .i64 src, .int .i64 dst, .int .i64 tm, .int .i64 ix, .int .i64 lt, .slice a n c, .int .i64 cm, .bool ok]] w (DidPost g v w S' ms) := by
  have hB := (Below.refl _ w).alloc (Nat.le_refl _) (.cells #[.int .u8 1, .int .i64 src, .int .i64 dst, .int .i64 tm, .int .i64 ix, .int .i64 lt, .slice a n c, .int .i64 cm, .bool ok] 34)
  have h1 := h.below hB
  have hbx := heap_alloc_new w (.cells #[.int .u8 1, .int .i64 src, .int .i64 dst, .int .i64 tm, .int .i64 ix, .int .i64 lt, .slice a n c, .int .i64 cm, .bool ok] 34)
  have hlt := h.lt
  have hne : ∀ j, v.ownBlock = some j → j < w.heap.size := fun j hj => h.own_lt hj
  have hbs : w.heap.size < (w.alloc (.cells #[.int .u8 1, .int .i64 src, .int .i64 dst, .int .i64 tm, .int .i64 ix, .int .i64 lt, .slice a n c, .int .i64 cm, .bool ok] 34)).heap.size := by rw [World.size_alloc]; omega
  go_enter Try.func10, Try.ntmps10
  go_wp2_with fail
  refine (made1 g s v true _ h1 (by simp; omega)).mono ?_
  rintro e w1 ⟨rfl, rfl⟩
  go_wp2_with fail
  refine (ch _ hB).mono ?_
  rintro e w2 ⟨rfl, hB2⟩
  have h2 := h1.below hB2
  have hO2 : Only (fun j => j = g) w w2 := (Only.of_below hB).trans (Only.of_below hB2)
  have hbx2 := (hB2.block _ hbs).trans hbx
  have m3 : w2.cell? ⟨w.heap.size, 3, none⟩ = some (.int .i64 tm) := by simp [World.cell?, hbx2]
  obtain ⟨x2, f2⟩ := h2.term
  rw [hT] at x2
  have hbs2 : w.heap.size < w2.heap.size := (Array.getElem?_eq_some_iff.1 hbx2).1
  have hgn : ¬ w.heap.size = g := by omega
  clear hB h1 hbx hbs hB2 ch hT
  go_wp2_with fail
  go_quiet (fail)
  obtain ⟨x3, f3⟩ := h2.vote
  obtain ⟨x5, f5⟩ := h2.role
  obtain ⟨x6, f6⟩ := h2.leader
  obtain ⟨x8, f8⟩ := h2.voters
  have h3 : Is ((((((w2.drewN nq).setCell ⟨g, 2, none⟩ (.int .i64 tm)).setCell ⟨g, 3, none⟩ (.int .i64 (-1))).setCell ⟨g, 5, none⟩ (.int .u8 0)).setCell ⟨g, 6, none⟩ (.int .i64 (-1))).setCell ⟨g, 8, none⟩ (.int .u64 0)) g (bump s tm) v := ((((((h2.drewN nq).set (s' := { s with term := tm }) rfl 2 (.int .i64 tm) rfl).set (s' := { s with term := tm, vote := -1 }) rfl 3 (.int .i64 (-1)) rfl).set (s' := { s with term := tm, vote := -1, role := 0 }) rfl 5 (.int .u8 0) rfl).set (s' := { s with term := tm, vote := -1, role := 0, leader := -1 }) rfl 6 (.int .i64 (-1)) rfl).set (s' := (bump s tm)) rfl 8 (.int .u64 0) rfl)
  have hO3 : Only (fun j => j = g) w ((((((w2.drewN nq).setCell ⟨g, 2, none⟩ (.int .i64 tm)).setCell ⟨g, 3, none⟩ (.int .i64 (-1))).setCell ⟨g, 5, none⟩ (.int .u8 0)).setCell ⟨g, 6, none⟩ (.int .i64 (-1))).setCell ⟨g, 8, none⟩ (.int .u64 0)) := (Only.set (S := fun j => j = g) (Only.set (S := fun j => j = g) (Only.set (S := fun j => j = g) (Only.set (S := fun j => j = g) (Only.set (S := fun j => j = g) (hO2.drewN nq) (p := ⟨g, 2, none⟩) (.inl rfl) (.int .i64 tm)) (p := ⟨g, 3, none⟩) (.inl rfl) (.int .i64 (-1))) (p := ⟨g, 5, none⟩) (.inl rfl) (.int .u8 0)) (p := ⟨g, 6, none⟩) (.inl rfl) (.int .i64 (-1))) (p := ⟨g, 8, none⟩) (.inl rfl) (.int .u64 0))
  have hbx3 : ((((((w2.drewN nq).setCell ⟨g, 2, none⟩ (.int .i64 tm)).setCell ⟨g, 3, none⟩ (.int .i64 (-1))).setCell ⟨g, 5, none⟩ (.int .u8 0)).setCell ⟨g, 6, none⟩ (.int .i64 (-1))).setCell ⟨g, 8, none⟩ (.int .u64 0)).heap[w.heap.size]? = some (.cells #[.int .u8 1, .int .i64 src, .int .i64 dst, .int .i64 tm, .int .i64 ix, .int .i64 lt, .slice a n c, .int .i64 cm, .bool ok] 34 (0, 0)) := ((Below.heap_setCell _ ⟨g, 8, none⟩ (.int .u64 0) w.heap.size hgn).trans ((Below.heap_setCell _ ⟨g, 6, none⟩ (.int .i64 (-1)) w.heap.size hgn).trans ((Below.heap_setCell _ ⟨g, 5, none⟩ (.int .u8 0) w.heap.size hgn).trans ((Below.heap_setCell _ ⟨g, 3, none⟩ (.int .i64 (-1)) w.heap.size hgn).trans ((Below.heap_setCell _ ⟨g, 2, none⟩ (.int .i64 tm) w.heap.size hgn).trans hbx2)))))
  clear h2 hO2 hbx2
  have hs3 : ((((((w2.drewN nq).setCell ⟨g, 2, none⟩ (.int .i64 tm)).setCell ⟨g, 3, none⟩ (.int .i64 (-1))).setCell ⟨g, 5, none⟩ (.int .u8 0)).setCell ⟨g, 6, none⟩ (.int .i64 (-1))).setCell ⟨g, 8, none⟩ (.int .u64 0)).heap.size = w2.heap.size := by simp [World.setCell, World.drewN]
  have hB4 := (Below.refl _ ((((((w2.drewN nq).setCell ⟨g, 2, none⟩ (.int .i64 tm)).setCell ⟨g, 3, none⟩ (.int .i64 (-1))).setCell ⟨g, 5, none⟩ (.int .u8 0)).setCell ⟨g, 6, none⟩ (.int .i64 (-1))).setCell ⟨g, 8, none⟩ (.int .u64 0))).alloc (Nat.le_refl _) (.cells #[.nilFunc, .func (.func 43) #[] #[], .func (.func 44) #[] #[], .func (.func 45) #[] #[], .func (.func 46) #[] #[]] 86)
  have hnb := heap_alloc_new ((((((w2.drewN nq).setCell ⟨g, 2, none⟩ (.int .i64 tm)).setCell ⟨g, 3, none⟩ (.int .i64 (-1))).setCell ⟨g, 5, none⟩ (.int .u8 0)).setCell ⟨g, 6, none⟩ (.int .i64 (-1))).setCell ⟨g, 8, none⟩ (.int .u64 0)) (.cells #[.nilFunc, .func (.func 43) #[] #[], .func (.func 44) #[] #[], .func (.func 45) #[] #[], .func (.func 46) #[] #[]] 86)
  rw [hs3] at hnb
  have h4 := h3.below hB4
  have hO4 := hO3.trans (Only.of_below (S := fun j => j = g) hB4)
  have hbx4 := (hB4.block w.heap.size (by rw [hs3]; exact hbs2)).trans hbx3
  have HNB := Lib.hid hnb
  have HBX := Lib.hid hbx4
  clear h3 hO3 hbx3 hB4 hs3 hnb hbx4
  go_wp2_with fail
  have hnb := HNB.out
  have hbx4 := HBX.out
  clear HNB HBX
  generalize (((((((w2.drewN nq).setCell ⟨g, 2, none⟩ (.int .i64 tm)).setCell ⟨g, 3, none⟩ (.int .i64 (-1))).setCell ⟨g, 5, none⟩ (.int .u8 0)).setCell ⟨g, 6, none⟩ (.int .i64 (-1))).setCell ⟨g, 8, none⟩ (.int .u64 0)).alloc (.cells #[.nilFunc, .func (.func 43) #[] #[], .func (.func 44) #[] #[], .func (.func 45) #[] #[], .func (.func 46) #[] #[]] 86)) = W4 at *
  obtain ⟨b0, b1, b2, b3, b4, b5, b6, b7, b8⟩ := nine_cells hbx4
  obtain ⟨t0, t1, t2, t3, t4⟩ := five_cells hnb
  refine wp_region_held_drew (S := (fun w' => w'.cell? ⟨w.heap.size, 0, none⟩ = some (.int .u8 1) ∧ w'.cell? ⟨w.heap.size, 1, none⟩ = some (.int .i64 src) ∧ w'.cell? ⟨w.heap.size, 2, none⟩ = some (.int .i64 dst) ∧ w'.cell? ⟨w.heap.size, 3, none⟩ = some (.int .i64 tm) ∧ w'.cell? ⟨w.heap.size, 4, none⟩ = some (.int .i64 ix) ∧ w'.cell? ⟨w.heap.size, 5, none⟩ = some (.int .i64 lt) ∧ w'.cell? ⟨w.heap.size, 6, none⟩ = some (.slice a n c) ∧ w'.cell? ⟨w.heap.size, 7, none⟩ = some (.int .i64 cm) ∧ w'.cell? ⟨w.heap.size, 8, none⟩ = some (.bool ok) ∧ w'.cell? ⟨w2.heap.size, 1, none⟩ = some (.func (.func 43) #[] #[]))) (by kernel_rfl) ⟨b0, b1, b2, b3, b4, b5, b6, b7, b8, t1⟩ (fun hHeld => ?_)
  refine' wpAnyH_take (i := 0) (oi := ({ dst := some 43, op := Go.Op.fieldAddr 34 (Go.Operand.tmp 3) 0, type := 0, pos := "raft.go:172", after := #[], guard := none } : Oper)) (v := ?v0) rfl (by kernel_rfl) (by kernel_rfl) (by kernel_rfl) (fun _ _ _ h => h) (Or.inl ⟨by rfl, ?y0⟩) hHeld ?r0
  case y0 => (intro w hSw; try dsimp only at hSw); go_simp; try with_reducible rfl
  case r0 =>
  try simp only [Act.put, List.setIfInBounds_toArray, List.set_cons_zero, List.set_cons_succ]
  refine' wpAnyH_take (i := 1) (oi := ({ dst := some 44, op := Go.Op.load 5 (Go.Operand.tmp 43), type := 5, pos := "raft.go:172", after := #[{ on := 0, ground := Go.Ground.data }], guard := none } : Oper)) (v := ?v1) rfl (by kernel_rfl) (by kernel_rfl) (by kernel_rfl) (fun _ _ _ h => h) (Or.inl ⟨by rfl, ?y1⟩) hHeld ?r1
  case y1 => (intro w hSw; try dsimp only at hSw); go_simp; try with_reducible rfl
  case r1 =>
  try simp only [Act.put, List.setIfInBounds_toArray, List.set_cons_zero, List.set_cons_succ]
  refine' wpAnyH_take (i := 2) (oi := ({ dst := some 45, op := Go.Op.indexAddr 86 (Go.Operand.tmp 5) (Go.Operand.tmp 44), type := 0, pos := "raft.go:172", after := #[{ on := 1, ground := Go.Ground.data }], guard := none } : Oper)) (v := ?v2) rfl (by kernel_rfl) (by kernel_rfl) (by kernel_rfl) (fun _ _ _ h => h) (Or.inl ⟨by rfl, ?y2⟩) hHeld ?r2
  case y2 => (intro w hSw; try dsimp only at hSw); go_simp; try with_reducible rfl
  case r2 =>
  try simp only [Act.put, List.setIfInBounds_toArray, List.set_cons_zero, List.set_cons_succ]
  refine' wpAnyH_take (i := 3) (oi := ({ dst := some 46, op := Go.Op.load 85 (Go.Operand.tmp 45), type := 85, pos := "raft.go:172", after := #[{ on := 2, ground := Go.Ground.data }], guard := none } : Oper)) (v := ?v3) rfl (by kernel_rfl) (by kernel_rfl) (by kernel_rfl) (fun _ _ _ h => h) (Or.inl ⟨by rfl, ?y3⟩) hHeld ?r3
  case y3 => (intro w hSw; try dsimp only at hSw); go_simp; try with_reducible rfl
  case r3 =>
  try simp only [Act.put, List.setIfInBounds_toArray, List.set_cons_zero, List.set_cons_succ]
  refine' wpAnyH_take (i := 4) (oi := ({ dst := some 47, op := Go.Op.move (Go.Operand.tmp 0), type := 22, pos := "raft.go:172", after := #[], guard := none } : Oper)) (v := ?v4) rfl (by kernel_rfl) (by kernel_rfl) (by kernel_rfl) (fun _ _ _ h => h) (Or.inl ⟨by rfl, ?y4⟩) hHeld ?r4
  case y4 => (intro w hSw; try dsimp only at hSw); go_simp; try with_reducible rfl
  case r4 =>
  try simp only [Act.put, List.setIfInBounds_toArray, List.set_cons_zero, List.set_cons_succ]
  refine' wpAnyH_take (i := 5) (oi := ({ dst := some 48, op := Go.Op.load 34 (Go.Operand.tmp 3), type := 34, pos := "raft.go:172", after := #[], guard := none } : Oper)) (v := ?v5) rfl (by kernel_rfl) (by kernel_rfl) (by kernel_rfl) (fun _ _ _ h => h) (Or.inl ⟨by rfl, ?y5⟩) hHeld ?r5
  case y5 => (intro w hSw; try dsimp only at hSw); go_simp; try with_reducible rfl
  case r5 =>
  try simp only [Act.put, List.setIfInBounds_toArray, List.set_cons_zero, List.set_cons_succ]
  refine wpAnyH_ready (rs := [6]) (by kernel_rfl) (by simp) ?_
  refine AllReadyH.cons rfl (fun K hK => ?_) AllReadyH.nil
  go_simp
  refine (cr W4.drew (h4.drewN 1) (hO4.drewN 1)).mono ?_
  rintro e w5 ⟨out, rfl, hD⟩
  have hbx5 := (hD.only.block w.heap.size (by have := hO4.size; have := (Array.getElem?_eq_some_iff.1 hbx4).1; exact this) (by rintro (e | e); exact hgn e; exact absurd (hne _ e) (Nat.lt_irrefl _))).trans hbx4
  have hnb5 := (hD.only.block w2.heap.size ((Array.getElem?_eq_some_iff.1 hnb).1) (by rintro (e | e); omega; exact absurd (hne _ e) (by omega))).trans hnb
  obtain ⟨b0, b1, b2, b3, b4, b5, b6, b7, b8⟩ := nine_cells hbx5
  obtain ⟨t0, t1, t2, t3, t4⟩ := five_cells hnb5
  refine hK.out _ _ ⟨b0, b1, b2, b3, b4, b5, b6, b7, b8, t1⟩ (fun hHeld => ?_)
  clear hK K
  try simp only [Act.put, List.setIfInBounds_toArray, List.set_cons_zero, List.set_cons_succ]
  refine' wpAnyH_take (i := 7) (oi := ({ dst := some 4, op := Go.Op.assign (Go.Operand.tmp 49), type := 30, pos := "raft.go:172", after := #[{ on := 6, ground := Go.Ground.data }, { on := 6, ground := Go.Ground.chain }, { on := 0, ground := Go.Ground.phase }, { on := 1, ground := Go.Ground.phase }, { on := 2, ground := Go.Ground.phase }, { on := 3, ground := Go.Ground.phase }, { on := 4, ground := Go.Ground.phase }, { on := 5, ground := Go.Ground.phase }, { on := 6, ground := Go.Ground.phase }], guard := none } : Oper)) (v := ?v7) rfl (by kernel_rfl) (by kernel_rfl) (by kernel_rfl) (fun _ _ _ h => h) (Or.inl ⟨by rfl, ?y7⟩) hHeld ?r7
  case y7 => (intro w hSw; try dsimp only at hSw); go_simp; try with_reducible rfl
  case r7 =>
  try simp only [Act.put, List.setIfInBounds_toArray, List.set_cons_zero, List.set_cons_succ]
  refine wpAnyH_done (by kernel_rfl) ?_ _
  try simp only [Act.put]
  go_simp
  clear b0 b1 b2 b3 b4 b5 b6 b7 b8 t0 t1 t2 t3 t4 hHeld
  go_wp2_with fail
  go_ret
  exact ⟨out, rfl, hD.below ((hO4.drewN 1).weak (fun _ e => .inl e)) (fun j hj => .inl hj) hlt⟩

set_option maxRecDepth 100000 in
set_option maxHeartbeats 1000000 in
theorem handle_1d (g : Nat) (s : Srv) (v : Value) (h0 : 1 ≤ s.nodes) (src dst tm ix lt cm : Int) (ok : Bool) (a : Option Addr) (n c : Nat) (w : World) (h : Is w g s v) (ch : ∀ W, Below w.heap.size w W → Calls Try.prog 42 #[.pointer (some ⟨g, 0, none⟩), .agg #[.int .u8 1, .int .i64 src, .int .i64 dst, .int .i64 tm, .int .i64 ix, .int .i64 lt, .slice a n c, .int .i64 cm, .bool ok]] W (PlainPost true W))
    (T : Int) (hT : s.term = T) (d0 : decide (T < tm) = false) (S' : Srv) (ms : List Msg)
    (cr : ∀ W, Is W g s v → Only (fun j => j = g) w W → Calls Try.prog 43 #[.pointer (some ⟨g, 0, none⟩), .agg #[.int .u8 1, .int .i64 src, .int .i64 dst, .int .i64 tm, .int .i64 ix, .int .i64 lt, .slice a n c, .int .i64 cm, .bool ok]] W (DidPost g v W S' ms)) :
    Calls Try.prog 10 #[.pointer (some ⟨g, 0, none⟩), .agg #[.int .u8 1, .int .i64 src, .int .i64 dst, .int .i64 tm, .int .i64 ix, .int .i64 lt, .slice a n c, .int .i64 cm, .bool ok]] w (DidPost g v w S' ms) := by
  have hB := (Below.refl _ w).alloc (Nat.le_refl _) (.cells #[.int .u8 1, .int .i64 src, .int .i64 dst, .int .i64 tm, .int .i64 ix, .int .i64 lt, .slice a n c, .int .i64 cm, .bool ok] 34)
  have h1 := h.below hB
  have hbx := heap_alloc_new w (.cells #[.int .u8 1, .int .i64 src, .int .i64 dst, .int .i64 tm, .int .i64 ix, .int .i64 lt, .slice a n c, .int .i64 cm, .bool ok] 34)
  have hlt := h.lt
  have hne : ∀ j, v.ownBlock = some j → j < w.heap.size := fun j hj => h.own_lt hj
  have hbs : w.heap.size < (w.alloc (.cells #[.int .u8 1, .int .i64 src, .int .i64 dst, .int .i64 tm, .int .i64 ix, .int .i64 lt, .slice a n c, .int .i64 cm, .bool ok] 34)).heap.size := by rw [World.size_alloc]; omega
  go_enter Try.func10, Try.ntmps10
  go_wp2_with fail
  refine (made1 g s v true _ h1 (by simp; omega)).mono ?_
  rintro e w1 ⟨rfl, rfl⟩
  go_wp2_with fail
  refine (ch _ hB).mono ?_
  rintro e w2 ⟨rfl, hB2⟩
  have h2 := h1.below hB2
  have hO2 : Only (fun j => j = g) w w2 := (Only.of_below hB).trans (Only.of_below hB2)
  have hbx2 := (hB2.block _ hbs).trans hbx
  have m3 : w2.cell? ⟨w.heap.size, 3, none⟩ = some (.int .i64 tm) := by simp [World.cell?, hbx2]
  obtain ⟨x2, f2⟩ := h2.term
  rw [hT] at x2
  have hbs2 : w.heap.size < w2.heap.size := (Array.getElem?_eq_some_iff.1 hbx2).1
  have hgn : ¬ w.heap.size = g := by omega
  clear hB h1 hbx hbs hB2 ch hT
  go_wp2_with fail
  go_quiet (fail)
  have h3 : Is (w2.drewN nq) g s v := h2.drewN nq
  have hO3 : Only (fun j => j = g) w (w2.drewN nq) := hO2.drewN nq
  have hbx3 : (w2.drewN nq).heap[w.heap.size]? = some (.cells #[.int .u8 1, .int .i64 src, .int .i64 dst, .int .i64 tm, .int .i64 ix, .int .i64 lt, .slice a n c, .int .i64 cm, .bool ok] 34 (0, 0)) := hbx2
  replace hbs2 : w.heap.size < (w2.drewN nq).heap.size := hbs2
  clear h2 hO2 hbx2 m3 x2 f2
  generalize (w2.drewN nq) = w3 at *
  have hs3 : w3.heap.size = w3.heap.size := by simp [World.setCell, World.drewN]
  have hB4 := (Below.refl _ w3).alloc (Nat.le_refl _) (.cells #[.nilFunc, .func (.func 43) #[] #[], .func (.func 44) #[] #[], .func (.func 45) #[] #[], .func (.func 46) #[] #[]] 86)
  have hnb := heap_alloc_new w3 (.cells #[.nilFunc, .func (.func 43) #[] #[], .func (.func 44) #[] #[], .func (.func 45) #[] #[], .func (.func 46) #[] #[]] 86)
  rw [hs3] at hnb
  have h4 := h3.below hB4
  have hO4 := hO3.trans (Only.of_below (S := fun j => j = g) hB4)
  have hbx4 := (hB4.block w.heap.size (by rw [hs3]; exact hbs2)).trans hbx3
  have HNB := Lib.hid hnb
  have HBX := Lib.hid hbx4
  clear h3 hO3 hbx3 hB4 hs3 hnb hbx4
  go_wp2_with fail
  have hnb := HNB.out
  have hbx4 := HBX.out
  clear HNB HBX
  generalize (w3.alloc (.cells #[.nilFunc, .func (.func 43) #[] #[], .func (.func 44) #[] #[], .func (.func 45) #[] #[], .func (.func 46) #[] #[]] 86)) = W4 at *
  obtain ⟨b0, b1, b2, b3, b4, b5, b6, b7, b8⟩ := nine_cells hbx4
  obtain ⟨t0, t1, t2, t3, t4⟩ := five_cells hnb
  refine wp_region_held_drew (S := (fun w' => w'.cell? ⟨w.heap.size, 0, none⟩ = some (.int .u8 1) ∧ w'.cell? ⟨w.heap.size, 1, none⟩ = some (.int .i64 src) ∧ w'.cell? ⟨w.heap.size, 2, none⟩ = some (.int .i64 dst) ∧ w'.cell? ⟨w.heap.size, 3, none⟩ = some (.int .i64 tm) ∧ w'.cell? ⟨w.heap.size, 4, none⟩ = some (.int .i64 ix) ∧ w'.cell? ⟨w.heap.size, 5, none⟩ = some (.int .i64 lt) ∧ w'.cell? ⟨w.heap.size, 6, none⟩ = some (.slice a n c) ∧ w'.cell? ⟨w.heap.size, 7, none⟩ = some (.int .i64 cm) ∧ w'.cell? ⟨w.heap.size, 8, none⟩ = some (.bool ok) ∧ w'.cell? ⟨w3.heap.size, 1, none⟩ = some (.func (.func 43) #[] #[]))) (by kernel_rfl) ⟨b0, b1, b2, b3, b4, b5, b6, b7, b8, t1⟩ (fun hHeld => ?_)
  refine' wpAnyH_take (i := 0) (oi := ({ dst := some 43, op := Go.Op.fieldAddr 34 (Go.Operand.tmp 3) 0, type := 0, pos := "raft.go:172", after := #[], guard := none } : Oper)) (v := ?v0) rfl (by kernel_rfl) (by kernel_rfl) (by kernel_rfl) (fun _ _ _ h => h) (Or.inl ⟨by rfl, ?y0⟩) hHeld ?r0
  case y0 => (intro w hSw; try dsimp only at hSw); go_simp; try with_reducible rfl
  case r0 =>
  try simp only [Act.put, List.setIfInBounds_toArray, List.set_cons_zero, List.set_cons_succ]
  refine' wpAnyH_take (i := 1) (oi := ({ dst := some 44, op := Go.Op.load 5 (Go.Operand.tmp 43), type := 5, pos := "raft.go:172", after := #[{ on := 0, ground := Go.Ground.data }], guard := none } : Oper)) (v := ?v1) rfl (by kernel_rfl) (by kernel_rfl) (by kernel_rfl) (fun _ _ _ h => h) (Or.inl ⟨by rfl, ?y1⟩) hHeld ?r1
  case y1 => (intro w hSw; try dsimp only at hSw); go_simp; try with_reducible rfl
  case r1 =>
  try simp only [Act.put, List.setIfInBounds_toArray, List.set_cons_zero, List.set_cons_succ]
  refine' wpAnyH_take (i := 2) (oi := ({ dst := some 45, op := Go.Op.indexAddr 86 (Go.Operand.tmp 5) (Go.Operand.tmp 44), type := 0, pos := "raft.go:172", after := #[{ on := 1, ground := Go.Ground.data }], guard := none } : Oper)) (v := ?v2) rfl (by kernel_rfl) (by kernel_rfl) (by kernel_rfl) (fun _ _ _ h => h) (Or.inl ⟨by rfl, ?y2⟩) hHeld ?r2
  case y2 => (intro w hSw; try dsimp only at hSw); go_simp; try with_reducible rfl
  case r2 =>
  try simp only [Act.put, List.setIfInBounds_toArray, List.set_cons_zero, List.set_cons_succ]
  refine' wpAnyH_take (i := 3) (oi := ({ dst := some 46, op := Go.Op.load 85 (Go.Operand.tmp 45), type := 85, pos := "raft.go:172", after := #[{ on := 2, ground := Go.Ground.data }], guard := none } : Oper)) (v := ?v3) rfl (by kernel_rfl) (by kernel_rfl) (by kernel_rfl) (fun _ _ _ h => h) (Or.inl ⟨by rfl, ?y3⟩) hHeld ?r3
  case y3 => (intro w hSw; try dsimp only at hSw); go_simp; try with_reducible rfl
  case r3 =>
  try simp only [Act.put, List.setIfInBounds_toArray, List.set_cons_zero, List.set_cons_succ]
  refine' wpAnyH_take (i := 4) (oi := ({ dst := some 47, op := Go.Op.move (Go.Operand.tmp 0), type := 22, pos := "raft.go:172", after := #[], guard := none } : Oper)) (v := ?v4) rfl (by kernel_rfl) (by kernel_rfl) (by kernel_rfl) (fun _ _ _ h => h) (Or.inl ⟨by rfl, ?y4⟩) hHeld ?r4
  case y4 => (intro w hSw; try dsimp only at hSw); go_simp; try with_reducible rfl
  case r4 =>
  try simp only [Act.put, List.setIfInBounds_toArray, List.set_cons_zero, List.set_cons_succ]
  refine' wpAnyH_take (i := 5) (oi := ({ dst := some 48, op := Go.Op.load 34 (Go.Operand.tmp 3), type := 34, pos := "raft.go:172", after := #[], guard := none } : Oper)) (v := ?v5) rfl (by kernel_rfl) (by kernel_rfl) (by kernel_rfl) (fun _ _ _ h => h) (Or.inl ⟨by rfl, ?y5⟩) hHeld ?r5
  case y5 => (intro w hSw; try dsimp only at hSw); go_simp; try with_reducible rfl
  case r5 =>
  try simp only [Act.put, List.setIfInBounds_toArray, List.set_cons_zero, List.set_cons_succ]
  refine wpAnyH_ready (rs := [6]) (by kernel_rfl) (by simp) ?_
  refine AllReadyH.cons rfl (fun K hK => ?_) AllReadyH.nil
  go_simp
  refine (cr W4.drew (h4.drewN 1) (hO4.drewN 1)).mono ?_
  rintro e w5 ⟨out, rfl, hD⟩
  have hbx5 := (hD.only.block w.heap.size (by have := hO4.size; have := (Array.getElem?_eq_some_iff.1 hbx4).1; exact this) (by rintro (e | e); exact hgn e; exact absurd (hne _ e) (Nat.lt_irrefl _))).trans hbx4
  have hnb5 := (hD.only.block w3.heap.size ((Array.getElem?_eq_some_iff.1 hnb).1) (by rintro (e | e); omega; exact absurd (hne _ e) (by omega))).trans hnb
  obtain ⟨b0, b1, b2, b3, b4, b5, b6, b7, b8⟩ := nine_cells hbx5
  obtain ⟨t0, t1, t2, t3, t4⟩ := five_cells hnb5
  refine hK.out _ _ ⟨b0, b1, b2, b3, b4, b5, b6, b7, b8, t1⟩ (fun hHeld => ?_)
  clear hK K
  try simp only [Act.put, List.setIfInBounds_toArray, List.set_cons_zero, List.set_cons_succ]
  refine' wpAnyH_take (i := 7) (oi := ({ dst := some 4, op := Go.Op.assign (Go.Operand.tmp 49), type := 30, pos := "raft.go:172", after := #[{ on := 6, ground := Go.Ground.data }, { on := 6, ground := Go.Ground.chain }, { on := 0, ground := Go.Ground.phase }, { on := 1, ground := Go.Ground.phase }, { on := 2, ground := Go.Ground.phase }, { on := 3, ground := Go.Ground.phase }, { on := 4, ground := Go.Ground.phase }, { on := 5, ground := Go.Ground.phase }, { on := 6, ground := Go.Ground.phase }], guard := none } : Oper)) (v := ?v7) rfl (by kernel_rfl) (by kernel_rfl) (by kernel_rfl) (fun _ _ _ h => h) (Or.inl ⟨by rfl, ?y7⟩) hHeld ?r7
  case y7 => (intro w hSw; try dsimp only at hSw); go_simp; try with_reducible rfl
  case r7 =>
  try simp only [Act.put, List.setIfInBounds_toArray, List.set_cons_zero, List.set_cons_succ]
  refine wpAnyH_done (by kernel_rfl) ?_ _
  try simp only [Act.put]
  go_simp
  clear b0 b1 b2 b3 b4 b5 b6 b7 b8 t0 t1 t2 t3 t4 hHeld
  go_wp2_with fail
  go_ret
  exact ⟨out, rfl, hD.below ((hO4.drewN 1).weak (fun _ e => .inl e)) (fun j hj => .inl hj) hlt⟩

set_option maxRecDepth 100000 in
set_option maxHeartbeats 1000000 in
theorem handle_2u (g : Nat) (s : Srv) (v : Value) (h0 : 1 ≤ s.nodes) (src dst tm ix lt cm : Int) (ok : Bool) (a : Option Addr) (n c : Nat) (w : World) (h : Is w g s v) (ch : ∀ W, Below w.heap.size w W → Calls Try.prog 42 #[.pointer (some ⟨g, 0, none⟩), .agg #[.int .u8 2, .int .i64 src, .int .i64 dst, .int .i64 tm, .int .i64 ix, .int .i64 lt, .slice a n c, .int .i64 cm, .bool ok]] W (PlainPost true W))
    (T : Int) (hT : s.term = T) (d0 : decide (T < tm) = true) (S' : Srv) (ms : List Msg)
    (cr : ∀ W, Is W g (bump s tm) v → Only (fun j => j = g) w W → Calls Try.prog 44 #[.pointer (some ⟨g, 0, none⟩), .agg #[.int .u8 2, .int .i64 src, .int .i64 dst, .int .i64 tm, .int .i64 ix, .int .i64 lt, .slice a n c, .int .i64 cm, .bool ok]] W (DidPost g v W S' ms)) :
    Calls Try.prog 10 #[.pointer (some ⟨g, 0, none⟩), .agg #[.int .u8 2, .int .i64 src, .int .i64 dst, .int .i64 tm, .int .i64 ix, .int .i64 lt, .slice a n c, .int .i64 cm, .bool ok]] w (DidPost g v w S' ms) := by
  have hB := (Below.refl _ w).alloc (Nat.le_refl _) (.cells #[.int .u8 2, .int .i64 src, .int .i64 dst, .int .i64 tm, .int .i64 ix, .int .i64 lt, .slice a n c, .int .i64 cm, .bool ok] 34)
  have h1 := h.below hB
  have hbx := heap_alloc_new w (.cells #[.int .u8 2, .int .i64 src, .int .i64 dst, .int .i64 tm, .int .i64 ix, .int .i64 lt, .slice a n c, .int .i64 cm, .bool ok] 34)
  have hlt := h.lt
  have hne : ∀ j, v.ownBlock = some j → j < w.heap.size := fun j hj => h.own_lt hj
  have hbs : w.heap.size < (w.alloc (.cells #[.int .u8 2, .int .i64 src, .int .i64 dst, .int .i64 tm, .int .i64 ix, .int .i64 lt, .slice a n c, .int .i64 cm, .bool ok] 34)).heap.size := by rw [World.size_alloc]; omega
  go_enter Try.func10, Try.ntmps10
  go_wp2_with fail
  refine (made1 g s v true _ h1 (by simp; omega)).mono ?_
  rintro e w1 ⟨rfl, rfl⟩
  go_wp2_with fail
  refine (ch _ hB).mono ?_
  rintro e w2 ⟨rfl, hB2⟩
  have h2 := h1.below hB2
  have hO2 : Only (fun j => j = g) w w2 := (Only.of_below hB).trans (Only.of_below hB2)
  have hbx2 := (hB2.block _ hbs).trans hbx
  have m3 : w2.cell? ⟨w.heap.size, 3, none⟩ = some (.int .i64 tm) := by simp [World.cell?, hbx2]
  obtain ⟨x2, f2⟩ := h2.term
  rw [hT] at x2
  have hbs2 : w.heap.size < w2.heap.size := (Array.getElem?_eq_some_iff.1 hbx2).1
  have hgn : ¬ w.heap.size = g := by omega
  clear hB h1 hbx hbs hB2 ch hT
  go_wp2_with fail
  go_quiet (fail)
  obtain ⟨x3, f3⟩ := h2.vote
  obtain ⟨x5, f5⟩ := h2.role
  obtain ⟨x6, f6⟩ := h2.leader
  obtain ⟨x8, f8⟩ := h2.voters
  have h3 : Is ((((((w2.drewN nq).setCell ⟨g, 2, none⟩ (.int .i64 tm)).setCell ⟨g, 3, none⟩ (.int .i64 (-1))).setCell ⟨g, 5, none⟩ (.int .u8 0)).setCell ⟨g, 6, none⟩ (.int .i64 (-1))).setCell ⟨g, 8, none⟩ (.int .u64 0)) g (bump s tm) v := ((((((h2.drewN nq).set (s' := { s with term := tm }) rfl 2 (.int .i64 tm) rfl).set (s' := { s with term := tm, vote := -1 }) rfl 3 (.int .i64 (-1)) rfl).set (s' := { s with term := tm, vote := -1, role := 0 }) rfl 5 (.int .u8 0) rfl).set (s' := { s with term := tm, vote := -1, role := 0, leader := -1 }) rfl 6 (.int .i64 (-1)) rfl).set (s' := (bump s tm)) rfl 8 (.int .u64 0) rfl)
  have hO3 : Only (fun j => j = g) w ((((((w2.drewN nq).setCell ⟨g, 2, none⟩ (.int .i64 tm)).setCell ⟨g, 3, none⟩ (.int .i64 (-1))).setCell ⟨g, 5, none⟩ (.int .u8 0)).setCell ⟨g, 6, none⟩ (.int .i64 (-1))).setCell ⟨g, 8, none⟩ (.int .u64 0)) := (Only.set (S := fun j => j = g) (Only.set (S := fun j => j = g) (Only.set (S := fun j => j = g) (Only.set (S := fun j => j = g) (Only.set (S := fun j => j = g) (hO2.drewN nq) (p := ⟨g, 2, none⟩) (.inl rfl) (.int .i64 tm)) (p := ⟨g, 3, none⟩) (.inl rfl) (.int .i64 (-1))) (p := ⟨g, 5, none⟩) (.inl rfl) (.int .u8 0)) (p := ⟨g, 6, none⟩) (.inl rfl) (.int .i64 (-1))) (p := ⟨g, 8, none⟩) (.inl rfl) (.int .u64 0))
  have hbx3 : ((((((w2.drewN nq).setCell ⟨g, 2, none⟩ (.int .i64 tm)).setCell ⟨g, 3, none⟩ (.int .i64 (-1))).setCell ⟨g, 5, none⟩ (.int .u8 0)).setCell ⟨g, 6, none⟩ (.int .i64 (-1))).setCell ⟨g, 8, none⟩ (.int .u64 0)).heap[w.heap.size]? = some (.cells #[.int .u8 2, .int .i64 src, .int .i64 dst, .int .i64 tm, .int .i64 ix, .int .i64 lt, .slice a n c, .int .i64 cm, .bool ok] 34 (0, 0)) := ((Below.heap_setCell _ ⟨g, 8, none⟩ (.int .u64 0) w.heap.size hgn).trans ((Below.heap_setCell _ ⟨g, 6, none⟩ (.int .i64 (-1)) w.heap.size hgn).trans ((Below.heap_setCell _ ⟨g, 5, none⟩ (.int .u8 0) w.heap.size hgn).trans ((Below.heap_setCell _ ⟨g, 3, none⟩ (.int .i64 (-1)) w.heap.size hgn).trans ((Below.heap_setCell _ ⟨g, 2, none⟩ (.int .i64 tm) w.heap.size hgn).trans hbx2)))))
  clear h2 hO2 hbx2
  have hs3 : ((((((w2.drewN nq).setCell ⟨g, 2, none⟩ (.int .i64 tm)).setCell ⟨g, 3, none⟩ (.int .i64 (-1))).setCell ⟨g, 5, none⟩ (.int .u8 0)).setCell ⟨g, 6, none⟩ (.int .i64 (-1))).setCell ⟨g, 8, none⟩ (.int .u64 0)).heap.size = w2.heap.size := by simp [World.setCell, World.drewN]
  have hB4 := (Below.refl _ ((((((w2.drewN nq).setCell ⟨g, 2, none⟩ (.int .i64 tm)).setCell ⟨g, 3, none⟩ (.int .i64 (-1))).setCell ⟨g, 5, none⟩ (.int .u8 0)).setCell ⟨g, 6, none⟩ (.int .i64 (-1))).setCell ⟨g, 8, none⟩ (.int .u64 0))).alloc (Nat.le_refl _) (.cells #[.nilFunc, .func (.func 43) #[] #[], .func (.func 44) #[] #[], .func (.func 45) #[] #[], .func (.func 46) #[] #[]] 86)
  have hnb := heap_alloc_new ((((((w2.drewN nq).setCell ⟨g, 2, none⟩ (.int .i64 tm)).setCell ⟨g, 3, none⟩ (.int .i64 (-1))).setCell ⟨g, 5, none⟩ (.int .u8 0)).setCell ⟨g, 6, none⟩ (.int .i64 (-1))).setCell ⟨g, 8, none⟩ (.int .u64 0)) (.cells #[.nilFunc, .func (.func 43) #[] #[], .func (.func 44) #[] #[], .func (.func 45) #[] #[], .func (.func 46) #[] #[]] 86)
  rw [hs3] at hnb
  have h4 := h3.below hB4
  have hO4 := hO3.trans (Only.of_below (S := fun j => j = g) hB4)
  have hbx4 := (hB4.block w.heap.size (by rw [hs3]; exact hbs2)).trans hbx3
  have HNB := Lib.hid hnb
  have HBX := Lib.hid hbx4
  clear h3 hO3 hbx3 hB4 hs3 hnb hbx4
  go_wp2_with fail
  have hnb := HNB.out
  have hbx4 := HBX.out
  clear HNB HBX
  generalize (((((((w2.drewN nq).setCell ⟨g, 2, none⟩ (.int .i64 tm)).setCell ⟨g, 3, none⟩ (.int .i64 (-1))).setCell ⟨g, 5, none⟩ (.int .u8 0)).setCell ⟨g, 6, none⟩ (.int .i64 (-1))).setCell ⟨g, 8, none⟩ (.int .u64 0)).alloc (.cells #[.nilFunc, .func (.func 43) #[] #[], .func (.func 44) #[] #[], .func (.func 45) #[] #[], .func (.func 46) #[] #[]] 86)) = W4 at *
  obtain ⟨b0, b1, b2, b3, b4, b5, b6, b7, b8⟩ := nine_cells hbx4
  obtain ⟨t0, t1, t2, t3, t4⟩ := five_cells hnb
  refine wp_region_held_drew (S := (fun w' => w'.cell? ⟨w.heap.size, 0, none⟩ = some (.int .u8 2) ∧ w'.cell? ⟨w.heap.size, 1, none⟩ = some (.int .i64 src) ∧ w'.cell? ⟨w.heap.size, 2, none⟩ = some (.int .i64 dst) ∧ w'.cell? ⟨w.heap.size, 3, none⟩ = some (.int .i64 tm) ∧ w'.cell? ⟨w.heap.size, 4, none⟩ = some (.int .i64 ix) ∧ w'.cell? ⟨w.heap.size, 5, none⟩ = some (.int .i64 lt) ∧ w'.cell? ⟨w.heap.size, 6, none⟩ = some (.slice a n c) ∧ w'.cell? ⟨w.heap.size, 7, none⟩ = some (.int .i64 cm) ∧ w'.cell? ⟨w.heap.size, 8, none⟩ = some (.bool ok) ∧ w'.cell? ⟨w2.heap.size, 2, none⟩ = some (.func (.func 44) #[] #[]))) (by kernel_rfl) ⟨b0, b1, b2, b3, b4, b5, b6, b7, b8, t2⟩ (fun hHeld => ?_)
  refine' wpAnyH_take (i := 0) (oi := ({ dst := some 43, op := Go.Op.fieldAddr 34 (Go.Operand.tmp 3) 0, type := 0, pos := "raft.go:172", after := #[], guard := none } : Oper)) (v := ?v0) rfl (by kernel_rfl) (by kernel_rfl) (by kernel_rfl) (fun _ _ _ h => h) (Or.inl ⟨by rfl, ?y0⟩) hHeld ?r0
  case y0 => (intro w hSw; try dsimp only at hSw); go_simp; try with_reducible rfl
  case r0 =>
  try simp only [Act.put, List.setIfInBounds_toArray, List.set_cons_zero, List.set_cons_succ]
  refine' wpAnyH_take (i := 1) (oi := ({ dst := some 44, op := Go.Op.load 5 (Go.Operand.tmp 43), type := 5, pos := "raft.go:172", after := #[{ on := 0, ground := Go.Ground.data }], guard := none } : Oper)) (v := ?v1) rfl (by kernel_rfl) (by kernel_rfl) (by kernel_rfl) (fun _ _ _ h => h) (Or.inl ⟨by rfl, ?y1⟩) hHeld ?r1
  case y1 => (intro w hSw; try dsimp only at hSw); go_simp; try with_reducible rfl
  case r1 =>
  try simp only [Act.put, List.setIfInBounds_toArray, List.set_cons_zero, List.set_cons_succ]
  refine' wpAnyH_take (i := 2) (oi := ({ dst := some 45, op := Go.Op.indexAddr 86 (Go.Operand.tmp 5) (Go.Operand.tmp 44), type := 0, pos := "raft.go:172", after := #[{ on := 1, ground := Go.Ground.data }], guard := none } : Oper)) (v := ?v2) rfl (by kernel_rfl) (by kernel_rfl) (by kernel_rfl) (fun _ _ _ h => h) (Or.inl ⟨by rfl, ?y2⟩) hHeld ?r2
  case y2 => (intro w hSw; try dsimp only at hSw); go_simp; try with_reducible rfl
  case r2 =>
  try simp only [Act.put, List.setIfInBounds_toArray, List.set_cons_zero, List.set_cons_succ]
  refine' wpAnyH_take (i := 3) (oi := ({ dst := some 46, op := Go.Op.load 85 (Go.Operand.tmp 45), type := 85, pos := "raft.go:172", after := #[{ on := 2, ground := Go.Ground.data }], guard := none } : Oper)) (v := ?v3) rfl (by kernel_rfl) (by kernel_rfl) (by kernel_rfl) (fun _ _ _ h => h) (Or.inl ⟨by rfl, ?y3⟩) hHeld ?r3
  case y3 => (intro w hSw; try dsimp only at hSw); go_simp; try with_reducible rfl
  case r3 =>
  try simp only [Act.put, List.setIfInBounds_toArray, List.set_cons_zero, List.set_cons_succ]
  refine' wpAnyH_take (i := 4) (oi := ({ dst := some 47, op := Go.Op.move (Go.Operand.tmp 0), type := 22, pos := "raft.go:172", after := #[], guard := none } : Oper)) (v := ?v4) rfl (by kernel_rfl) (by kernel_rfl) (by kernel_rfl) (fun _ _ _ h => h) (Or.inl ⟨by rfl, ?y4⟩) hHeld ?r4
  case y4 => (intro w hSw; try dsimp only at hSw); go_simp; try with_reducible rfl
  case r4 =>
  try simp only [Act.put, List.setIfInBounds_toArray, List.set_cons_zero, List.set_cons_succ]
  refine' wpAnyH_take (i := 5) (oi := ({ dst := some 48, op := Go.Op.load 34 (Go.Operand.tmp 3), type := 34, pos := "raft.go:172", after := #[], guard := none } : Oper)) (v := ?v5) rfl (by kernel_rfl) (by kernel_rfl) (by kernel_rfl) (fun _ _ _ h => h) (Or.inl ⟨by rfl, ?y5⟩) hHeld ?r5
  case y5 => (intro w hSw; try dsimp only at hSw); go_simp; try with_reducible rfl
  case r5 =>
  try simp only [Act.put, List.setIfInBounds_toArray, List.set_cons_zero, List.set_cons_succ]
  refine wpAnyH_ready (rs := [6]) (by kernel_rfl) (by simp) ?_
  refine AllReadyH.cons rfl (fun K hK => ?_) AllReadyH.nil
  go_simp
  refine (cr W4.drew (h4.drewN 1) (hO4.drewN 1)).mono ?_
  rintro e w5 ⟨out, rfl, hD⟩
  have hbx5 := (hD.only.block w.heap.size (by have := hO4.size; have := (Array.getElem?_eq_some_iff.1 hbx4).1; exact this) (by rintro (e | e); exact hgn e; exact absurd (hne _ e) (Nat.lt_irrefl _))).trans hbx4
  have hnb5 := (hD.only.block w2.heap.size ((Array.getElem?_eq_some_iff.1 hnb).1) (by rintro (e | e); omega; exact absurd (hne _ e) (by omega))).trans hnb
  obtain ⟨b0, b1, b2, b3, b4, b5, b6, b7, b8⟩ := nine_cells hbx5
  obtain ⟨t0, t1, t2, t3, t4⟩ := five_cells hnb5
  refine hK.out _ _ ⟨b0, b1, b2, b3, b4, b5, b6, b7, b8, t2⟩ (fun hHeld => ?_)
  clear hK K
  try simp only [Act.put, List.setIfInBounds_toArray, List.set_cons_zero, List.set_cons_succ]
  refine' wpAnyH_take (i := 7) (oi := ({ dst := some 4, op := Go.Op.assign (Go.Operand.tmp 49), type := 30, pos := "raft.go:172", after := #[{ on := 6, ground := Go.Ground.data }, { on := 6, ground := Go.Ground.chain }, { on := 0, ground := Go.Ground.phase }, { on := 1, ground := Go.Ground.phase }, { on := 2, ground := Go.Ground.phase }, { on := 3, ground := Go.Ground.phase }, { on := 4, ground := Go.Ground.phase }, { on := 5, ground := Go.Ground.phase }, { on := 6, ground := Go.Ground.phase }], guard := none } : Oper)) (v := ?v7) rfl (by kernel_rfl) (by kernel_rfl) (by kernel_rfl) (fun _ _ _ h => h) (Or.inl ⟨by rfl, ?y7⟩) hHeld ?r7
  case y7 => (intro w hSw; try dsimp only at hSw); go_simp; try with_reducible rfl
  case r7 =>
  try simp only [Act.put, List.setIfInBounds_toArray, List.set_cons_zero, List.set_cons_succ]
  refine wpAnyH_done (by kernel_rfl) ?_ _
  try simp only [Act.put]
  go_simp
  clear b0 b1 b2 b3 b4 b5 b6 b7 b8 t0 t1 t2 t3 t4 hHeld
  go_wp2_with fail
  go_ret
  exact ⟨out, rfl, hD.below ((hO4.drewN 1).weak (fun _ e => .inl e)) (fun j hj => .inl hj) hlt⟩

set_option maxRecDepth 100000 in
set_option maxHeartbeats 1000000 in
theorem handle_2d (g : Nat) (s : Srv) (v : Value) (h0 : 1 ≤ s.nodes) (src dst tm ix lt cm : Int) (ok : Bool) (a : Option Addr) (n c : Nat) (w : World) (h : Is w g s v) (ch : ∀ W, Below w.heap.size w W → Calls Try.prog 42 #[.pointer (some ⟨g, 0, none⟩), .agg #[.int .u8 2, .int .i64 src, .int .i64 dst, .int .i64 tm, .int .i64 ix, .int .i64 lt, .slice a n c, .int .i64 cm, .bool ok]] W (PlainPost true W))
    (T : Int) (hT : s.term = T) (d0 : decide (T < tm) = false) (S' : Srv) (ms : List Msg)
    (cr : ∀ W, Is W g s v → Only (fun j => j = g) w W → Calls Try.prog 44 #[.pointer (some ⟨g, 0, none⟩), .agg #[.int .u8 2, .int .i64 src, .int .i64 dst, .int .i64 tm, .int .i64 ix, .int .i64 lt, .slice a n c, .int .i64 cm, .bool ok]] W (DidPost g v W S' ms)) :
    Calls Try.prog 10 #[.pointer (some ⟨g, 0, none⟩), .agg #[.int .u8 2, .int .i64 src, .int .i64 dst, .int .i64 tm, .int .i64 ix, .int .i64 lt, .slice a n c, .int .i64 cm, .bool ok]] w (DidPost g v w S' ms) := by
  have hB := (Below.refl _ w).alloc (Nat.le_refl _) (.cells #[.int .u8 2, .int .i64 src, .int .i64 dst, .int .i64 tm, .int .i64 ix, .int .i64 lt, .slice a n c, .int .i64 cm, .bool ok] 34)
  have h1 := h.below hB
  have hbx := heap_alloc_new w (.cells #[.int .u8 2, .int .i64 src, .int .i64 dst, .int .i64 tm, .int .i64 ix, .int .i64 lt, .slice a n c, .int .i64 cm, .bool ok] 34)
  have hlt := h.lt
  have hne : ∀ j, v.ownBlock = some j → j < w.heap.size := fun j hj => h.own_lt hj
  have hbs : w.heap.size < (w.alloc (.cells #[.int .u8 2, .int .i64 src, .int .i64 dst, .int .i64 tm, .int .i64 ix, .int .i64 lt, .slice a n c, .int .i64 cm, .bool ok] 34)).heap.size := by rw [World.size_alloc]; omega
  go_enter Try.func10, Try.ntmps10
  go_wp2_with fail
  refine (made1 g s v true _ h1 (by simp; omega)).mono ?_
  rintro e w1 ⟨rfl, rfl⟩
  go_wp2_with fail
  refine (ch _ hB).mono ?_
  rintro e w2 ⟨rfl, hB2⟩
  have h2 := h1.below hB2
  have hO2 : Only (fun j => j = g) w w2 := (Only.of_below hB).trans (Only.of_below hB2)
  have hbx2 := (hB2.block _ hbs).trans hbx
  have m3 : w2.cell? ⟨w.heap.size, 3, none⟩ = some (.int .i64 tm) := by simp [World.cell?, hbx2]
  obtain ⟨x2, f2⟩ := h2.term
  rw [hT] at x2
  have hbs2 : w.heap.size < w2.heap.size := (Array.getElem?_eq_some_iff.1 hbx2).1
  have hgn : ¬ w.heap.size = g := by omega
  clear hB h1 hbx hbs hB2 ch hT
  go_wp2_with fail
  go_quiet (fail)
  have h3 : Is (w2.drewN nq) g s v := h2.drewN nq
  have hO3 : Only (fun j => j = g) w (w2.drewN nq) := hO2.drewN nq
  have hbx3 : (w2.drewN nq).heap[w.heap.size]? = some (.cells #[.int .u8 2, .int .i64 src, .int .i64 dst, .int .i64 tm, .int .i64 ix, .int .i64 lt, .slice a n c, .int .i64 cm, .bool ok] 34 (0, 0)) := hbx2
  replace hbs2 : w.heap.size < (w2.drewN nq).heap.size := hbs2
  clear h2 hO2 hbx2 m3 x2 f2
  generalize (w2.drewN nq) = w3 at *
  have hs3 : w3.heap.size = w3.heap.size := by simp [World.setCell, World.drewN]
  have hB4 := (Below.refl _ w3).alloc (Nat.le_refl _) (.cells #[.nilFunc, .func (.func 43) #[] #[], .func (.func 44) #[] #[], .func (.func 45) #[] #[], .func (.func 46) #[] #[]] 86)
  have hnb := heap_alloc_new w3 (.cells #[.nilFunc, .func (.func 43) #[] #[], .func (.func 44) #[] #[], .func (.func 45) #[] #[], .func (.func 46) #[] #[]] 86)
  rw [hs3] at hnb
  have h4 := h3.below hB4
  have hO4 := hO3.trans (Only.of_below (S := fun j => j = g) hB4)
  have hbx4 := (hB4.block w.heap.size (by rw [hs3]; exact hbs2)).trans hbx3
  have HNB := Lib.hid hnb
  have HBX := Lib.hid hbx4
  clear h3 hO3 hbx3 hB4 hs3 hnb hbx4
  go_wp2_with fail
  have hnb := HNB.out
  have hbx4 := HBX.out
  clear HNB HBX
  generalize (w3.alloc (.cells #[.nilFunc, .func (.func 43) #[] #[], .func (.func 44) #[] #[], .func (.func 45) #[] #[], .func (.func 46) #[] #[]] 86)) = W4 at *
  obtain ⟨b0, b1, b2, b3, b4, b5, b6, b7, b8⟩ := nine_cells hbx4
  obtain ⟨t0, t1, t2, t3, t4⟩ := five_cells hnb
  refine wp_region_held_drew (S := (fun w' => w'.cell? ⟨w.heap.size, 0, none⟩ = some (.int .u8 2) ∧ w'.cell? ⟨w.heap.size, 1, none⟩ = some (.int .i64 src) ∧ w'.cell? ⟨w.heap.size, 2, none⟩ = some (.int .i64 dst) ∧ w'.cell? ⟨w.heap.size, 3, none⟩ = some (.int .i64 tm) ∧ w'.cell? ⟨w.heap.size, 4, none⟩ = some (.int .i64 ix) ∧ w'.cell? ⟨w.heap.size, 5, none⟩ = some (.int .i64 lt) ∧ w'.cell? ⟨w.heap.size, 6, none⟩ = some (.slice a n c) ∧ w'.cell? ⟨w.heap.size, 7, none⟩ = some (.int .i64 cm) ∧ w'.cell? ⟨w.heap.size, 8, none⟩ = some (.bool ok) ∧ w'.cell? ⟨w3.heap.size, 2, none⟩ = some (.func (.func 44) #[] #[]))) (by kernel_rfl) ⟨b0, b1, b2, b3, b4, b5, b6, b7, b8, t2⟩ (fun hHeld => ?_)
  refine' wpAnyH_take (i := 0) (oi := ({ dst := some 43, op := Go.Op.fieldAddr 34 (Go.Operand.tmp 3) 0, type := 0, pos := "raft.go:172", after := #[], guard := none } : Oper)) (v := ?v0) rfl (by kernel_rfl) (by kernel_rfl) (by kernel_rfl) (fun _ _ _ h => h) (Or.inl ⟨by rfl, ?y0⟩) hHeld ?r0
  case y0 => (intro w hSw; try dsimp only at hSw); go_simp; try with_reducible rfl
  case r0 =>
  try simp only [Act.put, List.setIfInBounds_toArray, List.set_cons_zero, List.set_cons_succ]
  refine' wpAnyH_take (i := 1) (oi := ({ dst := some 44, op := Go.Op.load 5 (Go.Operand.tmp 43), type := 5, pos := "raft.go:172", after := #[{ on := 0, ground := Go.Ground.data }], guard := none } : Oper)) (v := ?v1) rfl (by kernel_rfl) (by kernel_rfl) (by kernel_rfl) (fun _ _ _ h => h) (Or.inl ⟨by rfl, ?y1⟩) hHeld ?r1
  case y1 => (intro w hSw; try dsimp only at hSw); go_simp; try with_reducible rfl
  case r1 =>
  try simp only [Act.put, List.setIfInBounds_toArray, List.set_cons_zero, List.set_cons_succ]
  refine' wpAnyH_take (i := 2) (oi := ({ dst := some 45, op := Go.Op.indexAddr 86 (Go.Operand.tmp 5) (Go.Operand.tmp 44), type := 0, pos := "raft.go:172", after := #[{ on := 1, ground := Go.Ground.data }], guard := none } : Oper)) (v := ?v2) rfl (by kernel_rfl) (by kernel_rfl) (by kernel_rfl) (fun _ _ _ h => h) (Or.inl ⟨by rfl, ?y2⟩) hHeld ?r2
  case y2 => (intro w hSw; try dsimp only at hSw); go_simp; try with_reducible rfl
  case r2 =>
  try simp only [Act.put, List.setIfInBounds_toArray, List.set_cons_zero, List.set_cons_succ]
  refine' wpAnyH_take (i := 3) (oi := ({ dst := some 46, op := Go.Op.load 85 (Go.Operand.tmp 45), type := 85, pos := "raft.go:172", after := #[{ on := 2, ground := Go.Ground.data }], guard := none } : Oper)) (v := ?v3) rfl (by kernel_rfl) (by kernel_rfl) (by kernel_rfl) (fun _ _ _ h => h) (Or.inl ⟨by rfl, ?y3⟩) hHeld ?r3
  case y3 => (intro w hSw; try dsimp only at hSw); go_simp; try with_reducible rfl
  case r3 =>
  try simp only [Act.put, List.setIfInBounds_toArray, List.set_cons_zero, List.set_cons_succ]
  refine' wpAnyH_take (i := 4) (oi := ({ dst := some 47, op := Go.Op.move (Go.Operand.tmp 0), type := 22, pos := "raft.go:172", after := #[], guard := none } : Oper)) (v := ?v4) rfl (by kernel_rfl) (by kernel_rfl) (by kernel_rfl) (fun _ _ _ h => h) (Or.inl ⟨by rfl, ?y4⟩) hHeld ?r4
  case y4 => (intro w hSw; try dsimp only at hSw); go_simp; try with_reducible rfl
  case r4 =>
  try simp only [Act.put, List.setIfInBounds_toArray, List.set_cons_zero, List.set_cons_succ]
  refine' wpAnyH_take (i := 5) (oi := ({ dst := some 48, op := Go.Op.load 34 (Go.Operand.tmp 3), type := 34, pos := "raft.go:172", after := #[], guard := none } : Oper)) (v := ?v5) rfl (by kernel_rfl) (by kernel_rfl) (by kernel_rfl) (fun _ _ _ h => h) (Or.inl ⟨by rfl, ?y5⟩) hHeld ?r5
  case y5 => (intro w hSw; try dsimp only at hSw); go_simp; try with_reducible rfl
  case r5 =>
  try simp only [Act.put, List.setIfInBounds_toArray, List.set_cons_zero, List.set_cons_succ]
  refine wpAnyH_ready (rs := [6]) (by kernel_rfl) (by simp) ?_
  refine AllReadyH.cons rfl (fun K hK => ?_) AllReadyH.nil
  go_simp
  refine (cr W4.drew (h4.drewN 1) (hO4.drewN 1)).mono ?_
  rintro e w5 ⟨out, rfl, hD⟩
  have hbx5 := (hD.only.block w.heap.size (by have := hO4.size; have := (Array.getElem?_eq_some_iff.1 hbx4).1; exact this) (by rintro (e | e); exact hgn e; exact absurd (hne _ e) (Nat.lt_irrefl _))).trans hbx4
  have hnb5 := (hD.only.block w3.heap.size ((Array.getElem?_eq_some_iff.1 hnb).1) (by rintro (e | e); omega; exact absurd (hne _ e) (by omega))).trans hnb
  obtain ⟨b0, b1, b2, b3, b4, b5, b6, b7, b8⟩ := nine_cells hbx5
  obtain ⟨t0, t1, t2, t3, t4⟩ := five_cells hnb5
  refine hK.out _ _ ⟨b0, b1, b2, b3, b4, b5, b6, b7, b8, t2⟩ (fun hHeld => ?_)
  clear hK K
  try simp only [Act.put, List.setIfInBounds_toArray, List.set_cons_zero, List.set_cons_succ]
  refine' wpAnyH_take (i := 7) (oi := ({ dst := some 4, op := Go.Op.assign (Go.Operand.tmp 49), type := 30, pos := "raft.go:172", after := #[{ on := 6, ground := Go.Ground.data }, { on := 6, ground := Go.Ground.chain }, { on := 0, ground := Go.Ground.phase }, { on := 1, ground := Go.Ground.phase }, { on := 2, ground := Go.Ground.phase }, { on := 3, ground := Go.Ground.phase }, { on := 4, ground := Go.Ground.phase }, { on := 5, ground := Go.Ground.phase }, { on := 6, ground := Go.Ground.phase }], guard := none } : Oper)) (v := ?v7) rfl (by kernel_rfl) (by kernel_rfl) (by kernel_rfl) (fun _ _ _ h => h) (Or.inl ⟨by rfl, ?y7⟩) hHeld ?r7
  case y7 => (intro w hSw; try dsimp only at hSw); go_simp; try with_reducible rfl
  case r7 =>
  try simp only [Act.put, List.setIfInBounds_toArray, List.set_cons_zero, List.set_cons_succ]
  refine wpAnyH_done (by kernel_rfl) ?_ _
  try simp only [Act.put]
  go_simp
  clear b0 b1 b2 b3 b4 b5 b6 b7 b8 t0 t1 t2 t3 t4 hHeld
  go_wp2_with fail
  go_ret
  exact ⟨out, rfl, hD.below ((hO4.drewN 1).weak (fun _ e => .inl e)) (fun j hj => .inl hj) hlt⟩

set_option maxRecDepth 100000 in
set_option maxHeartbeats 1000000 in
theorem handle_3u (g : Nat) (s : Srv) (v : Value) (h0 : 1 ≤ s.nodes) (src dst tm ix lt cm : Int) (ok : Bool) (a : Option Addr) (n c : Nat) (w : World) (h : Is w g s v) (ch : ∀ W, Below w.heap.size w W → Calls Try.prog 42 #[.pointer (some ⟨g, 0, none⟩), .agg #[.int .u8 3, .int .i64 src, .int .i64 dst, .int .i64 tm, .int .i64 ix, .int .i64 lt, .slice a n c, .int .i64 cm, .bool ok]] W (PlainPost true W))
    (T : Int) (hT : s.term = T) (d0 : decide (T < tm) = true) (S' : Srv) (ms : List Msg)
    (cr : ∀ W, Is W g (bump s tm) v → Only (fun j => j = g) w W → Calls Try.prog 45 #[.pointer (some ⟨g, 0, none⟩), .agg #[.int .u8 3, .int .i64 src, .int .i64 dst, .int .i64 tm, .int .i64 ix, .int .i64 lt, .slice a n c, .int .i64 cm, .bool ok]] W (DidPost g v W S' ms)) :
    Calls Try.prog 10 #[.pointer (some ⟨g, 0, none⟩), .agg #[.int .u8 3, .int .i64 src, .int .i64 dst, .int .i64 tm, .int .i64 ix, .int .i64 lt, .slice a n c, .int .i64 cm, .bool ok]] w (DidPost g v w S' ms) := by
  have hB := (Below.refl _ w).alloc (Nat.le_refl _) (.cells #[.int .u8 3, .int .i64 src, .int .i64 dst, .int .i64 tm, .int .i64 ix, .int .i64 lt, .slice a n c, .int .i64 cm, .bool ok] 34)
  have h1 := h.below hB
  have hbx := heap_alloc_new w (.cells #[.int .u8 3, .int .i64 src, .int .i64 dst, .int .i64 tm, .int .i64 ix, .int .i64 lt, .slice a n c, .int .i64 cm, .bool ok] 34)
  have hlt := h.lt
  have hne : ∀ j, v.ownBlock = some j → j < w.heap.size := fun j hj => h.own_lt hj
  have hbs : w.heap.size < (w.alloc (.cells #[.int .u8 3, .int .i64 src, .int .i64 dst, .int .i64 tm, .int .i64 ix, .int .i64 lt, .slice a n c, .int .i64 cm, .bool ok] 34)).heap.size := by rw [World.size_alloc]; omega
  go_enter Try.func10, Try.ntmps10
  go_wp2_with fail
  refine (made1 g s v true _ h1 (by simp; omega)).mono ?_
  rintro e w1 ⟨rfl, rfl⟩
  go_wp2_with fail
  refine (ch _ hB).mono ?_
  rintro e w2 ⟨rfl, hB2⟩
  have h2 := h1.below hB2
  have hO2 : Only (fun j => j = g) w w2 := (Only.of_below hB).trans (Only.of_below hB2)
  have hbx2 := (hB2.block _ hbs).trans hbx
  have m3 : w2.cell? ⟨w.heap.size, 3, none⟩ = some (.int .i64 tm) := by simp [World.cell?, hbx2]
  obtain ⟨x2, f2⟩ := h2.term
  rw [hT] at x2
  have hbs2 : w.heap.size < w2.heap.size := (Array.getElem?_eq_some_iff.1 hbx2).1
  have hgn : ¬ w.heap.size = g := by omega
  clear hB h1 hbx hbs hB2 ch hT
  go_wp2_with fail
  go_quiet (fail)
  obtain ⟨x3, f3⟩ := h2.vote
  obtain ⟨x5, f5⟩ := h2.role
  obtain ⟨x6, f6⟩ := h2.leader
  obtain ⟨x8, f8⟩ := h2.voters
  have h3 : Is ((((((w2.drewN nq).setCell ⟨g, 2, none⟩ (.int .i64 tm)).setCell ⟨g, 3, none⟩ (.int .i64 (-1))).setCell ⟨g, 5, none⟩ (.int .u8 0)).setCell ⟨g, 6, none⟩ (.int .i64 (-1))).setCell ⟨g, 8, none⟩ (.int .u64 0)) g (bump s tm) v := ((((((h2.drewN nq).set (s' := { s with term := tm }) rfl 2 (.int .i64 tm) rfl).set (s' := { s with term := tm, vote := -1 }) rfl 3 (.int .i64 (-1)) rfl).set (s' := { s with term := tm, vote := -1, role := 0 }) rfl 5 (.int .u8 0) rfl).set (s' := { s with term := tm, vote := -1, role := 0, leader := -1 }) rfl 6 (.int .i64 (-1)) rfl).set (s' := (bump s tm)) rfl 8 (.int .u64 0) rfl)
  have hO3 : Only (fun j => j = g) w ((((((w2.drewN nq).setCell ⟨g, 2, none⟩ (.int .i64 tm)).setCell ⟨g, 3, none⟩ (.int .i64 (-1))).setCell ⟨g, 5, none⟩ (.int .u8 0)).setCell ⟨g, 6, none⟩ (.int .i64 (-1))).setCell ⟨g, 8, none⟩ (.int .u64 0)) := (Only.set (S := fun j => j = g) (Only.set (S := fun j => j = g) (Only.set (S := fun j => j = g) (Only.set (S := fun j => j = g) (Only.set (S := fun j => j = g) (hO2.drewN nq) (p := ⟨g, 2, none⟩) (.inl rfl) (.int .i64 tm)) (p := ⟨g, 3, none⟩) (.inl rfl) (.int .i64 (-1))) (p := ⟨g, 5, none⟩) (.inl rfl) (.int .u8 0)) (p := ⟨g, 6, none⟩) (.inl rfl) (.int .i64 (-1))) (p := ⟨g, 8, none⟩) (.inl rfl) (.int .u64 0))
  have hbx3 : ((((((w2.drewN nq).setCell ⟨g, 2, none⟩ (.int .i64 tm)).setCell ⟨g, 3, none⟩ (.int .i64 (-1))).setCell ⟨g, 5, none⟩ (.int .u8 0)).setCell ⟨g, 6, none⟩ (.int .i64 (-1))).setCell ⟨g, 8, none⟩ (.int .u64 0)).heap[w.heap.size]? = some (.cells #[.int .u8 3, .int .i64 src, .int .i64 dst, .int .i64 tm, .int .i64 ix, .int .i64 lt, .slice a n c, .int .i64 cm, .bool ok] 34 (0, 0)) := ((Below.heap_setCell _ ⟨g, 8, none⟩ (.int .u64 0) w.heap.size hgn).trans ((Below.heap_setCell _ ⟨g, 6, none⟩ (.int .i64 (-1)) w.heap.size hgn).trans ((Below.heap_setCell _ ⟨g, 5, none⟩ (.int .u8 0) w.heap.size hgn).trans ((Below.heap_setCell _ ⟨g, 3, none⟩ (.int .i64 (-1)) w.heap.size hgn).trans ((Below.heap_setCell _ ⟨g, 2, none⟩ (.int .i64 tm) w.heap.size hgn).trans hbx2)))))
  clear h2 hO2 hbx2
  have hs3 : ((((((w2.drewN nq).setCell ⟨g, 2, none⟩ (.int .i64 tm)).setCell ⟨g, 3, none⟩ (.int .i64 (-1))).setCell ⟨g, 5, none⟩ (.int .u8 0)).setCell ⟨g, 6, none⟩ (.int .i64 (-1))).setCell ⟨g, 8, none⟩ (.int .u64 0)).heap.size = w2.heap.size := by simp [World.setCell, World.drewN]
  have hB4 := (Below.refl _ ((((((w2.drewN nq).setCell ⟨g, 2, none⟩ (.int .i64 tm)).setCell ⟨g, 3, none⟩ (.int .i64 (-1))).setCell ⟨g, 5, none⟩ (.int .u8 0)).setCell ⟨g, 6, none⟩ (.int .i64 (-1))).setCell ⟨g, 8, none⟩ (.int .u64 0))).alloc (Nat.le_refl _) (.cells #[.nilFunc, .func (.func 43) #[] #[], .func (.func 44) #[] #[], .func (.func 45) #[] #[], .func (.func 46) #[] #[]] 86)
  have hnb := heap_alloc_new ((((((w2.drewN nq).setCell ⟨g, 2, none⟩ (.int .i64 tm)).setCell ⟨g, 3, none⟩ (.int .i64 (-1))).setCell ⟨g, 5, none⟩ (.int .u8 0)).setCell ⟨g, 6, none⟩ (.int .i64 (-1))).setCell ⟨g, 8, none⟩ (.int .u64 0)) (.cells #[.nilFunc, .func (.func 43) #[] #[], .func (.func 44) #[] #[], .func (.func 45) #[] #[], .func (.func 46) #[] #[]] 86)
  rw [hs3] at hnb
  have h4 := h3.below hB4
  have hO4 := hO3.trans (Only.of_below (S := fun j => j = g) hB4)
  have hbx4 := (hB4.block w.heap.size (by rw [hs3]; exact hbs2)).trans hbx3
  have HNB := Lib.hid hnb
  have HBX := Lib.hid hbx4
  clear h3 hO3 hbx3 hB4 hs3 hnb hbx4
  go_wp2_with fail
  have hnb := HNB.out
  have hbx4 := HBX.out
  clear HNB HBX
  generalize (((((((w2.drewN nq).setCell ⟨g, 2, none⟩ (.int .i64 tm)).setCell ⟨g, 3, none⟩ (.int .i64 (-1))).setCell ⟨g, 5, none⟩ (.int .u8 0)).setCell ⟨g, 6, none⟩ (.int .i64 (-1))).setCell ⟨g, 8, none⟩ (.int .u64 0)).alloc (.cells #[.nilFunc, .func (.func 43) #[] #[], .func (.func 44) #[] #[], .func (.func 45) #[] #[], .func (.func 46) #[] #[]] 86)) = W4 at *
  obtain ⟨b0, b1, b2, b3, b4, b5, b6, b7, b8⟩ := nine_cells hbx4
  obtain ⟨t0, t1, t2, t3, t4⟩ := five_cells hnb
  refine wp_region_held_drew (S := (fun w' => w'.cell? ⟨w.heap.size, 0, none⟩ = some (.int .u8 3) ∧ w'.cell? ⟨w.heap.size, 1, none⟩ = some (.int .i64 src) ∧ w'.cell? ⟨w.heap.size, 2, none⟩ = some (.int .i64 dst) ∧ w'.cell? ⟨w.heap.size, 3, none⟩ = some (.int .i64 tm) ∧ w'.cell? ⟨w.heap.size, 4, none⟩ = some (.int .i64 ix) ∧ w'.cell? ⟨w.heap.size, 5, none⟩ = some (.int .i64 lt) ∧ w'.cell? ⟨w.heap.size, 6, none⟩ = some (.slice a n c) ∧ w'.cell? ⟨w.heap.size, 7, none⟩ = some (.int .i64 cm) ∧ w'.cell? ⟨w.heap.size, 8, none⟩ = some (.bool ok) ∧ w'.cell? ⟨w2.heap.size, 3, none⟩ = some (.func (.func 45) #[] #[]))) (by kernel_rfl) ⟨b0, b1, b2, b3, b4, b5, b6, b7, b8, t3⟩ (fun hHeld => ?_)
  refine' wpAnyH_take (i := 0) (oi := ({ dst := some 43, op := Go.Op.fieldAddr 34 (Go.Operand.tmp 3) 0, type := 0, pos := "raft.go:172", after := #[], guard := none } : Oper)) (v := ?v0) rfl (by kernel_rfl) (by kernel_rfl) (by kernel_rfl) (fun _ _ _ h => h) (Or.inl ⟨by rfl, ?y0⟩) hHeld ?r0
  case y0 => (intro w hSw; try dsimp only at hSw); go_simp; try with_reducible rfl
  case r0 =>
  try simp only [Act.put, List.setIfInBounds_toArray, List.set_cons_zero, List.set_cons_succ]
  refine' wpAnyH_take (i := 1) (oi := ({ dst := some 44, op := Go.Op.load 5 (Go.Operand.tmp 43), type := 5, pos := "raft.go:172", after := #[{ on := 0, ground := Go.Ground.data }], guard := none } : Oper)) (v := ?v1) rfl (by kernel_rfl) (by kernel_rfl) (by kernel_rfl) (fun _ _ _ h => h) (Or.inl ⟨by rfl, ?y1⟩) hHeld ?r1
  case y1 => (intro w hSw; try dsimp only at hSw); go_simp; try with_reducible rfl
  case r1 =>
  try simp only [Act.put, List.setIfInBounds_toArray, List.set_cons_zero, List.set_cons_succ]
  refine' wpAnyH_take (i := 2) (oi := ({ dst := some 45, op := Go.Op.indexAddr 86 (Go.Operand.tmp 5) (Go.Operand.tmp 44), type := 0, pos := "raft.go:172", after := #[{ on := 1, ground := Go.Ground.data }], guard := none } : Oper)) (v := ?v2) rfl (by kernel_rfl) (by kernel_rfl) (by kernel_rfl) (fun _ _ _ h => h) (Or.inl ⟨by rfl, ?y2⟩) hHeld ?r2
  case y2 => (intro w hSw; try dsimp only at hSw); go_simp; try with_reducible rfl
  case r2 =>
  try simp only [Act.put, List.setIfInBounds_toArray, List.set_cons_zero, List.set_cons_succ]
  refine' wpAnyH_take (i := 3) (oi := ({ dst := some 46, op := Go.Op.load 85 (Go.Operand.tmp 45), type := 85, pos := "raft.go:172", after := #[{ on := 2, ground := Go.Ground.data }], guard := none } : Oper)) (v := ?v3) rfl (by kernel_rfl) (by kernel_rfl) (by kernel_rfl) (fun _ _ _ h => h) (Or.inl ⟨by rfl, ?y3⟩) hHeld ?r3
  case y3 => (intro w hSw; try dsimp only at hSw); go_simp; try with_reducible rfl
  case r3 =>
  try simp only [Act.put, List.setIfInBounds_toArray, List.set_cons_zero, List.set_cons_succ]
  refine' wpAnyH_take (i := 4) (oi := ({ dst := some 47, op := Go.Op.move (Go.Operand.tmp 0), type := 22, pos := "raft.go:172", after := #[], guard := none } : Oper)) (v := ?v4) rfl (by kernel_rfl) (by kernel_rfl) (by kernel_rfl) (fun _ _ _ h => h) (Or.inl ⟨by rfl, ?y4⟩) hHeld ?r4
  case y4 => (intro w hSw; try dsimp only at hSw); go_simp; try with_reducible rfl
  case r4 =>
  try simp only [Act.put, List.setIfInBounds_toArray, List.set_cons_zero, List.set_cons_succ]
  refine' wpAnyH_take (i := 5) (oi := ({ dst := some 48, op := Go.Op.load 34 (Go.Operand.tmp 3), type := 34, pos := "raft.go:172", after := #[], guard := none } : Oper)) (v := ?v5) rfl (by kernel_rfl) (by kernel_rfl) (by kernel_rfl) (fun _ _ _ h => h) (Or.inl ⟨by rfl, ?y5⟩) hHeld ?r5
  case y5 => (intro w hSw; try dsimp only at hSw); go_simp; try with_reducible rfl
  case r5 =>
  try simp only [Act.put, List.setIfInBounds_toArray, List.set_cons_zero, List.set_cons_succ]
  refine wpAnyH_ready (rs := [6]) (by kernel_rfl) (by simp) ?_
  refine AllReadyH.cons rfl (fun K hK => ?_) AllReadyH.nil
  go_simp
  refine (cr W4.drew (h4.drewN 1) (hO4.drewN 1)).mono ?_
  rintro e w5 ⟨out, rfl, hD⟩
  have hbx5 := (hD.only.block w.heap.size (by have := hO4.size; have := (Array.getElem?_eq_some_iff.1 hbx4).1; exact this) (by rintro (e | e); exact hgn e; exact absurd (hne _ e) (Nat.lt_irrefl _))).trans hbx4
  have hnb5 := (hD.only.block w2.heap.size ((Array.getElem?_eq_some_iff.1 hnb).1) (by rintro (e | e); omega; exact absurd (hne _ e) (by omega))).trans hnb
  obtain ⟨b0, b1, b2, b3, b4, b5, b6, b7, b8⟩ := nine_cells hbx5
  obtain ⟨t0, t1, t2, t3, t4⟩ := five_cells hnb5
  refine hK.out _ _ ⟨b0, b1, b2, b3, b4, b5, b6, b7, b8, t3⟩ (fun hHeld => ?_)
  clear hK K
  try simp only [Act.put, List.setIfInBounds_toArray, List.set_cons_zero, List.set_cons_succ]
  refine' wpAnyH_take (i := 7) (oi := ({ dst := some 4, op := Go.Op.assign (Go.Operand.tmp 49), type := 30, pos := "raft.go:172", after := #[{ on := 6, ground := Go.Ground.data }, { on := 6, ground := Go.Ground.chain }, { on := 0, ground := Go.Ground.phase }, { on := 1, ground := Go.Ground.phase }, { on := 2, ground := Go.Ground.phase }, { on := 3, ground := Go.Ground.phase }, { on := 4, ground := Go.Ground.phase }, { on := 5, ground := Go.Ground.phase }, { on := 6, ground := Go.Ground.phase }], guard := none } : Oper)) (v := ?v7) rfl (by kernel_rfl) (by kernel_rfl) (by kernel_rfl) (fun _ _ _ h => h) (Or.inl ⟨by rfl, ?y7⟩) hHeld ?r7
  case y7 => (intro w hSw; try dsimp only at hSw); go_simp; try with_reducible rfl
  case r7 =>
  try simp only [Act.put, List.setIfInBounds_toArray, List.set_cons_zero, List.set_cons_succ]
  refine wpAnyH_done (by kernel_rfl) ?_ _
  try simp only [Act.put]
  go_simp
  clear b0 b1 b2 b3 b4 b5 b6 b7 b8 t0 t1 t2 t3 t4 hHeld
  go_wp2_with fail
  go_ret
  exact ⟨out, rfl, hD.below ((hO4.drewN 1).weak (fun _ e => .inl e)) (fun j hj => .inl hj) hlt⟩

set_option maxRecDepth 100000 in
set_option maxHeartbeats 1000000 in
theorem handle_3d (g : Nat) (s : Srv) (v : Value) (h0 : 1 ≤ s.nodes) (src dst tm ix lt cm : Int) (ok : Bool) (a : Option Addr) (n c : Nat) (w : World) (h : Is w g s v) (ch : ∀ W, Below w.heap.size w W → Calls Try.prog 42 #[.pointer (some ⟨g, 0, none⟩), .agg #[.int .u8 3, .int .i64 src, .int .i64 dst, .int .i64 tm, .int .i64 ix, .int .i64 lt, .slice a n c, .int .i64 cm, .bool ok]] W (PlainPost true W))
    (T : Int) (hT : s.term = T) (d0 : decide (T < tm) = false) (S' : Srv) (ms : List Msg)
    (cr : ∀ W, Is W g s v → Only (fun j => j = g) w W → Calls Try.prog 45 #[.pointer (some ⟨g, 0, none⟩), .agg #[.int .u8 3, .int .i64 src, .int .i64 dst, .int .i64 tm, .int .i64 ix, .int .i64 lt, .slice a n c, .int .i64 cm, .bool ok]] W (DidPost g v W S' ms)) :
    Calls Try.prog 10 #[.pointer (some ⟨g, 0, none⟩), .agg #[.int .u8 3, .int .i64 src, .int .i64 dst, .int .i64 tm, .int .i64 ix, .int .i64 lt, .slice a n c, .int .i64 cm, .bool ok]] w (DidPost g v w S' ms) := by
  have hB := (Below.refl _ w).alloc (Nat.le_refl _) (.cells #[.int .u8 3, .int .i64 src, .int .i64 dst, .int .i64 tm, .int .i64 ix, .int .i64 lt, .slice a n c, .int .i64 cm, .bool ok] 34)
  have h1 := h.below hB
  have hbx := heap_alloc_new w (.cells #[.int .u8 3, .int .i64 src, .int .i64 dst, .int .i64 tm, .int .i64 ix, .int .i64 lt, .slice a n c, .int .i64 cm, .bool ok] 34)
  have hlt := h.lt
  have hne : ∀ j, v.ownBlock = some j → j < w.heap.size := fun j hj => h.own_lt hj
  have hbs : w.heap.size < (w.alloc (.cells #[.int .u8 3, .int .i64 src, .int .i64 dst, .int .i64 tm, .int .i64 ix, .int .i64 lt, .slice a n c, .int .i64 cm, .bool ok] 34)).heap.size := by rw [World.size_alloc]; omega
  go_enter Try.func10, Try.ntmps10
  go_wp2_with fail
  refine (made1 g s v true _ h1 (by simp; omega)).mono ?_
  rintro e w1 ⟨rfl, rfl⟩
  go_wp2_with fail
  refine (ch _ hB).mono ?_
  rintro e w2 ⟨rfl, hB2⟩
  have h2 := h1.below hB2
  have hO2 : Only (fun j => j = g) w w2 := (Only.of_below hB).trans (Only.of_below hB2)
  have hbx2 := (hB2.block _ hbs).trans hbx
  have m3 : w2.cell? ⟨w.heap.size, 3, none⟩ = some (.int .i64 tm) := by simp [World.cell?, hbx2]
  obtain ⟨x2, f2⟩ := h2.term
  rw [hT] at x2
  have hbs2 : w.heap.size < w2.heap.size := (Array.getElem?_eq_some_iff.1 hbx2).1
  have hgn : ¬ w.heap.size = g := by omega
  clear hB h1 hbx hbs hB2 ch hT
  go_wp2_with fail
  go_quiet (fail)
  have h3 : Is (w2.drewN nq) g s v := h2.drewN nq
  have hO3 : Only (fun j => j = g) w (w2.drewN nq) := hO2.drewN nq
  have hbx3 : (w2.drewN nq).heap[w.heap.size]? = some (.cells #[.int .u8 3, .int .i64 src, .int .i64 dst, .int .i64 tm, .int .i64 ix, .int .i64 lt, .slice a n c, .int .i64 cm, .bool ok] 34 (0, 0)) := hbx2
  replace hbs2 : w.heap.size < (w2.drewN nq).heap.size := hbs2
  clear h2 hO2 hbx2 m3 x2 f2
  generalize (w2.drewN nq) = w3 at *
  have hs3 : w3.heap.size = w3.heap.size := by simp [World.setCell, World.drewN]
  have hB4 := (Below.refl _ w3).alloc (Nat.le_refl _) (.cells #[.nilFunc, .func (.func 43) #[] #[], .func (.func 44) #[] #[], .func (.func 45) #[] #[], .func (.func 46) #[] #[]] 86)
  have hnb := heap_alloc_new w3 (.cells #[.nilFunc, .func (.func 43) #[] #[], .func (.func 44) #[] #[], .func (.func 45) #[] #[], .func (.func 46) #[] #[]] 86)
  rw [hs3] at hnb
  have h4 := h3.below hB4
  have hO4 := hO3.trans (Only.of_below (S := fun j => j = g) hB4)
  have hbx4 := (hB4.block w.heap.size (by rw [hs3]; exact hbs2)).trans hbx3
  have HNB := Lib.hid hnb
  have HBX := Lib.hid hbx4
  clear h3 hO3 hbx3 hB4 hs3 hnb hbx4
  go_wp2_with fail
  have hnb := HNB.out
  have hbx4 := HBX.out
  clear HNB HBX
  generalize (w3.alloc (.cells #[.nilFunc, .func (.func 43) #[] #[], .func (.func 44) #[] #[], .func (.func 45) #[] #[], .func (.func 46) #[] #[]] 86)) = W4 at *
  obtain ⟨b0, b1, b2, b3, b4, b5, b6, b7, b8⟩ := nine_cells hbx4
  obtain ⟨t0, t1, t2, t3, t4⟩ := five_cells hnb
  refine wp_region_held_drew (S := (fun w' => w'.cell? ⟨w.heap.size, 0, none⟩ = some (.int .u8 3) ∧ w'.cell? ⟨w.heap.size, 1, none⟩ = some (.int .i64 src) ∧ w'.cell? ⟨w.heap.size, 2, none⟩ = some (.int .i64 dst) ∧ w'.cell? ⟨w.heap.size, 3, none⟩ = some (.int .i64 tm) ∧ w'.cell? ⟨w.heap.size, 4, none⟩ = some (.int .i64 ix) ∧ w'.cell? ⟨w.heap.size, 5, none⟩ = some (.int .i64 lt) ∧ w'.cell? ⟨w.heap.size, 6, none⟩ = some (.slice a n c) ∧ w'.cell? ⟨w.heap.size, 7, none⟩ = some (.int .i64 cm) ∧ w'.cell? ⟨w.heap.size, 8, none⟩ = some (.bool ok) ∧ w'.cell? ⟨w3.heap.size, 3, none⟩ = some (.func (.func 45) #[] #[]))) (by kernel_rfl) ⟨b0, b1, b2, b3, b4, b5, b6, b7, b8, t3⟩ (fun hHeld => ?_)
  refine' wpAnyH_take (i := 0) (oi := ({ dst := some 43, op := Go.Op.fieldAddr 34 (Go.Operand.tmp 3) 0, type := 0, pos := "raft.go:172", after := #[], guard := none } : Oper)) (v := ?v0) rfl (by kernel_rfl) (by kernel_rfl) (by kernel_rfl) (fun _ _ _ h => h) (Or.inl ⟨by rfl, ?y0⟩) hHeld ?r0
  case y0 => (intro w hSw; try dsimp only at hSw); go_simp; try with_reducible rfl
  case r0 =>
  try simp only [Act.put, List.setIfInBounds_toArray, List.set_cons_zero, List.set_cons_succ]
  refine' wpAnyH_take (i := 1) (oi := ({ dst := some 44, op := Go.Op.load 5 (Go.Operand.tmp 43), type := 5, pos := "raft.go:172", after := #[{ on := 0, ground := Go.Ground.data }], guard := none } : Oper)) (v := ?v1) rfl (by kernel_rfl) (by kernel_rfl) (by kernel_rfl) (fun _ _ _ h => h) (Or.inl ⟨by rfl, ?y1⟩) hHeld ?r1
  case y1 => (intro w hSw; try dsimp only at hSw); go_simp; try with_reducible rfl
  case r1 =>
  try simp only [Act.put, List.setIfInBounds_toArray, List.set_cons_zero, List.set_cons_succ]
  refine' wpAnyH_take (i := 2) (oi := ({ dst := some 45, op := Go.Op.indexAddr 86 (Go.Operand.tmp 5) (Go.Operand.tmp 44), type := 0, pos := "raft.go:172", after := #[{ on := 1, ground := Go.Ground.data }], guard := none } : Oper)) (v := ?v2) rfl (by kernel_rfl) (by kernel_rfl) (by kernel_rfl) (fun _ _ _ h => h) (Or.inl ⟨by rfl, ?y2⟩) hHeld ?r2
  case y2 => (intro w hSw; try dsimp only at hSw); go_simp; try with_reducible rfl
  case r2 =>
  try simp only [Act.put, List.setIfInBounds_toArray, List.set_cons_zero, List.set_cons_succ]
  refine' wpAnyH_take (i := 3) (oi := ({ dst := some 46, op := Go.Op.load 85 (Go.Operand.tmp 45), type := 85, pos := "raft.go:172", after := #[{ on := 2, ground := Go.Ground.data }], guard := none } : Oper)) (v := ?v3) rfl (by kernel_rfl) (by kernel_rfl) (by kernel_rfl) (fun _ _ _ h => h) (Or.inl ⟨by rfl, ?y3⟩) hHeld ?r3
  case y3 => (intro w hSw; try dsimp only at hSw); go_simp; try with_reducible rfl
  case r3 =>
  try simp only [Act.put, List.setIfInBounds_toArray, List.set_cons_zero, List.set_cons_succ]
  refine' wpAnyH_take (i := 4) (oi := ({ dst := some 47, op := Go.Op.move (Go.Operand.tmp 0), type := 22, pos := "raft.go:172", after := #[], guard := none } : Oper)) (v := ?v4) rfl (by kernel_rfl) (by kernel_rfl) (by kernel_rfl) (fun _ _ _ h => h) (Or.inl ⟨by rfl, ?y4⟩) hHeld ?r4
  case y4 => (intro w hSw; try dsimp only at hSw); go_simp; try with_reducible rfl
  case r4 =>
  try simp only [Act.put, List.setIfInBounds_toArray, List.set_cons_zero, List.set_cons_succ]
  refine' wpAnyH_take (i := 5) (oi := ({ dst := some 48, op := Go.Op.load 34 (Go.Operand.tmp 3), type := 34, pos := "raft.go:172", after := #[], guard := none } : Oper)) (v := ?v5) rfl (by kernel_rfl) (by kernel_rfl) (by kernel_rfl) (fun _ _ _ h => h) (Or.inl ⟨by rfl, ?y5⟩) hHeld ?r5
  case y5 => (intro w hSw; try dsimp only at hSw); go_simp; try with_reducible rfl
  case r5 =>
  try simp only [Act.put, List.setIfInBounds_toArray, List.set_cons_zero, List.set_cons_succ]
  refine wpAnyH_ready (rs := [6]) (by kernel_rfl) (by simp) ?_
  refine AllReadyH.cons rfl (fun K hK => ?_) AllReadyH.nil
  go_simp
  refine (cr W4.drew (h4.drewN 1) (hO4.drewN 1)).mono ?_
  rintro e w5 ⟨out, rfl, hD⟩
  have hbx5 := (hD.only.block w.heap.size (by have := hO4.size; have := (Array.getElem?_eq_some_iff.1 hbx4).1; exact this) (by rintro (e | e); exact hgn e; exact absurd (hne _ e) (Nat.lt_irrefl _))).trans hbx4
  have hnb5 := (hD.only.block w3.heap.size ((Array.getElem?_eq_some_iff.1 hnb).1) (by rintro (e | e); omega; exact absurd (hne _ e) (by omega))).trans hnb
  obtain ⟨b0, b1, b2, b3, b4, b5, b6, b7, b8⟩ := nine_cells hbx5
  obtain ⟨t0, t1, t2, t3, t4⟩ := five_cells hnb5
  refine hK.out _ _ ⟨b0, b1, b2, b3, b4, b5, b6, b7, b8, t3⟩ (fun hHeld => ?_)
  clear hK K
  try simp only [Act.put, List.setIfInBounds_toArray, List.set_cons_zero, List.set_cons_succ]
  refine' wpAnyH_take (i := 7) (oi := ({ dst := some 4, op := Go.Op.assign (Go.Operand.tmp 49), type := 30, pos := "raft.go:172", after := #[{ on := 6, ground := Go.Ground.data }, { on := 6, ground := Go.Ground.chain }, { on := 0, ground := Go.Ground.phase }, { on := 1, ground := Go.Ground.phase }, { on := 2, ground := Go.Ground.phase }, { on := 3, ground := Go.Ground.phase }, { on := 4, ground := Go.Ground.phase }, { on := 5, ground := Go.Ground.phase }, { on := 6, ground := Go.Ground.phase }], guard := none } : Oper)) (v := ?v7) rfl (by kernel_rfl) (by kernel_rfl) (by kernel_rfl) (fun _ _ _ h => h) (Or.inl ⟨by rfl, ?y7⟩) hHeld ?r7
  case y7 => (intro w hSw; try dsimp only at hSw); go_simp; try with_reducible rfl
  case r7 =>
  try simp only [Act.put, List.setIfInBounds_toArray, List.set_cons_zero, List.set_cons_succ]
  refine wpAnyH_done (by kernel_rfl) ?_ _
  try simp only [Act.put]
  go_simp
  clear b0 b1 b2 b3 b4 b5 b6 b7 b8 t0 t1 t2 t3 t4 hHeld
  go_wp2_with fail
  go_ret
  exact ⟨out, rfl, hD.below ((hO4.drewN 1).weak (fun _ e => .inl e)) (fun j hj => .inl hj) hlt⟩

set_option maxRecDepth 100000 in
set_option maxHeartbeats 1000000 in
theorem handle_4u (g : Nat) (s : Srv) (v : Value) (h0 : 1 ≤ s.nodes) (src dst tm ix lt cm : Int) (ok : Bool) (a : Option Addr) (n c : Nat) (w : World) (h : Is w g s v) (ch : ∀ W, Below w.heap.size w W → Calls Try.prog 42 #[.pointer (some ⟨g, 0, none⟩), .agg #[.int .u8 4, .int .i64 src, .int .i64 dst, .int .i64 tm, .int .i64 ix, .int .i64 lt, .slice a n c, .int .i64 cm, .bool ok]] W (PlainPost true W))
    (T : Int) (hT : s.term = T) (d0 : decide (T < tm) = true) (S' : Srv) (ms : List Msg)
    (cr : ∀ W, Is W g (bump s tm) v → Only (fun j => j = g) w W → Calls Try.prog 46 #[.pointer (some ⟨g, 0, none⟩), .agg #[.int .u8 4, .int .i64 src, .int .i64 dst, .int .i64 tm, .int .i64 ix, .int .i64 lt, .slice a n c, .int .i64 cm, .bool ok]] W (DidPost g v W S' ms)) :
    Calls Try.prog 10 #[.pointer (some ⟨g, 0, none⟩), .agg #[.int .u8 4, .int .i64 src, .int .i64 dst, .int .i64 tm, .int .i64 ix, .int .i64 lt, .slice a n c, .int .i64 cm, .bool ok]] w (DidPost g v w S' ms) := by
  have hB := (Below.refl _ w).alloc (Nat.le_refl _) (.cells #[.int .u8 4, .int .i64 src, .int .i64 dst, .int .i64 tm, .int .i64 ix, .int .i64 lt, .slice a n c, .int .i64 cm, .bool ok] 34)
  have h1 := h.below hB
  have hbx := heap_alloc_new w (.cells #[.int .u8 4, .int .i64 src, .int .i64 dst, .int .i64 tm, .int .i64 ix, .int .i64 lt, .slice a n c, .int .i64 cm, .bool ok] 34)
  have hlt := h.lt
  have hne : ∀ j, v.ownBlock = some j → j < w.heap.size := fun j hj => h.own_lt hj
  have hbs : w.heap.size < (w.alloc (.cells #[.int .u8 4, .int .i64 src, .int .i64 dst, .int .i64 tm, .int .i64 ix, .int .i64 lt, .slice a n c, .int .i64 cm, .bool ok] 34)).heap.size := by rw [World.size_alloc]; omega
  go_enter Try.func10, Try.ntmps10
  go_wp2_with fail
  refine (made1 g s v true _ h1 (by simp; omega)).mono ?_
  rintro e w1 ⟨rfl, rfl⟩
  go_wp2_with fail
  refine (ch _ hB).mono ?_
  rintro e w2 ⟨rfl, hB2⟩
  have h2 := h1.below hB2
  have hO2 : Only (fun j => j = g) w w2 := (Only.of_below hB).trans (Only.of_below hB2)
  have hbx2 := (hB2.block _ hbs).trans hbx
  have m3 : w2.cell? ⟨w.heap.size, 3, none⟩ = some (.int .i64 tm) := by simp [World.cell?, hbx2]
  obtain ⟨x2, f2⟩ := h2.term
  rw [hT] at x2
  have hbs2 : w.heap.size < w2.heap.size := (Array.getElem?_eq_some_iff.1 hbx2).1
  have hgn : ¬ w.heap.size = g := by omega
  clear hB h1 hbx hbs hB2 ch hT
  go_wp2_with fail
  go_quiet (fail)
  obtain ⟨x3, f3⟩ := h2.vote
  obtain ⟨x5, f5⟩ := h2.role
  obtain ⟨x6, f6⟩ := h2.leader
  obtain ⟨x8, f8⟩ := h2.voters
  have h3 : Is ((((((w2.drewN nq).setCell ⟨g, 2, none⟩ (.int .i64 tm)).setCell ⟨g, 3, none⟩ (.int .i64 (-1))).setCell ⟨g, 5, none⟩ (.int .u8 0)).setCell ⟨g, 6, none⟩ (.int .i64 (-1))).setCell ⟨g, 8, none⟩ (.int .u64 0)) g (bump s tm) v := ((((((h2.drewN nq).set (s' := { s with term := tm }) rfl 2 (.int .i64 tm) rfl).set (s' := { s with term := tm, vote := -1 }) rfl 3 (.int .i64 (-1)) rfl).set (s' := { s with term := tm, vote := -1, role := 0 }) rfl 5 (.int .u8 0) rfl).set (s' := { s with term := tm, vote := -1, role := 0, leader := -1 }) rfl 6 (.int .i64 (-1)) rfl).set (s' := (bump s tm)) rfl 8 (.int .u64 0) rfl)
  have hO3 : Only (fun j => j = g) w ((((((w2.drewN nq).setCell ⟨g, 2, none⟩ (.int .i64 tm)).setCell ⟨g, 3, none⟩ (.int .i64 (-1))).setCell ⟨g, 5, none⟩ (.int .u8 0)).setCell ⟨g, 6, none⟩ (.int .i64 (-1))).setCell ⟨g, 8, none⟩ (.int .u64 0)) := (Only.set (S := fun j => j = g) (Only.set (S := fun j => j = g) (Only.set (S := fun j => j = g) (Only.set (S := fun j => j = g) (Only.set (S := fun j => j = g) (hO2.drewN nq) (p := ⟨g, 2, none⟩) (.inl rfl) (.int .i64 tm)) (p := ⟨g, 3, none⟩) (.inl rfl) (.int .i64 (-1))) (p := ⟨g, 5, none⟩) (.inl rfl) (.int .u8 0)) (p := ⟨g, 6, none⟩) (.inl rfl) (.int .i64 (-1))) (p := ⟨g, 8, none⟩) (.inl rfl) (.int .u64 0))
  have hbx3 : ((((((w2.drewN nq).setCell ⟨g, 2, none⟩ (.int .i64 tm)).setCell ⟨g, 3, none⟩ (.int .i64 (-1))).setCell ⟨g, 5, none⟩ (.int .u8 0)).setCell ⟨g, 6, none⟩ (.int .i64 (-1))).setCell ⟨g, 8, none⟩ (.int .u64 0)).heap[w.heap.size]? = some (.cells #[.int .u8 4, .int .i64 src, .int .i64 dst, .int .i64 tm, .int .i64 ix, .int .i64 lt, .slice a n c, .int .i64 cm, .bool ok] 34 (0, 0)) := ((Below.heap_setCell _ ⟨g, 8, none⟩ (.int .u64 0) w.heap.size hgn).trans ((Below.heap_setCell _ ⟨g, 6, none⟩ (.int .i64 (-1)) w.heap.size hgn).trans ((Below.heap_setCell _ ⟨g, 5, none⟩ (.int .u8 0) w.heap.size hgn).trans ((Below.heap_setCell _ ⟨g, 3, none⟩ (.int .i64 (-1)) w.heap.size hgn).trans ((Below.heap_setCell _ ⟨g, 2, none⟩ (.int .i64 tm) w.heap.size hgn).trans hbx2)))))
  clear h2 hO2 hbx2
  have hs3 : ((((((w2.drewN nq).setCell ⟨g, 2, none⟩ (.int .i64 tm)).setCell ⟨g, 3, none⟩ (.int .i64 (-1))).setCell ⟨g, 5, none⟩ (.int .u8 0)).setCell ⟨g, 6, none⟩ (.int .i64 (-1))).setCell ⟨g, 8, none⟩ (.int .u64 0)).heap.size = w2.heap.size := by simp [World.setCell, World.drewN]
  have hB4 := (Below.refl _ ((((((w2.drewN nq).setCell ⟨g, 2, none⟩ (.int .i64 tm)).setCell ⟨g, 3, none⟩ (.int .i64 (-1))).setCell ⟨g, 5, none⟩ (.int .u8 0)).setCell ⟨g, 6, none⟩ (.int .i64 (-1))).setCell ⟨g, 8, none⟩ (.int .u64 0))).alloc (Nat.le_refl _) (.cells #[.nilFunc, .func (.func 43) #[] #[], .func (.func 44) #[] #[], .func (.func 45) #[] #[], .func (.func 46) #[] #[]] 86)
  have hnb := heap_alloc_new ((((((w2.drewN nq).setCell ⟨g, 2, none⟩ (.int .i64 tm)).setCell ⟨g, 3, none⟩ (.int .i64 (-1))).setCell ⟨g, 5, none⟩ (.int .u8 0)).setCell ⟨g, 6, none⟩ (.int .i64 (-1))).setCell ⟨g, 8, none⟩ (.int .u64 0)) (.cells #[.nilFunc, .func (.func 43) #[] #[], .func (.func 44) #[] #[], .func (.func 45) #[] #[], .func (.func 46) #[] #[]] 86)
  rw [hs3] at hnb
  have h4 := h3.below hB4
  have hO4 := hO3.trans (Only.of_below (S := fun j => j = g) hB4)
  have hbx4 := (hB4.block w.heap.size (by rw [hs3]; exact hbs2)).trans hbx3
  have HNB := Lib.hid hnb
  have HBX := Lib.hid hbx4
  clear h3 hO3 hbx3 hB4 hs3 hnb hbx4
  go_wp2_with fail
  have hnb := HNB.out
  have hbx4 := HBX.out
  clear HNB HBX
  generalize (((((((w2.drewN nq).setCell ⟨g, 2, none⟩ (.int .i64 tm)).setCell ⟨g, 3, none⟩ (.int .i64 (-1))).setCell ⟨g, 5, none⟩ (.int .u8 0)).setCell ⟨g, 6, none⟩ (.int .i64 (-1))).setCell ⟨g, 8, none⟩ (.int .u64 0)).alloc (.cells #[.nilFunc, .func (.func 43) #[] #[], .func (.func 44) #[] #[], .func (.func 45) #[] #[], .func (.func 46) #[] #[]] 86)) = W4 at *
  obtain ⟨b0, b1, b2, b3, b4, b5, b6, b7, b8⟩ := nine_cells hbx4
  obtain ⟨t0, t1, t2, t3, t4⟩ := five_cells hnb
  refine wp_region_held_drew (S := (fun w' => w'.cell? ⟨w.heap.size, 0, none⟩ = some (.int .u8 4) ∧ w'.cell? ⟨w.heap.size, 1, none⟩ = some (.int .i64 src) ∧ w'.cell? ⟨w.heap.size, 2, none⟩ = some (.int .i64 dst) ∧ w'.cell? ⟨w.heap.size, 3, none⟩ = some (.int .i64 tm) ∧ w'.cell? ⟨w.heap.size, 4, none⟩ = some (.int .i64 ix) ∧ w'.cell? ⟨w.heap.size, 5, none⟩ = some (.int .i64 lt) ∧ w'.cell? ⟨w.heap.size, 6, none⟩ = some (.slice a n c) ∧ w'.cell? ⟨w.heap.size, 7, none⟩ = some (.int .i64 cm) ∧ w'.cell? ⟨w.heap.size, 8, none⟩ = some (.bool ok) ∧ w'.cell? ⟨w2.heap.size, 4, none⟩ = some (.func (.func 46) #[] #[]))) (by kernel_rfl) ⟨b0, b1, b2, b3, b4, b5, b6, b7, b8, t4⟩ (fun hHeld => ?_)
  refine' wpAnyH_take (i := 0) (oi := ({ dst := some 43, op := Go.Op.fieldAddr 34 (Go.Operand.tmp 3) 0, type := 0, pos := "raft.go:172", after := #[], guard := none } : Oper)) (v := ?v0) rfl (by kernel_rfl) (by kernel_rfl) (by kernel_rfl) (fun _ _ _ h => h) (Or.inl ⟨by rfl, ?y0⟩) hHeld ?r0
  case y0 => (intro w hSw; try dsimp only at hSw); go_simp; try with_reducible rfl
  case r0 =>
  try simp only [Act.put, List.setIfInBounds_toArray, List.set_cons_zero, List.set_cons_succ]
  refine' wpAnyH_take (i := 1) (oi := ({ dst := some 44, op := Go.Op.load 5 (Go.Operand.tmp 43), type := 5, pos := "raft.go:172", after := #[{ on := 0, ground := Go.Ground.data }], guard := none } : Oper)) (v := ?v1) rfl (by kernel_rfl) (by kernel_rfl) (by kernel_rfl) (fun _ _ _ h => h) (Or.inl ⟨by rfl, ?y1⟩) hHeld ?r1
  case y1 => (intro w hSw; try dsimp only at hSw); go_simp; try with_reducible rfl
  case r1 =>
  try simp only [Act.put, List.setIfInBounds_toArray, List.set_cons_zero, List.set_cons_succ]
  refine' wpAnyH_take (i := 2) (oi := ({ dst := some 45, op := Go.Op.indexAddr 86 (Go.Operand.tmp 5) (Go.Operand.tmp 44), type := 0, pos := "raft.go:172", after := #[{ on := 1, ground := Go.Ground.data }], guard := none } : Oper)) (v := ?v2) rfl (by kernel_rfl) (by kernel_rfl) (by kernel_rfl) (fun _ _ _ h => h) (Or.inl ⟨by rfl, ?y2⟩) hHeld ?r2
  case y2 => (intro w hSw; try dsimp only at hSw); go_simp; try with_reducible rfl
  case r2 =>
  try simp only [Act.put, List.setIfInBounds_toArray, List.set_cons_zero, List.set_cons_succ]
  refine' wpAnyH_take (i := 3) (oi := ({ dst := some 46, op := Go.Op.load 85 (Go.Operand.tmp 45), type := 85, pos := "raft.go:172", after := #[{ on := 2, ground := Go.Ground.data }], guard := none } : Oper)) (v := ?v3) rfl (by kernel_rfl) (by kernel_rfl) (by kernel_rfl) (fun _ _ _ h => h) (Or.inl ⟨by rfl, ?y3⟩) hHeld ?r3
  case y3 => (intro w hSw; try dsimp only at hSw); go_simp; try with_reducible rfl
  case r3 =>
  try simp only [Act.put, List.setIfInBounds_toArray, List.set_cons_zero, List.set_cons_succ]
  refine' wpAnyH_take (i := 4) (oi := ({ dst := some 47, op := Go.Op.move (Go.Operand.tmp 0), type := 22, pos := "raft.go:172", after := #[], guard := none } : Oper)) (v := ?v4) rfl (by kernel_rfl) (by kernel_rfl) (by kernel_rfl) (fun _ _ _ h => h) (Or.inl ⟨by rfl, ?y4⟩) hHeld ?r4
  case y4 => (intro w hSw; try dsimp only at hSw); go_simp; try with_reducible rfl
  case r4 =>
  try simp only [Act.put, List.setIfInBounds_toArray, List.set_cons_zero, List.set_cons_succ]
  refine' wpAnyH_take (i := 5) (oi := ({ dst := some 48, op := Go.Op.load 34 (Go.Operand.tmp 3), type := 34, pos := "raft.go:172", after := #[], guard := none } : Oper)) (v := ?v5) rfl (by kernel_rfl) (by kernel_rfl) (by kernel_rfl) (fun _ _ _ h => h) (Or.inl ⟨by rfl, ?y5⟩) hHeld ?r5
  case y5 => (intro w hSw; try dsimp only at hSw); go_simp; try with_reducible rfl
  case r5 =>
  try simp only [Act.put, List.setIfInBounds_toArray, List.set_cons_zero, List.set_cons_succ]
  refine wpAnyH_ready (rs := [6]) (by kernel_rfl) (by simp) ?_
  refine AllReadyH.cons rfl (fun K hK => ?_) AllReadyH.nil
  go_simp
  refine (cr W4.drew (h4.drewN 1) (hO4.drewN 1)).mono ?_
  rintro e w5 ⟨out, rfl, hD⟩
  have hbx5 := (hD.only.block w.heap.size (by have := hO4.size; have := (Array.getElem?_eq_some_iff.1 hbx4).1; exact this) (by rintro (e | e); exact hgn e; exact absurd (hne _ e) (Nat.lt_irrefl _))).trans hbx4
  have hnb5 := (hD.only.block w2.heap.size ((Array.getElem?_eq_some_iff.1 hnb).1) (by rintro (e | e); omega; exact absurd (hne _ e) (by omega))).trans hnb
  obtain ⟨b0, b1, b2, b3, b4, b5, b6, b7, b8⟩ := nine_cells hbx5
  obtain ⟨t0, t1, t2, t3, t4⟩ := five_cells hnb5
  refine hK.out _ _ ⟨b0, b1, b2, b3, b4, b5, b6, b7, b8, t4⟩ (fun hHeld => ?_)
  clear hK K
  try simp only [Act.put, List.setIfInBounds_toArray, List.set_cons_zero, List.set_cons_succ]
  refine' wpAnyH_take (i := 7) (oi := ({ dst := some 4, op := Go.Op.assign (Go.Operand.tmp 49), type := 30, pos := "raft.go:172", after := #[{ on := 6, ground := Go.Ground.data }, { on := 6, ground := Go.Ground.chain }, { on := 0, ground := Go.Ground.phase }, { on := 1, ground := Go.Ground.phase }, { on := 2, ground := Go.Ground.phase }, { on := 3, ground := Go.Ground.phase }, { on := 4, ground := Go.Ground.phase }, { on := 5, ground := Go.Ground.phase }, { on := 6, ground := Go.Ground.phase }], guard := none } : Oper)) (v := ?v7) rfl (by kernel_rfl) (by kernel_rfl) (by kernel_rfl) (fun _ _ _ h => h) (Or.inl ⟨by rfl, ?y7⟩) hHeld ?r7
  case y7 => (intro w hSw; try dsimp only at hSw); go_simp; try with_reducible rfl
  case r7 =>
  try simp only [Act.put, List.setIfInBounds_toArray, List.set_cons_zero, List.set_cons_succ]
  refine wpAnyH_done (by kernel_rfl) ?_ _
  try simp only [Act.put]
  go_simp
  clear b0 b1 b2 b3 b4 b5 b6 b7 b8 t0 t1 t2 t3 t4 hHeld
  go_wp2_with fail
  go_ret
  exact ⟨out, rfl, hD.below ((hO4.drewN 1).weak (fun _ e => .inl e)) (fun j hj => .inl hj) hlt⟩

set_option maxRecDepth 100000 in
set_option maxHeartbeats 1000000 in
theorem handle_4d (g : Nat) (s : Srv) (v : Value) (h0 : 1 ≤ s.nodes) (src dst tm ix lt cm : Int) (ok : Bool) (a : Option Addr) (n c : Nat) (w : World) (h : Is w g s v) (ch : ∀ W, Below w.heap.size w W → Calls Try.prog 42 #[.pointer (some ⟨g, 0, none⟩), .agg #[.int .u8 4, .int .i64 src, .int .i64 dst, .int .i64 tm, .int .i64 ix, .int .i64 lt, .slice a n c, .int .i64 cm, .bool ok]] W (PlainPost true W))
    (T : Int) (hT : s.term = T) (d0 : decide (T < tm) = false) (S' : Srv) (ms : List Msg)
    (cr : ∀ W, Is W g s v → Only (fun j => j = g) w W → Calls Try.prog 46 #[.pointer (some ⟨g, 0, none⟩), .agg #[.int .u8 4, .int .i64 src, .int .i64 dst, .int .i64 tm, .int .i64 ix, .int .i64 lt, .slice a n c, .int .i64 cm, .bool ok]] W (DidPost g v W S' ms)) :
    Calls Try.prog 10 #[.pointer (some ⟨g, 0, none⟩), .agg #[.int .u8 4, .int .i64 src, .int .i64 dst, .int .i64 tm, .int .i64 ix, .int .i64 lt, .slice a n c, .int .i64 cm, .bool ok]] w (DidPost g v w S' ms) := by
  have hB := (Below.refl _ w).alloc (Nat.le_refl _) (.cells #[.int .u8 4, .int .i64 src, .int .i64 dst, .int .i64 tm, .int .i64 ix, .int .i64 lt, .slice a n c, .int .i64 cm, .bool ok] 34)
  have h1 := h.below hB
  have hbx := heap_alloc_new w (.cells #[.int .u8 4, .int .i64 src, .int .i64 dst, .int .i64 tm, .int .i64 ix, .int .i64 lt, .slice a n c, .int .i64 cm, .bool ok] 34)
  have hlt := h.lt
  have hne : ∀ j, v.ownBlock = some j → j < w.heap.size := fun j hj => h.own_lt hj
  have hbs : w.heap.size < (w.alloc (.cells #[.int .u8 4, .int .i64 src, .int .i64 dst, .int .i64 tm, .int .i64 ix, .int .i64 lt, .slice a n c, .int .i64 cm, .bool ok] 34)).heap.size := by rw [World.size_alloc]; omega
  go_enter Try.func10, Try.ntmps10
  go_wp2_with fail
  refine (made1 g s v true _ h1 (by simp; omega)).mono ?_
  rintro e w1 ⟨rfl, rfl⟩
  go_wp2_with fail
  refine (ch _ hB).mono ?_
  rintro e w2 ⟨rfl, hB2⟩
  have h2 := h1.below hB2
  have hO2 : Only (fun j => j = g) w w2 := (Only.of_below hB).trans (Only.of_below hB2)
  have hbx2 := (hB2.block _ hbs).trans hbx
  have m3 : w2.cell? ⟨w.heap.size, 3, none⟩ = some (.int .i64 tm) := by simp [World.cell?, hbx2]
  obtain ⟨x2, f2⟩ := h2.term
  rw [hT] at x2
  have hbs2 : w.heap.size < w2.heap.size := (Array.getElem?_eq_some_iff.1 hbx2).1
  have hgn : ¬ w.heap.size = g := by omega
  clear hB h1 hbx hbs hB2 ch hT
  go_wp2_with fail
  go_quiet (fail)
  have h3 : Is (w2.drewN nq) g s v := h2.drewN nq
  have hO3 : Only (fun j => j = g) w (w2.drewN nq) := hO2.drewN nq
  have hbx3 : (w2.drewN nq).heap[w.heap.size]? = some (.cells #[.int .u8 4, .int .i64 src, .int .i64 dst, .int .i64 tm, .int .i64 ix, .int .i64 lt, .slice a n c, .int .i64 cm, .bool ok] 34 (0, 0)) := hbx2
  replace hbs2 : w.heap.size < (w2.drewN nq).heap.size := hbs2
  clear h2 hO2 hbx2 m3 x2 f2
  generalize (w2.drewN nq) = w3 at *
  have hs3 : w3.heap.size = w3.heap.size := by simp [World.setCell, World.drewN]
  have hB4 := (Below.refl _ w3).alloc (Nat.le_refl _) (.cells #[.nilFunc, .func (.func 43) #[] #[], .func (.func 44) #[] #[], .func (.func 45) #[] #[], .func (.func 46) #[] #[]] 86)
  have hnb := heap_alloc_new w3 (.cells #[.nilFunc, .func (.func 43) #[] #[], .func (.func 44) #[] #[], .func (.func 45) #[] #[], .func (.func 46) #[] #[]] 86)
  rw [hs3] at hnb
  have h4 := h3.below hB4
  have hO4 := hO3.trans (Only.of_below (S := fun j => j = g) hB4)
  have hbx4 := (hB4.block w.heap.size (by rw [hs3]; exact hbs2)).trans hbx3
  have HNB := Lib.hid hnb
  have HBX := Lib.hid hbx4
  clear h3 hO3 hbx3 hB4 hs3 hnb hbx4
  go_wp2_with fail
  have hnb := HNB.out
  have hbx4 := HBX.out
  clear HNB HBX
  generalize (w3.alloc (.cells #[.nilFunc, .func (.func 43) #[] #[], .func (.func 44) #[] #[], .func (.func 45) #[] #[], .func (.func 46) #[] #[]] 86)) = W4 at *
  obtain ⟨b0, b1, b2, b3, b4, b5, b6, b7, b8⟩ := nine_cells hbx4
  obtain ⟨t0, t1, t2, t3, t4⟩ := five_cells hnb
  refine wp_region_held_drew (S := (fun w' => w'.cell? ⟨w.heap.size, 0, none⟩ = some (.int .u8 4) ∧ w'.cell? ⟨w.heap.size, 1, none⟩ = some (.int .i64 src) ∧ w'.cell? ⟨w.heap.size, 2, none⟩ = some (.int .i64 dst) ∧ w'.cell? ⟨w.heap.size, 3, none⟩ = some (.int .i64 tm) ∧ w'.cell? ⟨w.heap.size, 4, none⟩ = some (.int .i64 ix) ∧ w'.cell? ⟨w.heap.size, 5, none⟩ = some (.int .i64 lt) ∧ w'.cell? ⟨w.heap.size, 6, none⟩ = some (.slice a n c) ∧ w'.cell? ⟨w.heap.size, 7, none⟩ = some (.int .i64 cm) ∧ w'.cell? ⟨w.heap.size, 8, none⟩ = some (.bool ok) ∧ w'.cell? ⟨w3.heap.size, 4, none⟩ = some (.func (.func 46) #[] #[]))) (by kernel_rfl) ⟨b0, b1, b2, b3, b4, b5, b6, b7, b8, t4⟩ (fun hHeld => ?_)
  refine' wpAnyH_take (i := 0) (oi := ({ dst := some 43, op := Go.Op.fieldAddr 34 (Go.Operand.tmp 3) 0, type := 0, pos := "raft.go:172", after := #[], guard := none } : Oper)) (v := ?v0) rfl (by kernel_rfl) (by kernel_rfl) (by kernel_rfl) (fun _ _ _ h => h) (Or.inl ⟨by rfl, ?y0⟩) hHeld ?r0
  case y0 => (intro w hSw; try dsimp only at hSw); go_simp; try with_reducible rfl
  case r0 =>
  try simp only [Act.put, List.setIfInBounds_toArray, List.set_cons_zero, List.set_cons_succ]
  refine' wpAnyH_take (i := 1) (oi := ({ dst := some 44, op := Go.Op.load 5 (Go.Operand.tmp 43), type := 5, pos := "raft.go:172", after := #[{ on := 0, ground := Go.Ground.data }], guard := none } : Oper)) (v := ?v1) rfl (by kernel_rfl) (by kernel_rfl) (by kernel_rfl) (fun _ _ _ h => h) (Or.inl ⟨by rfl, ?y1⟩) hHeld ?r1
  case y1 => (intro w hSw; try dsimp only at hSw); go_simp; try with_reducible rfl
  case r1 =>
  try simp only [Act.put, List.setIfInBounds_toArray, List.set_cons_zero, List.set_cons_succ]
  refine' wpAnyH_take (i := 2) (oi := ({ dst := some 45, op := Go.Op.indexAddr 86 (Go.Operand.tmp 5) (Go.Operand.tmp 44), type := 0, pos := "raft.go:172", after := #[{ on := 1, ground := Go.Ground.data }], guard := none } : Oper)) (v := ?v2) rfl (by kernel_rfl) (by kernel_rfl) (by kernel_rfl) (fun _ _ _ h => h) (Or.inl ⟨by rfl, ?y2⟩) hHeld ?r2
  case y2 => (intro w hSw; try dsimp only at hSw); go_simp; try with_reducible rfl
  case r2 =>
  try simp only [Act.put, List.setIfInBounds_toArray, List.set_cons_zero, List.set_cons_succ]
  refine' wpAnyH_take (i := 3) (oi := ({ dst := some 46, op := Go.Op.load 85 (Go.Operand.tmp 45), type := 85, pos := "raft.go:172", after := #[{ on := 2, ground := Go.Ground.data }], guard := none } : Oper)) (v := ?v3) rfl (by kernel_rfl) (by kernel_rfl) (by kernel_rfl) (fun _ _ _ h => h) (Or.inl ⟨by rfl, ?y3⟩) hHeld ?r3
  case y3 => (intro w hSw; try dsimp only at hSw); go_simp; try with_reducible rfl
  case r3 =>
  try simp only [Act.put, List.setIfInBounds_toArray, List.set_cons_zero, List.set_cons_succ]
  refine' wpAnyH_take (i := 4) (oi := ({ dst := some 47, op := Go.Op.move (Go.Operand.tmp 0), type := 22, pos := "raft.go:172", after := #[], guard := none } : Oper)) (v := ?v4) rfl (by kernel_rfl) (by kernel_rfl) (by kernel_rfl) (fun _ _ _ h => h) (Or.inl ⟨by rfl, ?y4⟩) hHeld ?r4
  case y4 => (intro w hSw; try dsimp only at hSw); go_simp; try with_reducible rfl
  case r4 =>
  try simp only [Act.put, List.setIfInBounds_toArray, List.set_cons_zero, List.set_cons_succ]
  refine' wpAnyH_take (i := 5) (oi := ({ dst := some 48, op := Go.Op.load 34 (Go.Operand.tmp 3), type := 34, pos := "raft.go:172", after := #[], guard := none } : Oper)) (v := ?v5) rfl (by kernel_rfl) (by kernel_rfl) (by kernel_rfl) (fun _ _ _ h => h) (Or.inl ⟨by rfl, ?y5⟩) hHeld ?r5
  case y5 => (intro w hSw; try dsimp only at hSw); go_simp; try with_reducible rfl
  case r5 =>
  try simp only [Act.put, List.setIfInBounds_toArray, List.set_cons_zero, List.set_cons_succ]
  refine wpAnyH_ready (rs := [6]) (by kernel_rfl) (by simp) ?_
  refine AllReadyH.cons rfl (fun K hK => ?_) AllReadyH.nil
  go_simp
  refine (cr W4.drew (h4.drewN 1) (hO4.drewN 1)).mono ?_
  rintro e w5 ⟨out, rfl, hD⟩
  have hbx5 := (hD.only.block w.heap.size (by have := hO4.size; have := (Array.getElem?_eq_some_iff.1 hbx4).1; exact this) (by rintro (e | e); exact hgn e; exact absurd (hne _ e) (Nat.lt_irrefl _))).trans hbx4
  have hnb5 := (hD.only.block w3.heap.size ((Array.getElem?_eq_some_iff.1 hnb).1) (by rintro (e | e); omega; exact absurd (hne _ e) (by omega))).trans hnb
  obtain ⟨b0, b1, b2, b3, b4, b5, b6, b7, b8⟩ := nine_cells hbx5
  obtain ⟨t0, t1, t2, t3, t4⟩ := five_cells hnb5
  refine hK.out _ _ ⟨b0, b1, b2, b3, b4, b5, b6, b7, b8, t4⟩ (fun hHeld => ?_)
  clear hK K
  try simp only [Act.put, List.setIfInBounds_toArray, List.set_cons_zero, List.set_cons_succ]
  refine' wpAnyH_take (i := 7) (oi := ({ dst := some 4, op := Go.Op.assign (Go.Operand.tmp 49), type := 30, pos := "raft.go:172", after := #[{ on := 6, ground := Go.Ground.data }, { on := 6, ground := Go.Ground.chain }, { on := 0, ground := Go.Ground.phase }, { on := 1, ground := Go.Ground.phase }, { on := 2, ground := Go.Ground.phase }, { on := 3, ground := Go.Ground.phase }, { on := 4, ground := Go.Ground.phase }, { on := 5, ground := Go.Ground.phase }, { on := 6, ground := Go.Ground.phase }], guard := none } : Oper)) (v := ?v7) rfl (by kernel_rfl) (by kernel_rfl) (by kernel_rfl) (fun _ _ _ h => h) (Or.inl ⟨by rfl, ?y7⟩) hHeld ?r7
  case y7 => (intro w hSw; try dsimp only at hSw); go_simp; try with_reducible rfl
  case r7 =>
  try simp only [Act.put, List.setIfInBounds_toArray, List.set_cons_zero, List.set_cons_succ]
  refine wpAnyH_done (by kernel_rfl) ?_ _
  try simp only [Act.put]
  go_simp
  clear b0 b1 b2 b3 b4 b5 b6 b7 b8 t0 t1 t2 t3 t4 hHeld
  go_wp2_with fail
  go_ret
  exact ⟨out, rfl, hD.below ((hO4.drewN 1).weak (fun _ e => .inl e)) (fun j hj => .inl hj) hlt⟩


theorem react_is (g : Nat) (s : Srv) (v : Value) (m : Msg) (a : Option Addr) (c : Nat) (hk : Ok s) (hm : Heard s m) (w : World) (hd : Hd w a m.entries) (hag : ∀ ad, a = some ad → ad.block ≠ g) (hnc : m.entries.length ≤ c) (W : World) (hI : Is W g s v) (hO : Only (fun j => j = g) w W) (f : Nat)
    (hf : m.kind = 1 ∧ f = 43 ∨ m.kind = 2 ∧ f = 44 ∨ m.kind = 3 ∧ f = 45 ∨ m.kind = 4 ∧ f = 46) :
    Calls Try.prog f #[.pointer (some ⟨g, 0, none⟩), .agg (mc m (.slice a m.entries.length c))] W (DidPost g v W (reactS s m) (reactM s m)) := by
  have F := hk.fit
  have hn := hk.nodes
  have hl := hk.len
  have h1 := hm.src
  rcases hf with ⟨e, rfl⟩ | ⟨e, rfl⟩ | ⟨e, rfl⟩ | ⟨e, rfl⟩
  · rw [show reactS s m = askedS s m by simp [reactS, e], show reactM s m = askedM s m by simp [reactM, e]]
    exact asked_is g s v m a _ c (by omega) W hI
  · rw [show reactS s m = votedS s m by simp [reactS, e], show reactM s m = votedM s m by simp [reactM, e]]
    exact voted_is g s v m a _ c F hk.voters ⟨h1.1, by omega⟩ W hI
  · rw [show reactS s m = appS s m by simp [reactS, e], show reactM s m = appM s m by simp [reactM, e]]
    exact app_is g s v m a c hk hm.index hm.commit hm.room W hI (hd.only hO hag) hag hnc
  · rw [show reactS s m = toldS s m by simp [reactS, e], show reactM s m = toldM s m by simp [reactM, e]]
    exact told_is g s v m a _ c hk h1 hm.index W hI
theorem Heard.raise {s : Srv} {m : Msg} (h : Heard s m) : Heard (raise s m) m := by
  obtain ⟨a, b, _, _⟩ := raise_same s m
  exact ⟨by rw [a]; exact h.dst, by rw [a, b]; exact h.src, h.term, h.index, h.logTerm, h.commit, h.room, h.plain, h.rise⟩

theorem handle_is (g : Nat) (s : Srv) (v : Value) (m : Msg) (a : Option Addr) (c : Nat) (hk : Ok s) (hl : m.entries.length ≤ 100000) (w : World) (h : Is w g s v) (hd : Hd w a m.entries) (hag : ∀ ad, a = some ad → ad.block ≠ g) (hnc : m.entries.length ≤ c) :
    Calls Try.prog 10 #[.pointer (some ⟨g, 0, none⟩), .agg (mc m (.slice a m.entries.length c))] w (DidPost g v w (handleS s m) (handleM s m)) := by
  have hn := hk.nodes.1
  have ch : ∀ W, Below w.heap.size w W → Calls Try.prog 42 #[.pointer (some ⟨g, 0, none⟩), .agg (mc m (.slice a m.entries.length c))] W (PlainPost (hearsB s m) W) := fun W hB => hears_is g s v m a c W (h.below hB) hl (hd.below hB)
  unfold handleS handleM
  cases hH : hearsB s m with
  | false =>
    rw [hH] at ch
    simp only [Bool.false_eq_true, if_false]
    exact handle_deaf m.kind g s v hn m.src m.dst m.term m.index m.logTerm m.commit m.ok a _ c w h ch
  | true =>
    rw [hH] at ch
    simp only [if_true]
    have hm := heard_of hH
    have hk2 := hk.raise hm
    have hm2 := hm.raise
    have cr := fun W (hI : Is W g (raise s m) v) hO f hf => react_is g (raise s m) v m a c hk2 hm2 w hd hag hnc W hI hO f hf
    generalize hS : reactS (raise s m) m = S' at *
    generalize hM : reactM (raise s m) m = M' at *
    clear hS hM
    have kk := plain_kind hm.plain
    obtain ⟨k, src, dst, tm, ix, lt, es, cm, ok⟩ := m
    unfold raise at cr
    dsimp only at cr kk
    by_cases hu : s.term < tm
    · simp only [if_pos hu] at cr
      rcases kk with rfl | rfl | rfl | rfl
      · exact handle_1u g s v hn src dst tm ix lt cm ok a _ c w h ch _ rfl (by simp [hu]) _ _ (fun W hI hO => cr W hI hO 43 (by simp))
      · exact handle_2u g s v hn src dst tm ix lt cm ok a _ c w h ch _ rfl (by simp [hu]) _ _ (fun W hI hO => cr W hI hO 44 (by simp))
      · exact handle_3u g s v hn src dst tm ix lt cm ok a _ c w h ch _ rfl (by simp [hu]) _ _ (fun W hI hO => cr W hI hO 45 (by simp))
      · exact handle_4u g s v hn src dst tm ix lt cm ok a _ c w h ch _ rfl (by simp [hu]) _ _ (fun W hI hO => cr W hI hO 46 (by simp))
    · simp only [if_neg hu] at cr
      rcases kk with rfl | rfl | rfl | rfl
      · exact handle_1d g s v hn src dst tm ix lt cm ok a _ c w h ch _ rfl (by simp [hu]) _ _ (fun W hI hO => cr W hI hO 43 (by simp))
      · exact handle_2d g s v hn src dst tm ix lt cm ok a _ c w h ch _ rfl (by simp [hu]) _ _ (fun W hI hO => cr W hI hO 44 (by simp))
      · exact handle_3d g s v hn src dst tm ix lt cm ok a _ c w h ch _ rfl (by simp [hu]) _ _ (fun W hI hO => cr W hI hO 45 (by simp))
      · exact handle_4d g s v hn src dst tm ix lt cm ok a _ c w h ch _ rfl (by simp [hu]) _ _ (fun W hI hO => cr W hI hO 46 (by simp))
end Rf
end Go.Proofs.Ytdacdkidjgbdoaa
