/- The contract of raft's appended, first part: what is not taken. -/
import Derived.Test.YtdacdkidjgbdoaaTi
set_option linter.unusedVariables false
set_option linter.unusedSimpArgs false
namespace Go.Proofs.Ytdacdkidjgbdoaa
open Go Go.RowKit
namespace Rf
attribute [local go_sem ↓] Go.wp_at_zero Go.wp_at_succ

/-- a server that hears a leader -/
def follow (s : Srv) (to : Int) : Srv := { s with role := 0, leader := to }

set_option maxRecDepth 100000 in
set_option maxHeartbeats 1000000 in
theorem app_a (g : Nat) (s : Srv) (v : Value) (R L ix : Nat) (T : Int) (hR : s.role = R) (hT : s.term = T) (hL : s.log.length = L) (hL2 : L ≤ 4096) (hix : ix ≤ 4096) (k : Nat) (src dst tm lt cm : Int) (ok : Bool) (a : Option Addr) (n c : Nat) (w : World) (h : Is w g s v) (d0 : decide (tm < T) = true) :
    Calls Try.prog 45 #[.pointer (some ⟨g, 0, none⟩), .agg #[.int .u8 k, .int .i64 src, .int .i64 dst, .int .i64 tm, .int .i64 (ix : Nat), .int .i64 lt, .slice a n c, .int .i64 cm, .bool ok]] w (DidPost g v w s [answerTo s src 4 0 false]) := by
  have hB := (Below.refl _ w).alloc (Nat.le_refl _) (.cells #[.int .u8 k, .int .i64 src, .int .i64 dst, .int .i64 tm, .int .i64 (ix : Nat), .int .i64 lt, .slice a n c, .int .i64 cm, .bool ok] 34)
  have h1 := h.below hB
  have hbx := heap_alloc_new w (.cells #[.int .u8 k, .int .i64 src, .int .i64 dst, .int .i64 tm, .int .i64 (ix : Nat), .int .i64 lt, .slice a n c, .int .i64 cm, .bool ok] 34)
  obtain ⟨x2, f2⟩ := h.term
  obtain ⟨x5, f5⟩ := h.role
  rw [hT] at x2
  rw [hR] at x5
  have hlt := h.lt
  clear hT hR hL
  go_enter Try.func45, Try.ntmps45
  go_wp2_with fail
  go_quiet (fail)
  go_wp2_with fail
  refine (answer_is g s v ⟨k, src, dst, tm, ix, lt, [], cm, ok⟩ a n c 4 0 false _ (h1.drewN _)).mono ?_
  rintro e w2 ⟨out, rfl, hO, hB2⟩
  go_wp2_with fail
  go_ret
  exact ⟨out, rfl, asked_end (h1.drewN _) ((Only.of_below hB).drewN _) hlt hO hB2⟩

set_option maxRecDepth 100000 in
set_option maxHeartbeats 1000000 in
theorem app_b (g : Nat) (s : Srv) (v : Value) (R L ix : Nat) (T : Int) (hR : s.role = R) (hT : s.term = T) (hL : s.log.length = L) (hL2 : L ≤ 4096) (hix : ix ≤ 4096) (k : Nat) (src dst tm lt cm : Int) (ok : Bool) (a : Option Addr) (n c : Nat) (w : World) (h : Is w g s v) (d0 : decide (tm < T) = false) (d1 : ((R : Int) == 2) = true) :
    Calls Try.prog 45 #[.pointer (some ⟨g, 0, none⟩), .agg #[.int .u8 k, .int .i64 src, .int .i64 dst, .int .i64 tm, .int .i64 (ix : Nat), .int .i64 lt, .slice a n c, .int .i64 cm, .bool ok]] w (DidPost g v w s []) := by
  have hB := (Below.refl _ w).alloc (Nat.le_refl _) (.cells #[.int .u8 k, .int .i64 src, .int .i64 dst, .int .i64 tm, .int .i64 (ix : Nat), .int .i64 lt, .slice a n c, .int .i64 cm, .bool ok] 34)
  have h1 := h.below hB
  have hbx := heap_alloc_new w (.cells #[.int .u8 k, .int .i64 src, .int .i64 dst, .int .i64 tm, .int .i64 (ix : Nat), .int .i64 lt, .slice a n c, .int .i64 cm, .bool ok] 34)
  obtain ⟨x2, f2⟩ := h.term
  obtain ⟨x5, f5⟩ := h.role
  rw [hT] at x2
  rw [hR] at x5
  have hlt := h.lt
  clear hT hR hL
  go_enter Try.func45, Try.ntmps45
  go_wp2_with fail
  go_quiet (fail)
  go_wp2_with fail
  go_ret
  exact ⟨_, rfl, Did.none (h1.drewN _) ((Only.of_below hB).drewN _) hlt⟩

theorem keepM {W5 w' : World} {g : Nat} {s : Srv} {v : Value} {c0 c1 c2 c3 c4 c5 c6 c7 c8 : Value} {fr : Nat × Nat} {t : TypeId} {b : Nat} (h : Is W5 g s v) (hb : W5.heap[b]? = some (.cells #[c0, c1, c2, c3, c4, c5, c6, c7, c8] t fr)) (hB : Below W5.heap.size W5 w') :
    (Is w' g s v ∧ Below W5.heap.size W5 w') ∧ w'.cell? ⟨b, 0, none⟩ = some c0 ∧ w'.cell? ⟨b, 1, none⟩ = some c1 ∧ w'.cell? ⟨b, 2, none⟩ = some c2 ∧ w'.cell? ⟨b, 3, none⟩ = some c3 ∧ w'.cell? ⟨b, 4, none⟩ = some c4 ∧ w'.cell? ⟨b, 5, none⟩ = some c5 ∧ w'.cell? ⟨b, 6, none⟩ = some c6 ∧ w'.cell? ⟨b, 7, none⟩ = some c7 ∧ w'.cell? ⟨b, 8, none⟩ = some c8 := by
  refine ⟨⟨h.below hB, hB⟩, ?_⟩
  have h2 := (hB.block b (Array.getElem?_eq_some_iff.1 hb).1).trans hb
  simp only [World.cell?, h2]
  exact ⟨rfl, rfl, rfl, rfl, rfl, rfl, rfl, rfl, rfl⟩

set_option maxRecDepth 100000 in
set_option maxHeartbeats 1000000 in
theorem app_ca (g : Nat) (s : Srv) (v : Value) (R L ix : Nat) (T : Int) (hR : s.role = R) (hT : s.term = T) (hL : s.log.length = L) (hL2 : L ≤ 4096) (hix : ix ≤ 4096) (k : Nat) (src dst tm lt cm : Int) (ok : Bool) (a : Option Addr) (n c : Nat) (w : World) (h : Is w g s v) (d0 : decide (tm < T) = false) (d1 : ((R : Int) == 2) = false) (p0 : L < ix) :
    Calls Try.prog 45 #[.pointer (some ⟨g, 0, none⟩), .agg #[.int .u8 k, .int .i64 src, .int .i64 dst, .int .i64 tm, .int .i64 (ix : Nat), .int .i64 lt, .slice a n c, .int .i64 cm, .bool ok]] w (DidPost g v w (follow s src) [answerTo (follow s src) src 4 (L : Nat) false]) := by
  have hB := (Below.refl _ w).alloc (Nat.le_refl _) (.cells #[.int .u8 k, .int .i64 src, .int .i64 dst, .int .i64 tm, .int .i64 (ix : Nat), .int .i64 lt, .slice a n c, .int .i64 cm, .bool ok] 34)
  have h1 := h.below hB
  have hbx := heap_alloc_new w (.cells #[.int .u8 k, .int .i64 src, .int .i64 dst, .int .i64 tm, .int .i64 (ix : Nat), .int .i64 lt, .slice a n c, .int .i64 cm, .bool ok] 34)
  obtain ⟨x2, f2⟩ := h.term
  obtain ⟨x5, f5⟩ := h.role
  rw [hT] at x2
  rw [hR] at x5
  have hlt := h.lt
  have hLs : (follow s src).log.length = L := hL
  have cl := fun W (hW : Is W g (follow s src) v) => last_is g (follow s src) v W hW
  have ct := fun W (hW : Is W g (follow s src) v) (hn : ix ≤ (follow s src).log.length) => term_is g (follow s src) v ix hn (by rw [hLs]; omega) W hW
  rw [hLs] at cl ct
  clear hT hR
  go_enter Try.func45, Try.ntmps45
  go_wp2_with fail
  go_quiet (fail)
  go_wp2_with fail
  have hbx2 := hbx
  generalize hW : (w.alloc (.cells #[.int .u8 k, .int .i64 src, .int .i64 dst, .int .i64 tm, .int .i64 (ix : Nat), .int .i64 lt, .slice a n c, .int .i64 cm, .bool ok] 34)) = W0 at *
  have h2 := h1.drewN nq
  have hO2 : Only (fun k => k = g) w (W0.drewN nq) := (Only.of_below hB).drewN nq
  replace hbx2 : (W0.drewN nq).heap[w.heap.size]? = _ := hbx2
  have hblt : w.heap.size < (W0.drewN nq).heap.size := (Array.getElem?_eq_some_iff.1 hbx2).1
  generalize (W0.drewN nq) = W at *
  clear hW hB h1 hbx x2 f2 x5 f5
  have y1 : W.cell? ⟨w.heap.size, 1, none⟩ = some (.int .i64 src) := by simp [World.cell?, hbx2]
  obtain ⟨y5, f5⟩ := h2.role
  obtain ⟨y6, f6⟩ := h2.leader
  have hgn : ¬ g = w.heap.size := by omega
  have h3 := (h2.set (s' := { s with role := 0 }) rfl 5 (.int .u8 0) rfl).set (s' := follow s src) rfl 6 (.int .i64 src) rfl
  have hO3 := Only.set (S := fun k => k = g) (Only.set (S := fun k => k = g) hO2 (p := ⟨g, 5, none⟩) (.inl rfl) (.int .u8 0)) (p := ⟨g, 6, none⟩) (.inl rfl) (.int .i64 src)
  have hbx3 := (Below.heap_setCell ((W.setCell ⟨g, 5, none⟩ (.int .u8 0))) ⟨g, 6, none⟩ (.int .i64 src) w.heap.size (Ne.symm hgn)).trans ((Below.heap_setCell W ⟨g, 5, none⟩ (.int .u8 0) w.heap.size (Ne.symm hgn)).trans hbx2)
  go_region
  have h4 : Is (((W.setCell ⟨g, 5, none⟩ (.int .u8 0)).setCell ⟨g, 6, none⟩ (.int .i64 src)).drew) g (follow s src) v := h3.drewN 1
  have hO4 : Only (fun k => k = g) w (((W.setCell ⟨g, 5, none⟩ (.int .u8 0)).setCell ⟨g, 6, none⟩ (.int .i64 src)).drew) := hO3.drewN 1
  replace hbx3 : (((W.setCell ⟨g, 5, none⟩ (.int .u8 0)).setCell ⟨g, 6, none⟩ (.int .i64 src)).drew).heap[w.heap.size]? = _ := hbx3
  generalize hW4 : (((W.setCell ⟨g, 5, none⟩ (.int .u8 0)).setCell ⟨g, 6, none⟩ (.int .i64 src)).drew) = W4 at *
  clear hW4 h2 h3 hO2 hO3 hbx2 y1 y5 f5 y6 f6 hblt
  have m4 : W4.cell? ⟨w.heap.size, 4, none⟩ = some (.int .i64 (ix : Nat)) := by simp [World.cell?, hbx3]
  have m5 : W4.cell? ⟨w.heap.size, 5, none⟩ = some (.int .i64 lt) := by simp [World.cell?, hbx3]
  go_wp2_with fail
  have e0 : decide (L < ix) = true := by simp; omega
  have hle : True := trivial
  clear hL hLs
  go_quiet ((first | (go_at_call 40; exact Calls.quiet_of_same ((cl _ (by first | exact h4.drewN _ | exact h4)).mono (fun e w' he => ⟨he.1, he.2.symm⟩))) | (go_at_call 41; exact Calls.quiet_of_same ((ct _ (by first | exact h4.drewN _ | exact h4) hle).mono (fun e w' he => ⟨he.1, he.2.symm⟩)))))
  go_wp2_with fail
  have h5 := h4.drewN nq
  have hO5 := hO4.drewN nq
  replace hbx3 : (W4.drewN nq).heap[w.heap.size]? = _ := hbx3
  generalize (W4.drewN nq) = W5 at *
  clear h4 hO4 m4 m5
  have hwr : IntKind.i64.wrap ((ix : Int) - 1) = (ix : Int) - 1 := by rw [IntKind.wrap_i64] <;> omega
  have q0 : ¬ ((ix : Int) - 1 < L) := by omega
  have hblt : w.heap.size < W5.heap.size := (Array.getElem?_eq_some_iff.1 hbx3).1
  refine wp_region_held_drew (S := (fun w' => (Is w' g (follow s src) v ∧ Below W5.heap.size W5 w') ∧ w'.cell? ⟨w.heap.size, 0, none⟩ = some (.int .u8 k) ∧ w'.cell? ⟨w.heap.size, 1, none⟩ = some (.int .i64 src) ∧ w'.cell? ⟨w.heap.size, 2, none⟩ = some (.int .i64 dst) ∧ w'.cell? ⟨w.heap.size, 3, none⟩ = some (.int .i64 tm) ∧ w'.cell? ⟨w.heap.size, 4, none⟩ = some (.int .i64 (ix : Nat)) ∧ w'.cell? ⟨w.heap.size, 5, none⟩ = some (.int .i64 lt) ∧ w'.cell? ⟨w.heap.size, 6, none⟩ = some (.slice a n c) ∧ w'.cell? ⟨w.heap.size, 7, none⟩ = some (.int .i64 cm) ∧ w'.cell? ⟨w.heap.size, 8, none⟩ = some (.bool ok))) (by kernel_rfl) (keepM h5 hbx3 (Below.refl _ W5).drew) (fun hHeld => ?_)
  refine' wpAnyH_take (i := 0) (oi := ({ dst := some 48, op := Go.Op.move (Go.Operand.tmp 0), type := 22, pos := "raft.go:224", after := #[], guard := none } : Oper)) (v := ?v0) rfl (by kernel_rfl) (by kernel_rfl) (by kernel_rfl) (fun _ _ _ h => h) (Or.inl ⟨by rfl, ?y0⟩) hHeld ?r0
  case y0 => (intro w hSw; try dsimp only at hSw); go_simp; try with_reducible rfl
  case r0 =>
  try simp only [Act.put, List.setIfInBounds_toArray, List.set_cons_zero, List.set_cons_succ]
  refine' wpAnyH_take (i := 1) (oi := ({ dst := some 49, op := Go.Op.load 34 (Go.Operand.tmp 3), type := 34, pos := "raft.go:224", after := #[], guard := none } : Oper)) (v := ?v1) rfl (by kernel_rfl) (by kernel_rfl) (by kernel_rfl) (fun _ _ _ h => h) (Or.inl ⟨by rfl, ?y1⟩) hHeld ?r1
  case y1 => (intro w hSw; try dsimp only at hSw); go_simp; try with_reducible rfl
  case r1 =>
  try simp only [Act.put, List.setIfInBounds_toArray, List.set_cons_zero, List.set_cons_succ]
  refine' wpAnyH_take (i := 2) (oi := ({ dst := some 50, op := Go.Op.move (Go.Operand.tmp 0), type := 22, pos := "raft.go:224", after := #[], guard := none } : Oper)) (v := ?v2) rfl (by kernel_rfl) (by kernel_rfl) (by kernel_rfl) (fun _ _ _ h => h) (Or.inl ⟨by rfl, ?y2⟩) hHeld ?r2
  case y2 => (intro w hSw; try dsimp only at hSw); go_simp; try with_reducible rfl
  case r2 =>
  try simp only [Act.put, List.setIfInBounds_toArray, List.set_cons_zero, List.set_cons_succ]
  refine' wpAnyH_take (i := 4) (oi := ({ dst := some 52, op := Go.Op.fieldAddr 34 (Go.Operand.tmp 3) 4, type := 0, pos := "raft.go:224", after := #[], guard := none } : Oper)) (v := ?v4) rfl (by kernel_rfl) (by kernel_rfl) (by kernel_rfl) (fun _ _ _ h => h) (Or.inl ⟨by rfl, ?y4⟩) hHeld ?r4
  case y4 => (intro w hSw; try dsimp only at hSw); go_simp; try with_reducible rfl
  case r4 =>
  try simp only [Act.put, List.setIfInBounds_toArray, List.set_cons_zero, List.set_cons_succ]
  refine' wpAnyH_take (i := 5) (oi := ({ dst := some 53, op := Go.Op.load 3 (Go.Operand.tmp 52), type := 3, pos := "raft.go:224", after := #[{ on := 4, ground := Go.Ground.data }], guard := none } : Oper)) (v := ?v5) rfl (by kernel_rfl) (by kernel_rfl) (by kernel_rfl) (fun _ _ _ h => h) (Or.inl ⟨by rfl, ?y5⟩) hHeld ?r5
  case y5 => (intro w hSw; try dsimp only at hSw); go_simp; try with_reducible rfl
  case r5 =>
  try simp only [Act.put, List.setIfInBounds_toArray, List.set_cons_zero, List.set_cons_succ]
  refine' wpAnyH_take (i := 6) (oi := ({ dst := some 54, op := Go.Op.binOp Go.BinOp.sub 3 (Go.Operand.tmp 53) (Go.Operand.const (Go.Value.int Go.IntKind.i64 1)) 3, type := 3, pos := "raft.go:224", after := #[{ on := 5, ground := Go.Ground.data }], guard := none } : Oper)) (v := ?v6) rfl (by kernel_rfl) (by kernel_rfl) (by kernel_rfl) (fun _ _ _ h => h) (Or.inl ⟨by rfl, ?y6⟩) hHeld ?r6
  case y6 => (intro w hSw; try dsimp only at hSw); go_simp; try with_reducible rfl
  case r6 =>
  try simp only [Act.put, List.setIfInBounds_toArray, List.set_cons_zero, List.set_cons_succ]
  refine wpAnyH_ready (rs := [3]) (by kernel_rfl) (by simp) ?_
  refine AllReadyH.cons rfl (fun K hK => ?_) AllReadyH.nil
  go_simp
  refine (cl _ hHeld.1.1).mono ?_
  rintro e w' ⟨rfl, rfl⟩
  refine hK.out _ _ hHeld (fun _ => ?_)
  clear hK K
  try simp only [Act.put, List.setIfInBounds_toArray, List.set_cons_zero, List.set_cons_succ]
  refine' wpAnyH_take (i := 7) (oi := ({ dst := some 55, op := Go.Op.call { callee := Go.Callee.builtin Go.Builtin.min, args := #[Go.Operand.tmp 51, Go.Operand.tmp 54], argTypes := #[3, 3] }, type := 3, pos := "raft.go:224", after := #[{ on := 3, ground := Go.Ground.data }, { on := 6, ground := Go.Ground.data }], guard := none } : Oper)) (v := ?v7) rfl (by kernel_rfl) (by kernel_rfl) (by kernel_rfl) (fun _ _ _ h => h) (Or.inl ⟨by rfl, ?y7⟩) hHeld ?r7
  case y7 => (intro w hSw; try dsimp only at hSw); go_simp; try with_reducible rfl
  case r7 =>
  try simp only [Act.put, List.setIfInBounds_toArray, List.set_cons_zero, List.set_cons_succ]
  refine wpAnyH_ready (rs := [8]) (by kernel_rfl) (by simp) ?_
  refine AllReadyH.cons rfl (fun K hK => ?_) AllReadyH.nil
  go_simp
  refine (answer_is g (follow s src) v ⟨k, src, dst, tm, ix, lt, [], cm, ok⟩ a n c 4 (L : Nat) false _ hHeld.1.1).mono ?_
  rintro e w6 ⟨out, rfl, hO6, hB6⟩
  have hB7 : Below W5.heap.size W5 w6 := ((Below.refl _ W5).drew).trans hB6
  refine hK.out _ _ (keepM h5 hbx3 hB7) (fun hHeld => ?_)
  clear hK K
  try simp only [Act.put, List.setIfInBounds_toArray, List.set_cons_zero, List.set_cons_succ]
  refine' wpAnyH_take (i := 9) (oi := ({ dst := some 4, op := Go.Op.assign (Go.Operand.tmp 56), type := 30, pos := "raft.go:224", after := #[{ on := 8, ground := Go.Ground.data }, { on := 8, ground := Go.Ground.chain }, { on := 0, ground := Go.Ground.phase }, { on := 1, ground := Go.Ground.phase }, { on := 2, ground := Go.Ground.phase }, { on := 3, ground := Go.Ground.phase }, { on := 4, ground := Go.Ground.phase }, { on := 5, ground := Go.Ground.phase }, { on := 6, ground := Go.Ground.phase }, { on := 7, ground := Go.Ground.phase }, { on := 8, ground := Go.Ground.phase }], guard := none } : Oper)) (v := ?v9) rfl (by kernel_rfl) (by kernel_rfl) (by kernel_rfl) (fun _ _ _ h => h) (Or.inl ⟨by rfl, ?y9⟩) hHeld ?r9
  case y9 => (intro w hSw; try dsimp only at hSw); go_simp; try with_reducible rfl
  case r9 =>
  try simp only [Act.put, List.setIfInBounds_toArray, List.set_cons_zero, List.set_cons_succ]
  refine wpAnyH_done (by kernel_rfl) ?_ _
  try simp only [Act.put]
  go_simp
  go_wp2_with fail
  go_ret
  exact ⟨out, rfl, asked_end (h5.drewN 1) (hO5.drewN 1) hlt hO6 hB6⟩

set_option maxRecDepth 100000 in
set_option maxHeartbeats 1000000 in
theorem app_cb (g : Nat) (s : Srv) (v : Value) (R L ix : Nat) (T : Int) (hR : s.role = R) (hT : s.term = T) (hL : s.log.length = L) (hL2 : L ≤ 4096) (hix : ix ≤ 4096) (k : Nat) (src dst tm lt cm : Int) (ok : Bool) (a : Option Addr) (n c : Nat) (w : World) (h : Is w g s v) (d0 : decide (tm < T) = false) (d1 : ((R : Int) == 2) = false) (p0 : ix ≤ L) (hne : tat s.log ix ≠ lt) :
    Calls Try.prog 45 #[.pointer (some ⟨g, 0, none⟩), .agg #[.int .u8 k, .int .i64 src, .int .i64 dst, .int .i64 tm, .int .i64 (ix : Nat), .int .i64 lt, .slice a n c, .int .i64 cm, .bool ok]] w (DidPost g v w (follow s src) [answerTo (follow s src) src 4 ((ix : Int) - 1) false]) := by
  have hB := (Below.refl _ w).alloc (Nat.le_refl _) (.cells #[.int .u8 k, .int .i64 src, .int .i64 dst, .int .i64 tm, .int .i64 (ix : Nat), .int .i64 lt, .slice a n c, .int .i64 cm, .bool ok] 34)
  have h1 := h.below hB
  have hbx := heap_alloc_new w (.cells #[.int .u8 k, .int .i64 src, .int .i64 dst, .int .i64 tm, .int .i64 (ix : Nat), .int .i64 lt, .slice a n c, .int .i64 cm, .bool ok] 34)
  obtain ⟨x2, f2⟩ := h.term
  obtain ⟨x5, f5⟩ := h.role
  rw [hT] at x2
  rw [hR] at x5
  have hlt := h.lt
  have hLs : (follow s src).log.length = L := hL
  have cl := fun W (hW : Is W g (follow s src) v) => last_is g (follow s src) v W hW
  have ct := fun W (hW : Is W g (follow s src) v) (hn : ix ≤ (follow s src).log.length) => term_is g (follow s src) v ix hn (by rw [hLs]; omega) W hW
  rw [hLs] at cl ct
  clear hT hR
  go_enter Try.func45, Try.ntmps45
  go_wp2_with fail
  go_quiet (fail)
  go_wp2_with fail
  have hbx2 := hbx
  generalize hW : (w.alloc (.cells #[.int .u8 k, .int .i64 src, .int .i64 dst, .int .i64 tm, .int .i64 (ix : Nat), .int .i64 lt, .slice a n c, .int .i64 cm, .bool ok] 34)) = W0 at *
  have h2 := h1.drewN nq
  have hO2 : Only (fun k => k = g) w (W0.drewN nq) := (Only.of_below hB).drewN nq
  replace hbx2 : (W0.drewN nq).heap[w.heap.size]? = _ := hbx2
  have hblt : w.heap.size < (W0.drewN nq).heap.size := (Array.getElem?_eq_some_iff.1 hbx2).1
  generalize (W0.drewN nq) = W at *
  clear hW hB h1 hbx x2 f2 x5 f5
  have y1 : W.cell? ⟨w.heap.size, 1, none⟩ = some (.int .i64 src) := by simp [World.cell?, hbx2]
  obtain ⟨y5, f5⟩ := h2.role
  obtain ⟨y6, f6⟩ := h2.leader
  have hgn : ¬ g = w.heap.size := by omega
  have h3 := (h2.set (s' := { s with role := 0 }) rfl 5 (.int .u8 0) rfl).set (s' := follow s src) rfl 6 (.int .i64 src) rfl
  have hO3 := Only.set (S := fun k => k = g) (Only.set (S := fun k => k = g) hO2 (p := ⟨g, 5, none⟩) (.inl rfl) (.int .u8 0)) (p := ⟨g, 6, none⟩) (.inl rfl) (.int .i64 src)
  have hbx3 := (Below.heap_setCell ((W.setCell ⟨g, 5, none⟩ (.int .u8 0))) ⟨g, 6, none⟩ (.int .i64 src) w.heap.size (Ne.symm hgn)).trans ((Below.heap_setCell W ⟨g, 5, none⟩ (.int .u8 0) w.heap.size (Ne.symm hgn)).trans hbx2)
  go_region
  have h4 : Is (((W.setCell ⟨g, 5, none⟩ (.int .u8 0)).setCell ⟨g, 6, none⟩ (.int .i64 src)).drew) g (follow s src) v := h3.drewN 1
  have hO4 : Only (fun k => k = g) w (((W.setCell ⟨g, 5, none⟩ (.int .u8 0)).setCell ⟨g, 6, none⟩ (.int .i64 src)).drew) := hO3.drewN 1
  replace hbx3 : (((W.setCell ⟨g, 5, none⟩ (.int .u8 0)).setCell ⟨g, 6, none⟩ (.int .i64 src)).drew).heap[w.heap.size]? = _ := hbx3
  generalize hW4 : (((W.setCell ⟨g, 5, none⟩ (.int .u8 0)).setCell ⟨g, 6, none⟩ (.int .i64 src)).drew) = W4 at *
  clear hW4 h2 h3 hO2 hO3 hbx2 y1 y5 f5 y6 f6 hblt
  have m4 : W4.cell? ⟨w.heap.size, 4, none⟩ = some (.int .i64 (ix : Nat)) := by simp [World.cell?, hbx3]
  have m5 : W4.cell? ⟨w.heap.size, 5, none⟩ = some (.int .i64 lt) := by simp [World.cell?, hbx3]
  go_wp2_with fail
  have hle : ix ≤ L := p0
  have e0 : decide (L < ix) = false := by simp; omega
  have e1 : (tat (follow s src).log ix != lt) = true := by simp; exact hne
  generalize tat (follow s src).log ix = Y at ct e1
  clear hne
  clear hL hLs
  go_quiet ((first | (go_at_call 40; exact Calls.quiet_of_same ((cl _ (by first | exact h4.drewN _ | exact h4)).mono (fun e w' he => ⟨he.1, he.2.symm⟩))) | (go_at_call 41; exact Calls.quiet_of_same ((ct _ (by first | exact h4.drewN _ | exact h4) hle).mono (fun e w' he => ⟨he.1, he.2.symm⟩)))))
  go_wp2_with fail
  have h5 := h4.drewN nq
  have hO5 := hO4.drewN nq
  replace hbx3 : (W4.drewN nq).heap[w.heap.size]? = _ := hbx3
  generalize (W4.drewN nq) = W5 at *
  clear h4 hO4 m4 m5
  have hwr : IntKind.i64.wrap ((ix : Int) - 1) = (ix : Int) - 1 := by rw [IntKind.wrap_i64] <;> omega
  have q0 : (ix : Int) - 1 < L := by omega
  have hblt : w.heap.size < W5.heap.size := (Array.getElem?_eq_some_iff.1 hbx3).1
  refine wp_region_held_drew (S := (fun w' => (Is w' g (follow s src) v ∧ Below W5.heap.size W5 w') ∧ w'.cell? ⟨w.heap.size, 0, none⟩ = some (.int .u8 k) ∧ w'.cell? ⟨w.heap.size, 1, none⟩ = some (.int .i64 src) ∧ w'.cell? ⟨w.heap.size, 2, none⟩ = some (.int .i64 dst) ∧ w'.cell? ⟨w.heap.size, 3, none⟩ = some (.int .i64 tm) ∧ w'.cell? ⟨w.heap.size, 4, none⟩ = some (.int .i64 (ix : Nat)) ∧ w'.cell? ⟨w.heap.size, 5, none⟩ = some (.int .i64 lt) ∧ w'.cell? ⟨w.heap.size, 6, none⟩ = some (.slice a n c) ∧ w'.cell? ⟨w.heap.size, 7, none⟩ = some (.int .i64 cm) ∧ w'.cell? ⟨w.heap.size, 8, none⟩ = some (.bool ok))) (by kernel_rfl) (keepM h5 hbx3 (Below.refl _ W5).drew) (fun hHeld => ?_)
  refine' wpAnyH_take (i := 0) (oi := ({ dst := some 48, op := Go.Op.move (Go.Operand.tmp 0), type := 22, pos := "raft.go:224", after := #[], guard := none } : Oper)) (v := ?v0) rfl (by kernel_rfl) (by kernel_rfl) (by kernel_rfl) (fun _ _ _ h => h) (Or.inl ⟨by rfl, ?y0⟩) hHeld ?r0
  case y0 => (intro w hSw; try dsimp only at hSw); go_simp; try with_reducible rfl
  case r0 =>
  try simp only [Act.put, List.setIfInBounds_toArray, List.set_cons_zero, List.set_cons_succ]
  refine' wpAnyH_take (i := 1) (oi := ({ dst := some 49, op := Go.Op.load 34 (Go.Operand.tmp 3), type := 34, pos := "raft.go:224", after := #[], guard := none } : Oper)) (v := ?v1) rfl (by kernel_rfl) (by kernel_rfl) (by kernel_rfl) (fun _ _ _ h => h) (Or.inl ⟨by rfl, ?y1⟩) hHeld ?r1
  case y1 => (intro w hSw; try dsimp only at hSw); go_simp; try with_reducible rfl
  case r1 =>
  try simp only [Act.put, List.setIfInBounds_toArray, List.set_cons_zero, List.set_cons_succ]
  refine' wpAnyH_take (i := 2) (oi := ({ dst := some 50, op := Go.Op.move (Go.Operand.tmp 0), type := 22, pos := "raft.go:224", after := #[], guard := none } : Oper)) (v := ?v2) rfl (by kernel_rfl) (by kernel_rfl) (by kernel_rfl) (fun _ _ _ h => h) (Or.inl ⟨by rfl, ?y2⟩) hHeld ?r2
  case y2 => (intro w hSw; try dsimp only at hSw); go_simp; try with_reducible rfl
  case r2 =>
  try simp only [Act.put, List.setIfInBounds_toArray, List.set_cons_zero, List.set_cons_succ]
  refine' wpAnyH_take (i := 4) (oi := ({ dst := some 52, op := Go.Op.fieldAddr 34 (Go.Operand.tmp 3) 4, type := 0, pos := "raft.go:224", after := #[], guard := none } : Oper)) (v := ?v4) rfl (by kernel_rfl) (by kernel_rfl) (by kernel_rfl) (fun _ _ _ h => h) (Or.inl ⟨by rfl, ?y4⟩) hHeld ?r4
  case y4 => (intro w hSw; try dsimp only at hSw); go_simp; try with_reducible rfl
  case r4 =>
  try simp only [Act.put, List.setIfInBounds_toArray, List.set_cons_zero, List.set_cons_succ]
  refine' wpAnyH_take (i := 5) (oi := ({ dst := some 53, op := Go.Op.load 3 (Go.Operand.tmp 52), type := 3, pos := "raft.go:224", after := #[{ on := 4, ground := Go.Ground.data }], guard := none } : Oper)) (v := ?v5) rfl (by kernel_rfl) (by kernel_rfl) (by kernel_rfl) (fun _ _ _ h => h) (Or.inl ⟨by rfl, ?y5⟩) hHeld ?r5
  case y5 => (intro w hSw; try dsimp only at hSw); go_simp; try with_reducible rfl
  case r5 =>
  try simp only [Act.put, List.setIfInBounds_toArray, List.set_cons_zero, List.set_cons_succ]
  refine' wpAnyH_take (i := 6) (oi := ({ dst := some 54, op := Go.Op.binOp Go.BinOp.sub 3 (Go.Operand.tmp 53) (Go.Operand.const (Go.Value.int Go.IntKind.i64 1)) 3, type := 3, pos := "raft.go:224", after := #[{ on := 5, ground := Go.Ground.data }], guard := none } : Oper)) (v := ?v6) rfl (by kernel_rfl) (by kernel_rfl) (by kernel_rfl) (fun _ _ _ h => h) (Or.inl ⟨by rfl, ?y6⟩) hHeld ?r6
  case y6 => (intro w hSw; try dsimp only at hSw); go_simp; try with_reducible rfl
  case r6 =>
  try simp only [Act.put, List.setIfInBounds_toArray, List.set_cons_zero, List.set_cons_succ]
  refine wpAnyH_ready (rs := [3]) (by kernel_rfl) (by simp) ?_
  refine AllReadyH.cons rfl (fun K hK => ?_) AllReadyH.nil
  go_simp
  refine (cl _ hHeld.1.1).mono ?_
  rintro e w' ⟨rfl, rfl⟩
  refine hK.out _ _ hHeld (fun _ => ?_)
  clear hK K
  try simp only [Act.put, List.setIfInBounds_toArray, List.set_cons_zero, List.set_cons_succ]
  refine' wpAnyH_take (i := 7) (oi := ({ dst := some 55, op := Go.Op.call { callee := Go.Callee.builtin Go.Builtin.min, args := #[Go.Operand.tmp 51, Go.Operand.tmp 54], argTypes := #[3, 3] }, type := 3, pos := "raft.go:224", after := #[{ on := 3, ground := Go.Ground.data }, { on := 6, ground := Go.Ground.data }], guard := none } : Oper)) (v := ?v7) rfl (by kernel_rfl) (by kernel_rfl) (by kernel_rfl) (fun _ _ _ h => h) (Or.inl ⟨by rfl, ?y7⟩) hHeld ?r7
  case y7 => (intro w hSw; try dsimp only at hSw); go_simp; try with_reducible rfl
  case r7 =>
  try simp only [Act.put, List.setIfInBounds_toArray, List.set_cons_zero, List.set_cons_succ]
  refine wpAnyH_ready (rs := [8]) (by kernel_rfl) (by simp) ?_
  refine AllReadyH.cons rfl (fun K hK => ?_) AllReadyH.nil
  go_simp
  refine (answer_is g (follow s src) v ⟨k, src, dst, tm, ix, lt, [], cm, ok⟩ a n c 4 ((ix : Int) - 1) false _ hHeld.1.1).mono ?_
  rintro e w6 ⟨out, rfl, hO6, hB6⟩
  have hB7 : Below W5.heap.size W5 w6 := ((Below.refl _ W5).drew).trans hB6
  refine hK.out _ _ (keepM h5 hbx3 hB7) (fun hHeld => ?_)
  clear hK K
  try simp only [Act.put, List.setIfInBounds_toArray, List.set_cons_zero, List.set_cons_succ]
  refine' wpAnyH_take (i := 9) (oi := ({ dst := some 4, op := Go.Op.assign (Go.Operand.tmp 56), type := 30, pos := "raft.go:224", after := #[{ on := 8, ground := Go.Ground.data }, { on := 8, ground := Go.Ground.chain }, { on := 0, ground := Go.Ground.phase }, { on := 1, ground := Go.Ground.phase }, { on := 2, ground := Go.Ground.phase }, { on := 3, ground := Go.Ground.phase }, { on := 4, ground := Go.Ground.phase }, { on := 5, ground := Go.Ground.phase }, { on := 6, ground := Go.Ground.phase }, { on := 7, ground := Go.Ground.phase }, { on := 8, ground := Go.Ground.phase }], guard := none } : Oper)) (v := ?v9) rfl (by kernel_rfl) (by kernel_rfl) (by kernel_rfl) (fun _ _ _ h => h) (Or.inl ⟨by rfl, ?y9⟩) hHeld ?r9
  case y9 => (intro w hSw; try dsimp only at hSw); go_simp; try with_reducible rfl
  case r9 =>
  try simp only [Act.put, List.setIfInBounds_toArray, List.set_cons_zero, List.set_cons_succ]
  refine wpAnyH_done (by kernel_rfl) ?_ _
  try simp only [Act.put]
  go_simp
  go_wp2_with fail
  go_ret
  exact ⟨out, rfl, asked_end (h5.drewN 1) (hO5.drewN 1) hlt hO6 hB6⟩

end Rf
end Go.Proofs.Ytdacdkidjgbdoaa
