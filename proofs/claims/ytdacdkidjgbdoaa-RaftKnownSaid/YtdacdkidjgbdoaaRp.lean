/- The contracts of raft's Saved, Log. -/
import Derived.Test.YtdacdkidjgbdoaaRo
set_option linter.unusedVariables false
set_option linter.unusedSimpArgs false
namespace Go.Proofs.Ytdacdkidjgbdoaa
open Go Go.RowKit
namespace Rf
attribute [local go_sem ↓] Go.wp_at_zero Go.wp_at_succ

def SavedNo (w : World) (e : Ending) (w' : World) : Prop := e = .returned (.agg #[.int .i64 0, .int .i64 0, .slice none 0 0]) ∧ Below w.heap.size w w'
def SavedYes (w : World) (s : Srv) (e : Ending) (w' : World) : Prop := ∃ a c, e = .returned (.agg #[.int .i64 s.term, .int .i64 s.vote, .slice a s.log.length c]) ∧ w'.ownsRow w.heap.size 39 2 (.slice a s.log.length c) s.log.length (ents s.log) ∧ Below w.heap.size w w'

set_option maxRecDepth 100000 in
theorem saved_nil (w : World) : Calls Try.prog 31 #[.pointer none] w (SavedNo w) := by
  have hB := (Below.refl _ w).alloc (Nat.le_refl _) (.cells #[.int .i64 0, .int .i64 0, .slice none 0 0] 29)
  go_enter Try.func31, Try.ntmps31
  go_wp2_with fail
  refine (made0 _).mono ?_
  rintro e w1 ⟨rfl, rfl⟩
  go_wp2_with fail
  refine bodyPost_ret (v := .agg #[.int .i64 0, .int .i64 0, .slice none 0 0]) (by simp [results, Try.results31, go_sem]) rfl ⟨rfl, ?_⟩
  exact (Below.refl _ w).alloc (Nat.le_refl _) _
set_option maxRecDepth 100000 in
theorem saved_zero (g : Nat) (s : Srv) (v : Value) (w : World) (h : Is w g s v) (h0 : s.nodes = 0) : Calls Try.prog 31 #[.pointer (some ⟨g, 0, none⟩)] w (SavedNo w) := by
  have hB := (Below.refl _ w).alloc (Nat.le_refl _) (.cells #[.int .i64 0, .int .i64 0, .slice none 0 0] 29)
  have h1 := h.below hB
  go_enter Try.func31, Try.ntmps31
  go_wp2_with fail
  refine (made1 g s v false _ h1 (by simp [h0])).mono ?_
  rintro e w1 ⟨rfl, rfl⟩
  go_wp2_with fail
  refine bodyPost_ret (v := .agg #[.int .i64 0, .int .i64 0, .slice none 0 0]) (by simp [results, Try.results31, go_sem]) rfl ⟨rfl, ?_⟩
  exact (Below.refl _ w).alloc (Nat.le_refl _) _
theorem keepV {w w' : World} {g c : Nat} {s : Srv} {a : Option Addr} (h : Is w g s (.slice a s.log.length c)) (hB : Below w.heap.size w w') :
    (Is w' g s (.slice a s.log.length c) ∧ Below w.heap.size w w') ∧ w'.cell? ⟨g, 2, none⟩ = some (.int .i64 s.term) ∧ w'.cell? ⟨g, 3, none⟩ = some (.int .i64 s.vote) ∧ w'.cell? ⟨g, 4, none⟩ = some (.slice a s.log.length c) := by
  have h1 := h.below hB
  exact ⟨⟨h1, hB⟩, h1.term.1, h1.vote.1, h1.slog.1⟩

set_option maxRecDepth 100000 in
set_option maxHeartbeats 1000000 in
theorem saved_is (g : Nat) (s : Srv) (v : Value) (w : World) (h : Is w g s v) (h0 : 1 ≤ s.nodes) (hl : s.log.length ≤ 100000) : Calls Try.prog 31 #[.pointer (some ⟨g, 0, none⟩)] w (SavedYes w s) := by
  obtain ⟨a, c, rfl, hc, hm⟩ := h.slice
  have hIs := h
  have hB := (Below.refl _ w).alloc (Nat.le_refl _) (.cells #[.int .i64 0, .int .i64 0, .slice none 0 0] 29)
  have h1 := h.below hB
  have hmb := heap_alloc_new w (.cells #[.int .i64 0, .int .i64 0, .slice none 0 0] 29)
  go_enter Try.func31, Try.ntmps31
  go_wp2_with fail
  refine (made1 g s _ true _ h1 (by simp; omega)).mono ?_
  rintro e w1 ⟨rfl, rfl⟩
  go_wp2_with fail
  refine wp_region_held_drew (S := (fun w' => (Is w' g s (.slice a s.log.length c) ∧ Below w.heap.size w w') ∧ w'.cell? ⟨g, 2, none⟩ = some (.int .i64 s.term) ∧ w'.cell? ⟨g, 3, none⟩ = some (.int .i64 s.vote) ∧ w'.cell? ⟨g, 4, none⟩ = some (.slice a s.log.length c))) (by kernel_rfl) (keepV hIs hB.drew) (fun hHeld => ?_)
  replace hmb : (w.alloc (.cells #[.int .i64 0, .int .i64 0, .slice none 0 0] 29)).drew.heap[w.heap.size]? = _ := hmb
  generalize (w.alloc (.cells #[.int .i64 0, .int .i64 0, .slice none 0 0] 29)).drew = W at hHeld hmb ⊢
  clear hB h1
  have hlt2 : w.heap.size < W.heap.size := (Array.getElem?_eq_some_iff.1 hmb).1
  refine' wpAnyH_take (i := 0) (oi := ({ dst := some 7, op := Go.Op.move (Go.Operand.tmp 0), type := 22, pos := "raft.go:277", after := #[], guard := none } : Oper)) (v := ?v0) rfl (by kernel_rfl) (by kernel_rfl) (by kernel_rfl) (fun _ _ _ h => h) (Or.inl ⟨by rfl, ?y0⟩) hHeld ?r0
  case y0 => (intro w hSw; try dsimp only at hSw); go_simp; try with_reducible rfl
  case r0 =>
  try simp only [Act.put, List.setIfInBounds_toArray, List.set_cons_zero, List.set_cons_succ]
  refine' wpAnyH_take (i := 1) (oi := ({ dst := some 8, op := Go.Op.nilCheck (Go.Operand.tmp 7), type := 0, pos := "raft.go:277", after := #[{ on := 0, ground := Go.Ground.data }], guard := none } : Oper)) (v := ?v1) rfl (by kernel_rfl) (by kernel_rfl) (by kernel_rfl) (fun _ _ _ h => h) (Or.inl ⟨by rfl, ?y1⟩) hHeld ?r1
  case y1 => (intro w hSw; try dsimp only at hSw); go_simp; try with_reducible rfl
  case r1 =>
  try simp only [Act.put, List.setIfInBounds_toArray, List.set_cons_zero, List.set_cons_succ]
  refine' wpAnyH_take (i := 2) (oi := ({ dst := some 9, op := Go.Op.fieldAddr 74 (Go.Operand.tmp 8) 2, type := 0, pos := "raft.go:277", after := #[{ on := 1, ground := Go.Ground.data }], guard := none } : Oper)) (v := ?v2) rfl (by kernel_rfl) (by kernel_rfl) (by kernel_rfl) (fun _ _ _ h => h) (Or.inl ⟨by rfl, ?y2⟩) hHeld ?r2
  case y2 => (intro w hSw; try dsimp only at hSw); go_simp; try with_reducible rfl
  case r2 =>
  try simp only [Act.put, List.setIfInBounds_toArray, List.set_cons_zero, List.set_cons_succ]
  refine' wpAnyH_take (i := 3) (oi := ({ dst := some 10, op := Go.Op.fieldAddr 29 (Go.Operand.tmp 9) 0, type := 0, pos := "raft.go:277", after := #[{ on := 2, ground := Go.Ground.data }], guard := none } : Oper)) (v := ?v3) rfl (by kernel_rfl) (by kernel_rfl) (by kernel_rfl) (fun _ _ _ h => h) (Or.inl ⟨by rfl, ?y3⟩) hHeld ?r3
  case y3 => (intro w hSw; try dsimp only at hSw); go_simp; try with_reducible rfl
  case r3 =>
  try simp only [Act.put, List.setIfInBounds_toArray, List.set_cons_zero, List.set_cons_succ]
  refine' wpAnyH_take (i := 4) (oi := ({ dst := some 11, op := Go.Op.load 2 (Go.Operand.tmp 10), type := 2, pos := "raft.go:277", after := #[{ on := 3, ground := Go.Ground.data }], guard := none } : Oper)) (v := ?v4) rfl (by kernel_rfl) (by kernel_rfl) (by kernel_rfl) (fun _ _ _ h => h) (Or.inl ⟨by rfl, ?y4⟩) hHeld ?r4
  case y4 => (intro w hSw; try dsimp only at hSw); go_simp; try with_reducible rfl
  case r4 =>
  try simp only [Act.put, List.setIfInBounds_toArray, List.set_cons_zero, List.set_cons_succ]
  refine' wpAnyH_take (i := 5) (oi := ({ dst := some 12, op := Go.Op.move (Go.Operand.tmp 0), type := 22, pos := "raft.go:277", after := #[], guard := none } : Oper)) (v := ?v5) rfl (by kernel_rfl) (by kernel_rfl) (by kernel_rfl) (fun _ _ _ h => h) (Or.inl ⟨by rfl, ?y5⟩) hHeld ?r5
  case y5 => (intro w hSw; try dsimp only at hSw); go_simp; try with_reducible rfl
  case r5 =>
  try simp only [Act.put, List.setIfInBounds_toArray, List.set_cons_zero, List.set_cons_succ]
  refine' wpAnyH_take (i := 6) (oi := ({ dst := some 13, op := Go.Op.nilCheck (Go.Operand.tmp 12), type := 0, pos := "raft.go:277", after := #[{ on := 5, ground := Go.Ground.data }], guard := none } : Oper)) (v := ?v6) rfl (by kernel_rfl) (by kernel_rfl) (by kernel_rfl) (fun _ _ _ h => h) (Or.inl ⟨by rfl, ?y6⟩) hHeld ?r6
  case y6 => (intro w hSw; try dsimp only at hSw); go_simp; try with_reducible rfl
  case r6 =>
  try simp only [Act.put, List.setIfInBounds_toArray, List.set_cons_zero, List.set_cons_succ]
  refine' wpAnyH_take (i := 7) (oi := ({ dst := some 14, op := Go.Op.fieldAddr 74 (Go.Operand.tmp 13) 2, type := 0, pos := "raft.go:277", after := #[{ on := 6, ground := Go.Ground.data }], guard := none } : Oper)) (v := ?v7) rfl (by kernel_rfl) (by kernel_rfl) (by kernel_rfl) (fun _ _ _ h => h) (Or.inl ⟨by rfl, ?y7⟩) hHeld ?r7
  case y7 => (intro w hSw; try dsimp only at hSw); go_simp; try with_reducible rfl
  case r7 =>
  try simp only [Act.put, List.setIfInBounds_toArray, List.set_cons_zero, List.set_cons_succ]
  refine' wpAnyH_take (i := 8) (oi := ({ dst := some 15, op := Go.Op.fieldAddr 29 (Go.Operand.tmp 14) 1, type := 0, pos := "raft.go:277", after := #[{ on := 7, ground := Go.Ground.data }], guard := none } : Oper)) (v := ?v8) rfl (by kernel_rfl) (by kernel_rfl) (by kernel_rfl) (fun _ _ _ h => h) (Or.inl ⟨by rfl, ?y8⟩) hHeld ?r8
  case y8 => (intro w hSw; try dsimp only at hSw); go_simp; try with_reducible rfl
  case r8 =>
  try simp only [Act.put, List.setIfInBounds_toArray, List.set_cons_zero, List.set_cons_succ]
  refine' wpAnyH_take (i := 9) (oi := ({ dst := some 16, op := Go.Op.load 3 (Go.Operand.tmp 15), type := 3, pos := "raft.go:277", after := #[{ on := 8, ground := Go.Ground.data }], guard := none } : Oper)) (v := ?v9) rfl (by kernel_rfl) (by kernel_rfl) (by kernel_rfl) (fun _ _ _ h => h) (Or.inl ⟨by rfl, ?y9⟩) hHeld ?r9
  case y9 => (intro w hSw; try dsimp only at hSw); go_simp; try with_reducible rfl
  case r9 =>
  try simp only [Act.put, List.setIfInBounds_toArray, List.set_cons_zero, List.set_cons_succ]
  refine' wpAnyH_take (i := 10) (oi := ({ dst := some 17, op := Go.Op.move (Go.Operand.tmp 0), type := 22, pos := "raft.go:277", after := #[], guard := none } : Oper)) (v := ?v10) rfl (by kernel_rfl) (by kernel_rfl) (by kernel_rfl) (fun _ _ _ h => h) (Or.inl ⟨by rfl, ?y10⟩) hHeld ?r10
  case y10 => (intro w hSw; try dsimp only at hSw); go_simp; try with_reducible rfl
  case r10 =>
  try simp only [Act.put, List.setIfInBounds_toArray, List.set_cons_zero, List.set_cons_succ]
  refine' wpAnyH_take (i := 11) (oi := ({ dst := some 18, op := Go.Op.nilCheck (Go.Operand.tmp 17), type := 0, pos := "raft.go:277", after := #[{ on := 10, ground := Go.Ground.data }], guard := none } : Oper)) (v := ?v11) rfl (by kernel_rfl) (by kernel_rfl) (by kernel_rfl) (fun _ _ _ h => h) (Or.inl ⟨by rfl, ?y11⟩) hHeld ?r11
  case y11 => (intro w hSw; try dsimp only at hSw); go_simp; try with_reducible rfl
  case r11 =>
  try simp only [Act.put, List.setIfInBounds_toArray, List.set_cons_zero, List.set_cons_succ]
  refine' wpAnyH_take (i := 12) (oi := ({ dst := some 19, op := Go.Op.fieldAddr 74 (Go.Operand.tmp 18) 2, type := 0, pos := "raft.go:277", after := #[{ on := 11, ground := Go.Ground.data }], guard := none } : Oper)) (v := ?v12) rfl (by kernel_rfl) (by kernel_rfl) (by kernel_rfl) (fun _ _ _ h => h) (Or.inl ⟨by rfl, ?y12⟩) hHeld ?r12
  case y12 => (intro w hSw; try dsimp only at hSw); go_simp; try with_reducible rfl
  case r12 =>
  try simp only [Act.put, List.setIfInBounds_toArray, List.set_cons_zero, List.set_cons_succ]
  refine' wpAnyH_take (i := 13) (oi := ({ dst := some 20, op := Go.Op.fieldAddr 29 (Go.Operand.tmp 19) 2, type := 0, pos := "raft.go:277", after := #[{ on := 12, ground := Go.Ground.data }], guard := none } : Oper)) (v := ?v13) rfl (by kernel_rfl) (by kernel_rfl) (by kernel_rfl) (fun _ _ _ h => h) (Or.inl ⟨by rfl, ?y13⟩) hHeld ?r13
  case y13 => (intro w hSw; try dsimp only at hSw); go_simp; try with_reducible rfl
  case r13 =>
  try simp only [Act.put, List.setIfInBounds_toArray, List.set_cons_zero, List.set_cons_succ]
  refine' wpAnyH_take (i := 14) (oi := ({ dst := some 21, op := Go.Op.load 27 (Go.Operand.tmp 20), type := 27, pos := "raft.go:277", after := #[{ on := 13, ground := Go.Ground.data }], guard := none } : Oper)) (v := ?v14) rfl (by kernel_rfl) (by kernel_rfl) (by kernel_rfl) (fun _ _ _ h => h) (Or.inl ⟨by rfl, ?y14⟩) hHeld ?r14
  case y14 => (intro w hSw; try dsimp only at hSw); go_simp; try with_reducible rfl
  case r14 =>
  try simp only [Act.put, List.setIfInBounds_toArray, List.set_cons_zero, List.set_cons_succ]
  refine wpAnyH_ready (rs := [15]) (by kernel_rfl) (by simp) ?_
  refine AllReadyH.cons rfl (fun K hK => ?_) AllReadyH.nil
  go_simp
  refine (clone_at _ _ _ s.log rfl hl _ _ (Nat.le_refl _) (es_is hHeld.1.1)).mono ?_
  rintro e w2 ⟨aa, nn, cc, rfl, hown, hBw⟩
  have hB2 : Below w.heap.size w w2 := Below.trans hHeld.1.2 (hBw.mono hHeld.1.2.size)
  have hmb2 := (hBw.block _ hlt2).trans hmb
  obtain rfl : nn = s.log.length := by obtain ⟨_, _, e⟩ := own_slice hown; injection e
  refine hK.out _ _ (keepV hIs hB2) (fun hHeld => ?_)
  clear hK K
  try simp only [Act.put, List.setIfInBounds_toArray, List.set_cons_zero, List.set_cons_succ]
  refine' wpAnyH_take (i := 16) (oi := ({ dst := some 23, op := Go.Op.build 29 #[(0, Go.Operand.tmp 11), (1, Go.Operand.tmp 16), (2, Go.Operand.tmp 22)], type := 29, pos := "raft.go:277", after := #[{ on := 4, ground := Go.Ground.data }, { on := 9, ground := Go.Ground.data }, { on := 15, ground := Go.Ground.data }], guard := none } : Oper)) (v := ?v16) rfl (by kernel_rfl) (by kernel_rfl) (by kernel_rfl) (fun _ _ _ h => h) (Or.inl ⟨by rfl, ?y16⟩) hHeld ?r16
  case y16 => (intro w hSw; try dsimp only at hSw); go_simp; try with_reducible rfl
  case r16 =>
  try simp only [Act.put, List.setIfInBounds_toArray, List.set_cons_zero, List.set_cons_succ]
  refine wpAnyH_ready (rs := [17]) (by kernel_rfl) (by simp) ?_
  refine AllReadyH.cons rfl (fun K hK => ?_) AllReadyH.nil
  rw [if_pos (by rfl)]
  refine wp_store_mid 29 (.tmp 2) (.tmp 23) rfl w.heap.size 0 #[.int .i64 s.term, .int .i64 s.vote, .slice aa s.log.length cc] rfl (by simp [Act.eval]) (there_of_block hmb2 0 3 (Nat.le_refl _)) info29 (by simp [Value.oneCell']) ?_
  have hmb3 := block_setAll (w := w2) (vs := [.int .i64 s.term, .int .i64 s.vote, .slice aa s.log.length cc]) (b := w.heap.size) (C := [.int .i64 0, .int .i64 0, .slice none 0 0]) hmb2 rfl
  have hB3 := below_setCells w.heap.size (Nat.le_refl _) [.int .i64 s.term, .int .i64 s.vote, .slice aa s.log.length cc] 0 hB2
  refine hK.out _ _ (keepV hIs hB3) (fun hHeld => ?_)
  clear hK K
  refine wpAnyH_done (by kernel_rfl) ?_ _
  clear hHeld hIs
  go_wp2
  refine bodyPost_ret (results_cell rfl _ _ _ w.heap.size [.int .i64 s.term, .int .i64 s.vote, .slice aa s.log.length cc] _ rfl (range_of_block (by simpa using hmb3)) Try.underlying29 rfl info29) rfl ⟨aa, cc, rfl, ?_, hB3⟩
  exact own_base (own_setCells hlt2 _ hown) (Nat.le_of_lt hlt2)

theorem field_log (W : World) (x y : Value) (a : Option Addr) (n c : Nat) : (Instr.field 29 (.agg #[x, y, .slice a n c]) 2).run Try.prog W = .ok (.slice a n c) W := by kernel_rfl

def LogYes (w : World) (l : List Ent) (e : Ending) (w' : World) : Prop := ∃ a c, e = .returned (.slice a l.length c) ∧ w'.ownsRow w.heap.size 39 2 (.slice a l.length c) l.length (ents l) ∧ Below w.heap.size w w'
set_option maxRecDepth 100000 in
theorem log_nil (w : World) : Calls Try.prog 23 #[.pointer none] w fun e w' => e = .returned (.slice none 0 0) ∧ Below w.heap.size w w' := by
  go_enter Try.func23, Try.ntmps23
  go_wp2_with fail
  refine (saved_nil _).mono ?_
  rintro e w1 ⟨rfl, hB⟩
  have hfd := field_log
  go_wp2_with fail
  go_ret
  exact ⟨rfl, hB⟩
set_option maxRecDepth 100000 in
theorem log_zero (g : Nat) (s : Srv) (v : Value) (w : World) (h : Is w g s v) (h0 : s.nodes = 0) : Calls Try.prog 23 #[.pointer (some ⟨g, 0, none⟩)] w fun e w' => e = .returned (.slice none 0 0) ∧ Below w.heap.size w w' := by
  go_enter Try.func23, Try.ntmps23
  go_wp2_with fail
  refine (saved_zero g s v _ h h0).mono ?_
  rintro e w1 ⟨rfl, hB⟩
  have hfd := field_log
  go_wp2_with fail
  go_ret
  exact ⟨rfl, hB⟩
set_option maxRecDepth 100000 in
theorem log_is (g : Nat) (s : Srv) (v : Value) (w : World) (h : Is w g s v) (h0 : 1 ≤ s.nodes) (hl : s.log.length ≤ 100000) : Calls Try.prog 23 #[.pointer (some ⟨g, 0, none⟩)] w (LogYes w s.log) := by
  go_enter Try.func23, Try.ntmps23
  go_wp2_with fail
  refine (saved_is g s v _ h h0 hl).mono ?_
  rintro e w1 ⟨a, c, rfl, ho, hB⟩
  have hfd := field_log
  go_wp2_with fail
  go_ret
  exact ⟨a, c, rfl, ho, hB⟩
end Rf
end Go.Proofs.Ytdacdkidjgbdoaa
