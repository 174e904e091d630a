/- The contract of raft's answer. -/
import Derived.Test.YtdacdkidjgbdoaaTb
set_option linter.unusedVariables false
set_option linter.unusedSimpArgs false
namespace Go.Proofs.Ytdacdkidjgbdoaa
open Go Go.RowKit
namespace Rf
attribute [local go_sem ↓] Go.wp_at_zero Go.wp_at_succ

def answerTo (s : Srv) (to : Int) (kind : Nat) (index : Int) (ok : Bool) : Msg := { kind, src := s.id, dst := to, term := s.term, index, logTerm := 0, entries := [], commit := 0, ok }
theorem Out.one (w : World) (m : Msg) (he : m.entries = []) : Out (w.alloc (.cells (mc m (.slice none 0 0)) 34)) w.heap.size (.slice (some ⟨w.heap.size, 0, none⟩) 1 1) [m] := by
  refine ⟨[(m, .slice none 0 0)], rfl, ?_, fun p hp => ?_⟩
  · refine ⟨rfl, .inr ⟨w.heap.size, 1, mc m (.slice none 0 0), rfl, Nat.le_refl _, heap_alloc_new w _, Nat.le_refl _, by unfold maxLen; simp, rfl, ?_⟩⟩
    simp [msgs, mc]
  · simp only [List.mem_singleton] at hp
    subst hp
    rw [he]
    exact World.ownsRow_nil _ _ 39 2
theorem Out.base {w : World} {b b' : Nat} {v : Value} {ms : List Msg} (h : Out w b v ms) (hb : b' ≤ b) : Out w b' v ms := by
  obtain ⟨l, h1, h2, h3⟩ := h
  exact ⟨l, h1, own_base h2 hb, fun p hp => own_base (h3 p hp) hb⟩
theorem keepc {W : World} {o : Obj} {g j : Nat} {x : Value} (h : g < W.heap.size) (c : W.cell? ⟨g, j, none⟩ = some x) : (W.alloc o).drew.cell? ⟨g, j, none⟩ = some x :=
  (World.cell?_of_block (w := W) (Below.heap_alloc W o g h)).trans c
def AnswerPost (w : World) (ms : List Msg) (e : Ending) (w' : World) : Prop := ∃ out, e = .returned out ∧ Out w' w.heap.size out ms ∧ Below w.heap.size w w'

set_option maxRecDepth 100000 in
set_option maxHeartbeats 1000000 in
theorem answer_is (g : Nat) (s : Srv) (v : Value) (m : Msg) (a : Option Addr) (n c : Nat) (kind : Nat) (index : Int) (ok : Bool) (w : World) (h : Is w g s v) :
    Calls Try.prog 65 #[.pointer (some ⟨g, 0, none⟩), .agg #[.int .u8 m.kind, .int .i64 m.src, .int .i64 m.dst, .int .i64 m.term, .int .i64 m.index, .int .i64 m.logTerm, .slice a n c, .int .i64 m.commit, .bool m.ok], .int .u8 kind, .int .i64 index, .bool ok] w (AnswerPost w [answerTo s m.src kind index ok]) := by
  have hB := (Below.refl _ w).alloc (Nat.le_refl _) (.cells #[.int .u8 m.kind, .int .i64 m.src, .int .i64 m.dst, .int .i64 m.term, .int .i64 m.index, .int .i64 m.logTerm, .slice a n c, .int .i64 m.commit, .bool m.ok] 34)
  have h1 := h.below hB
  have hbx := heap_alloc_new w (.cells #[.int .u8 m.kind, .int .i64 m.src, .int .i64 m.dst, .int .i64 m.term, .int .i64 m.index, .int .i64 m.logTerm, .slice a n c, .int .i64 m.commit, .bool m.ok] 34)
  have hsz := World.size_alloc w (.cells #[.int .u8 m.kind, .int .i64 m.src, .int .i64 m.dst, .int .i64 m.term, .int .i64 m.index, .int .i64 m.logTerm, .slice a n c, .int .i64 m.commit, .bool m.ok] 34)
  go_enter Try.func65, Try.ntmps65
  go_wp2_with fail
  generalize (w.alloc (.cells #[.int .u8 m.kind, .int .i64 m.src, .int .i64 m.dst, .int .i64 m.term, .int .i64 m.index, .int .i64 m.logTerm, .slice a n c, .int .i64 m.commit, .bool m.ok] 34)) = W at *
  obtain ⟨x0, -⟩ := h1.id
  obtain ⟨x2, -⟩ := h1.term
  have x1 : W.cell? ⟨w.heap.size, 1, none⟩ = some (.int .i64 m.src) := by simp [World.cell?, hbx]
  have hlt := h1.lt
  refine wp_region_held_drew (S := (fun w' => w'.cell? ⟨g, 0, none⟩ = some (.int .i64 s.id) ∧ w'.cell? ⟨g, 2, none⟩ = some (.int .i64 s.term) ∧ w'.cell? ⟨w.heap.size, 1, none⟩ = some (.int .i64 m.src))) (by kernel_rfl) ⟨x0, x2, x1⟩ (fun hHeld => ?_)
  refine' wpAnyH_take (i := 0) (oi := ({ dst := some 11, op := Go.Op.move (Go.Operand.tmp 2), type := 5, pos := "raft.go:177", after := #[], guard := none } : Oper)) (v := ?v0) rfl (by kernel_rfl) (by kernel_rfl) (by kernel_rfl) (fun _ _ _ h => h) (Or.inl ⟨by rfl, ?y0⟩) hHeld ?r0
  case y0 => (intro w hSw; try dsimp only at hSw); go_simp; try with_reducible rfl
  case r0 =>
  try simp only [Act.put, List.setIfInBounds_toArray, List.set_cons_zero, List.set_cons_succ]
  refine' wpAnyH_take (i := 1) (oi := ({ dst := some 12, op := Go.Op.move (Go.Operand.tmp 0), type := 22, pos := "raft.go:177", after := #[], guard := none } : Oper)) (v := ?v1) rfl (by kernel_rfl) (by kernel_rfl) (by kernel_rfl) (fun _ _ _ h => h) (Or.inl ⟨by rfl, ?y1⟩) hHeld ?r1
  case y1 => (intro w hSw; try dsimp only at hSw); go_simp; try with_reducible rfl
  case r1 =>
  try simp only [Act.put, List.setIfInBounds_toArray, List.set_cons_zero, List.set_cons_succ]
  refine' wpAnyH_take (i := 2) (oi := ({ dst := some 13, op := Go.Op.nilCheck (Go.Operand.tmp 12), type := 0, pos := "raft.go:177", after := #[{ on := 1, ground := Go.Ground.data }], guard := none } : Oper)) (v := ?v2) rfl (by kernel_rfl) (by kernel_rfl) (by kernel_rfl) (fun _ _ _ h => h) (Or.inl ⟨by rfl, ?y2⟩) hHeld ?r2
  case y2 => (intro w hSw; try dsimp only at hSw); go_simp; try with_reducible rfl
  case r2 =>
  try simp only [Act.put, List.setIfInBounds_toArray, List.set_cons_zero, List.set_cons_succ]
  refine' wpAnyH_take (i := 3) (oi := ({ dst := some 14, op := Go.Op.fieldAddr 74 (Go.Operand.tmp 13) 0, type := 0, pos := "raft.go:177", after := #[{ on := 2, ground := Go.Ground.data }], guard := none } : Oper)) (v := ?v3) rfl (by kernel_rfl) (by kernel_rfl) (by kernel_rfl) (fun _ _ _ h => h) (Or.inl ⟨by rfl, ?y3⟩) hHeld ?r3
  case y3 => (intro w hSw; try dsimp only at hSw); go_simp; try with_reducible rfl
  case r3 =>
  try simp only [Act.put, List.setIfInBounds_toArray, List.set_cons_zero, List.set_cons_succ]
  refine' wpAnyH_take (i := 4) (oi := ({ dst := some 15, op := Go.Op.load 3 (Go.Operand.tmp 14), type := 3, pos := "raft.go:177", after := #[{ on := 3, ground := Go.Ground.data }], guard := none } : Oper)) (v := ?v4) rfl (by kernel_rfl) (by kernel_rfl) (by kernel_rfl) (fun _ _ _ h => h) (Or.inl ⟨by rfl, ?y4⟩) hHeld ?r4
  case y4 => (intro w hSw; try dsimp only at hSw); go_simp; try with_reducible rfl
  case r4 =>
  try simp only [Act.put, List.setIfInBounds_toArray, List.set_cons_zero, List.set_cons_succ]
  refine' wpAnyH_take (i := 5) (oi := ({ dst := some 16, op := Go.Op.fieldAddr 34 (Go.Operand.tmp 6) 1, type := 0, pos := "raft.go:177", after := #[], guard := none } : Oper)) (v := ?v5) rfl (by kernel_rfl) (by kernel_rfl) (by kernel_rfl) (fun _ _ _ h => h) (Or.inl ⟨by rfl, ?y5⟩) hHeld ?r5
  case y5 => (intro w hSw; try dsimp only at hSw); go_simp; try with_reducible rfl
  case r5 =>
  try simp only [Act.put, List.setIfInBounds_toArray, List.set_cons_zero, List.set_cons_succ]
  refine' wpAnyH_take (i := 6) (oi := ({ dst := some 17, op := Go.Op.load 3 (Go.Operand.tmp 16), type := 3, pos := "raft.go:177", after := #[{ on := 5, ground := Go.Ground.data }], guard := none } : Oper)) (v := ?v6) rfl (by kernel_rfl) (by kernel_rfl) (by kernel_rfl) (fun _ _ _ h => h) (Or.inl ⟨by rfl, ?y6⟩) hHeld ?r6
  case y6 => (intro w hSw; try dsimp only at hSw); go_simp; try with_reducible rfl
  case r6 =>
  try simp only [Act.put, List.setIfInBounds_toArray, List.set_cons_zero, List.set_cons_succ]
  refine' wpAnyH_take (i := 7) (oi := ({ dst := some 18, op := Go.Op.move (Go.Operand.tmp 0), type := 22, pos := "raft.go:177", after := #[], guard := none } : Oper)) (v := ?v7) rfl (by kernel_rfl) (by kernel_rfl) (by kernel_rfl) (fun _ _ _ h => h) (Or.inl ⟨by rfl, ?y7⟩) hHeld ?r7
  case y7 => (intro w hSw; try dsimp only at hSw); go_simp; try with_reducible rfl
  case r7 =>
  try simp only [Act.put, List.setIfInBounds_toArray, List.set_cons_zero, List.set_cons_succ]
  refine' wpAnyH_take (i := 8) (oi := ({ dst := some 19, op := Go.Op.nilCheck (Go.Operand.tmp 18), type := 0, pos := "raft.go:177", after := #[{ on := 7, ground := Go.Ground.data }], guard := none } : Oper)) (v := ?v8) rfl (by kernel_rfl) (by kernel_rfl) (by kernel_rfl) (fun _ _ _ h => h) (Or.inl ⟨by rfl, ?y8⟩) hHeld ?r8
  case y8 => (intro w hSw; try dsimp only at hSw); go_simp; try with_reducible rfl
  case r8 =>
  try simp only [Act.put, List.setIfInBounds_toArray, List.set_cons_zero, List.set_cons_succ]
  refine' wpAnyH_take (i := 9) (oi := ({ dst := some 20, op := Go.Op.fieldAddr 74 (Go.Operand.tmp 19) 2, type := 0, pos := "raft.go:177", after := #[{ on := 8, ground := Go.Ground.data }], guard := none } : Oper)) (v := ?v9) rfl (by kernel_rfl) (by kernel_rfl) (by kernel_rfl) (fun _ _ _ h => h) (Or.inl ⟨by rfl, ?y9⟩) hHeld ?r9
  case y9 => (intro w hSw; try dsimp only at hSw); go_simp; try with_reducible rfl
  case r9 =>
  try simp only [Act.put, List.setIfInBounds_toArray, List.set_cons_zero, List.set_cons_succ]
  refine' wpAnyH_take (i := 10) (oi := ({ dst := some 21, op := Go.Op.fieldAddr 29 (Go.Operand.tmp 20) 0, type := 0, pos := "raft.go:177", after := #[{ on := 9, ground := Go.Ground.data }], guard := none } : Oper)) (v := ?v10) rfl (by kernel_rfl) (by kernel_rfl) (by kernel_rfl) (fun _ _ _ h => h) (Or.inl ⟨by rfl, ?y10⟩) hHeld ?r10
  case y10 => (intro w hSw; try dsimp only at hSw); go_simp; try with_reducible rfl
  case r10 =>
  try simp only [Act.put, List.setIfInBounds_toArray, List.set_cons_zero, List.set_cons_succ]
  refine' wpAnyH_take (i := 11) (oi := ({ dst := some 22, op := Go.Op.load 2 (Go.Operand.tmp 21), type := 2, pos := "raft.go:177", after := #[{ on := 10, ground := Go.Ground.data }], guard := none } : Oper)) (v := ?v11) rfl (by kernel_rfl) (by kernel_rfl) (by kernel_rfl) (fun _ _ _ h => h) (Or.inl ⟨by rfl, ?y11⟩) hHeld ?r11
  case y11 => (intro w hSw; try dsimp only at hSw); go_simp; try with_reducible rfl
  case r11 =>
  try simp only [Act.put, List.setIfInBounds_toArray, List.set_cons_zero, List.set_cons_succ]
  refine' wpAnyH_take (i := 12) (oi := ({ dst := some 23, op := Go.Op.move (Go.Operand.tmp 3), type := 3, pos := "raft.go:177", after := #[], guard := none } : Oper)) (v := ?v12) rfl (by kernel_rfl) (by kernel_rfl) (by kernel_rfl) (fun _ _ _ h => h) (Or.inl ⟨by rfl, ?y12⟩) hHeld ?r12
  case y12 => (intro w hSw; try dsimp only at hSw); go_simp; try with_reducible rfl
  case r12 =>
  try simp only [Act.put, List.setIfInBounds_toArray, List.set_cons_zero, List.set_cons_succ]
  refine' wpAnyH_take (i := 13) (oi := ({ dst := some 24, op := Go.Op.move (Go.Operand.tmp 4), type := 4, pos := "raft.go:177", after := #[], guard := none } : Oper)) (v := ?v13) rfl (by kernel_rfl) (by kernel_rfl) (by kernel_rfl) (fun _ _ _ h => h) (Or.inl ⟨by rfl, ?y13⟩) hHeld ?r13
  case y13 => (intro w hSw; try dsimp only at hSw); go_simp; try with_reducible rfl
  case r13 =>
  try simp only [Act.put, List.setIfInBounds_toArray, List.set_cons_zero, List.set_cons_succ]
  refine' wpAnyH_take (i := 14) (oi := ({ dst := some 25, op := Go.Op.build 34 #[(0, Go.Operand.tmp 11), (1, Go.Operand.tmp 15), (2, Go.Operand.tmp 17), (3, Go.Operand.tmp 22), (4, Go.Operand.tmp 23), (8, Go.Operand.tmp 24)], type := 34, pos := "raft.go:177", after := #[{ on := 0, ground := Go.Ground.data }, { on := 4, ground := Go.Ground.data }, { on := 6, ground := Go.Ground.data }, { on := 11, ground := Go.Ground.data }, { on := 12, ground := Go.Ground.data }, { on := 13, ground := Go.Ground.data }], guard := none } : Oper)) (v := ?v14) rfl (by kernel_rfl) (by kernel_rfl) (by kernel_rfl) (fun _ _ _ h => h) (Or.inl ⟨by rfl, ?y14⟩) hHeld ?r14
  case y14 => (intro w hSw; try dsimp only at hSw); go_simp; try with_reducible rfl
  case r14 =>
  try simp only [Act.put, List.setIfInBounds_toArray, List.set_cons_zero, List.set_cons_succ]
  refine wpAnyH_ready (rs := [15]) (by kernel_rfl) (by simp) ?_
  refine AllReadyH.cons rfl (fun K hK => ?_) AllReadyH.nil
  go_simp
  refine hK.out _ _ ⟨keepc hlt x0, keepc hlt x2, keepc (by omega) x1⟩ (fun hHeld => ?_)
  clear hK K
  try simp only [Act.put, List.setIfInBounds_toArray, List.set_cons_zero, List.set_cons_succ]
  refine wpAnyH_ready (rs := [16]) (by kernel_rfl) (by simp) ?_
  refine AllReadyH.cons rfl (fun K hK => ?_) AllReadyH.nil
  go_simp
  refine hK.out _ _ hHeld (fun hHeld => ?_)
  clear hK K
  refine wpAnyH_done (by kernel_rfl) ?_ _
  go_wp2
  go_ret
  have ho := Out.one W (answerTo s m.src kind index ok) rfl
  have hb := hB.size
  rw [hsz] at ho hb
  exact ⟨_, rfl, ho.base hb, (hB.alloc hB.size _).drew⟩
end Rf
end Go.Proofs.Ytdacdkidjgbdoaa
