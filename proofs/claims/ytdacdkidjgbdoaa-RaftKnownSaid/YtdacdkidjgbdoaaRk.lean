/- The contract of raft's Tick: a server stands. -/
import Derived.Test.YtdacdkidjgbdoaaRj
set_option linter.unusedVariables false
set_option linter.unusedSimpArgs false
namespace Go.Proofs.Ytdacdkidjgbdoaa
open Go Go.RowKit
namespace Rf
attribute [local go_sem ↓] Go.wp_at_zero Go.wp_at_succ

theorem Fit.stand {s : Srv} (h : Fit s) : Fit (stand s) := ⟨h.nodes, h.len, h.commit, h.mat, h.next⟩
theorem shl_id {n : Nat} (h : n < 7) : IntKind.u64.wrap (2 ^ n) = ((2 ^ n : Nat) : Int) := by
  rcases (by omega : n = 0 ∨ n = 1 ∨ n = 2 ∨ n = 3 ∨ n = 4 ∨ n = 5 ∨ n = 6) with rfl | rfl | rfl | rfl | rfl | rfl | rfl <;> decide

def StandPost (g : Nat) (s : Srv) (v : Value) (w : World) (e : Ending) (w' : World) : Prop := ∃ out, e = .returned out ∧ Did g v w (if s.nodes = 1 then leadS (stand s) else stand s) (if s.nodes = 1 then outs (sendTo (leadS (stand s))) s.id s.nodes else outs (askTo (stand s)) s.id s.nodes) out w'

set_option maxRecDepth 100000 in
set_option maxHeartbeats 2000000 in
theorem tick_stand (g : Nat) (s : Srv) (v : Value) (hk : Ok s) (hr : s.role ≠ 2) (ht : s.term ≠ 1152921504606846976) (w : World) (h : Is w g s v) :
    Calls Try.prog 9 #[.pointer (some ⟨g, 0, none⟩)] w (StandPost g s v w) := by
  have hB := (Below.refl _ w).alloc (Nat.le_refl _) (.cells #[.pointer (some ⟨g, 0, none⟩)] 22)
  have h1 := h.below hB
  have hn := hk.nodes
  have hid := hk.id
  have htm := hk.term
  have F := hk.fit
  obtain ⟨c3, f3⟩ := h.role
  obtain ⟨c2, f2⟩ := h.term
  obtain ⟨c0, f0⟩ := h.id
  obtain ⟨c1, f1⟩ := h.nodes
  obtain ⟨c4, f4⟩ := h.vote
  obtain ⟨c6, f6⟩ := h.leader
  obtain ⟨c8, f8⟩ := h.voters
  have hlt := h.lt
  have d1 : ((s.role : Int) == 2) = false := by simp; omega
  have d2 : (s.term == 1152921504606846976) = false := by simp; exact ht
  have hid7 : (s.id : Int) < 64 := by omega
  have hsh := shl_id (n := s.id) (by omega)
  have j1 := h.set (s' := { s with term := s.term + 1 }) rfl 2 (.int .i64 (s.term + 1)) rfl
  have o1 := (Only.set (S := fun k => k = g) (Only.refl _ w) (p := ⟨g, 2, none⟩) (.inl rfl) (.int .i64 (s.term + 1))).alloc (.cells #[.pointer (some ⟨g, 0, none⟩)] 22)
  have i1 := j1.below ((Below.refl _ _).alloc (Nat.le_refl _) (.cells #[.pointer (some ⟨g, 0, none⟩)] 22))
  have hb2 := heap_alloc_new (w.setCell ⟨g, 2, none⟩ (.int .i64 (s.term + 1))) (.cells #[.pointer (some ⟨g, 0, none⟩)] 22)
  rw [show (w.setCell ⟨g, 2, none⟩ (.int .i64 (s.term + 1))).heap.size = w.heap.size from by simp [World.setCell]] at hb2
  clear hr ht
  go_enter Try.func9, Try.ntmps9
  go_wp2_with fail
  refine (made1 g s v true _ h1 (by simp; omega)).mono ?_
  rintro e w1 ⟨rfl, rfl⟩
  go_wp2_with fail
  generalize ((w.setCell ⟨g, 2, none⟩ (.int .i64 (s.term + 1))).alloc (.cells #[.pointer (some ⟨g, 0, none⟩)] 22)) = W at *
  have bx : W.cell? ⟨w.heap.size, 0, none⟩ = some (.pointer (some ⟨g, 0, none⟩)) := by simp [World.cell?, hb2]
  clear c0 f0 c1 f1 c2 f2 c3 f3 c4 f4 c6 f6 c8 f8
  obtain ⟨c3, f3⟩ := i1.role
  obtain ⟨c0, f0⟩ := i1.id
  obtain ⟨c1, f1⟩ := i1.nodes
  obtain ⟨c4, f4⟩ := i1.vote
  obtain ⟨c6, f6⟩ := i1.leader
  obtain ⟨c8, f8⟩ := i1.voters
  refine wp_region_held_drew (S := (fun w' => w'.cell? ⟨w.heap.size, 0, none⟩ = some (.pointer (some ⟨g, 0, none⟩)) ∧ w'.cell? ⟨g, 0, none⟩ = some (.int .i64 s.id))) (by kernel_rfl) ⟨bx, c0⟩ (fun hHeld => ?_)
  refine' wpAnyH_take (i := 0) (oi := ({ dst := some 33, op := Go.Op.load 22 (Go.Operand.tmp 1), type := 22, pos := "raft.go:129", after := #[], guard := none } : Oper)) (v := ?v0) rfl (by kernel_rfl) (by kernel_rfl) (by kernel_rfl) (fun _ _ _ h => h) (Or.inl ⟨by rfl, ?y0⟩) hHeld ?r0
  case y0 => (intro w hSw; try dsimp only at hSw); go_simp; try with_reducible rfl
  case r0 =>
  try simp only [Act.put, List.setIfInBounds_toArray, List.set_cons_zero, List.set_cons_succ]
  refine' wpAnyH_take (i := 1) (oi := ({ dst := some 34, op := Go.Op.load 22 (Go.Operand.tmp 1), type := 22, pos := "raft.go:129", after := #[{ on := 16, ground := Go.Ground.gcOnly Go.Departure.lateStores }], guard := none } : Oper)) (v := ?v1) rfl (by kernel_rfl) (by kernel_rfl) (by kernel_rfl) (fun _ _ _ h => h) (Or.inl ⟨by rfl, ?y1⟩) hHeld ?r1
  case y1 => (intro w hSw; try dsimp only at hSw); go_simp; try with_reducible rfl
  case r1 =>
  try simp only [Act.put, List.setIfInBounds_toArray, List.set_cons_zero, List.set_cons_succ]
  refine' wpAnyH_take (i := 2) (oi := ({ dst := some 35, op := Go.Op.load 22 (Go.Operand.tmp 1), type := 22, pos := "raft.go:129", after := #[{ on := 19, ground := Go.Ground.gcOnly Go.Departure.lateStores }], guard := none } : Oper)) (v := ?v2) rfl (by kernel_rfl) (by kernel_rfl) (by kernel_rfl) (fun _ _ _ h => h) (Or.inl ⟨by rfl, ?y2⟩) hHeld ?r2
  case y2 => (intro w hSw; try dsimp only at hSw); go_simp; try with_reducible rfl
  case r2 =>
  try simp only [Act.put, List.setIfInBounds_toArray, List.set_cons_zero, List.set_cons_succ]
  refine' wpAnyH_take (i := 3) (oi := ({ dst := some 36, op := Go.Op.load 22 (Go.Operand.tmp 1), type := 22, pos := "raft.go:129", after := #[{ on := 22, ground := Go.Ground.gcOnly Go.Departure.lateStores }], guard := none } : Oper)) (v := ?v3) rfl (by kernel_rfl) (by kernel_rfl) (by kernel_rfl) (fun _ _ _ h => h) (Or.inl ⟨by rfl, ?y3⟩) hHeld ?r3
  case y3 => (intro w hSw; try dsimp only at hSw); go_simp; try with_reducible rfl
  case r3 =>
  try simp only [Act.put, List.setIfInBounds_toArray, List.set_cons_zero, List.set_cons_succ]
  refine' wpAnyH_take (i := 4) (oi := ({ dst := some 37, op := Go.Op.load 22 (Go.Operand.tmp 1), type := 22, pos := "raft.go:129", after := #[], guard := none } : Oper)) (v := ?v4) rfl (by kernel_rfl) (by kernel_rfl) (by kernel_rfl) (fun _ _ _ h => h) (Or.inl ⟨by rfl, ?y4⟩) hHeld ?r4
  case y4 => (intro w hSw; try dsimp only at hSw); go_simp; try with_reducible rfl
  case r4 =>
  try simp only [Act.put, List.setIfInBounds_toArray, List.set_cons_zero, List.set_cons_succ]
  refine' wpAnyH_take (i := 5) (oi := ({ dst := some 38, op := Go.Op.nilCheck (Go.Operand.tmp 37), type := 0, pos := "raft.go:129", after := #[{ on := 4, ground := Go.Ground.data }], guard := none } : Oper)) (v := ?v5) rfl (by kernel_rfl) (by kernel_rfl) (by kernel_rfl) (fun _ _ _ h => h) (Or.inl ⟨by rfl, ?y5⟩) hHeld ?r5
  case y5 => (intro w hSw; try dsimp only at hSw); go_simp; try with_reducible rfl
  case r5 =>
  try simp only [Act.put, List.setIfInBounds_toArray, List.set_cons_zero, List.set_cons_succ]
  refine' wpAnyH_take (i := 6) (oi := ({ dst := some 39, op := Go.Op.fieldAddr 74 (Go.Operand.tmp 38) 0, type := 0, pos := "raft.go:129", after := #[{ on := 5, ground := Go.Ground.data }], guard := none } : Oper)) (v := ?v6) rfl (by kernel_rfl) (by kernel_rfl) (by kernel_rfl) (fun _ _ _ h => h) (Or.inl ⟨by rfl, ?y6⟩) hHeld ?r6
  case y6 => (intro w hSw; try dsimp only at hSw); go_simp; try with_reducible rfl
  case r6 =>
  try simp only [Act.put, List.setIfInBounds_toArray, List.set_cons_zero, List.set_cons_succ]
  refine' wpAnyH_take (i := 7) (oi := ({ dst := some 40, op := Go.Op.load 3 (Go.Operand.tmp 39), type := 3, pos := "raft.go:129", after := #[{ on := 6, ground := Go.Ground.data }], guard := none } : Oper)) (v := ?v7) rfl (by kernel_rfl) (by kernel_rfl) (by kernel_rfl) (fun _ _ _ h => h) (Or.inl ⟨by rfl, ?y7⟩) hHeld ?r7
  case y7 => (intro w hSw; try dsimp only at hSw); go_simp; try with_reducible rfl
  case r7 =>
  try simp only [Act.put, List.setIfInBounds_toArray, List.set_cons_zero, List.set_cons_succ]
  refine' wpAnyH_take (i := 8) (oi := ({ dst := some 41, op := Go.Op.load 22 (Go.Operand.tmp 1), type := 22, pos := "raft.go:129", after := #[], guard := none } : Oper)) (v := ?v8) rfl (by kernel_rfl) (by kernel_rfl) (by kernel_rfl) (fun _ _ _ h => h) (Or.inl ⟨by rfl, ?y8⟩) hHeld ?r8
  case y8 => (intro w hSw; try dsimp only at hSw); go_simp; try with_reducible rfl
  case r8 =>
  try simp only [Act.put, List.setIfInBounds_toArray, List.set_cons_zero, List.set_cons_succ]
  refine' wpAnyH_take (i := 9) (oi := ({ dst := some 42, op := Go.Op.nilCheck (Go.Operand.tmp 41), type := 0, pos := "raft.go:129", after := #[{ on := 8, ground := Go.Ground.data }], guard := none } : Oper)) (v := ?v9) rfl (by kernel_rfl) (by kernel_rfl) (by kernel_rfl) (fun _ _ _ h => h) (Or.inl ⟨by rfl, ?y9⟩) hHeld ?r9
  case y9 => (intro w hSw; try dsimp only at hSw); go_simp; try with_reducible rfl
  case r9 =>
  try simp only [Act.put, List.setIfInBounds_toArray, List.set_cons_zero, List.set_cons_succ]
  refine' wpAnyH_take (i := 10) (oi := ({ dst := some 43, op := Go.Op.fieldAddr 74 (Go.Operand.tmp 42) 0, type := 0, pos := "raft.go:129", after := #[{ on := 9, ground := Go.Ground.data }], guard := none } : Oper)) (v := ?v10) rfl (by kernel_rfl) (by kernel_rfl) (by kernel_rfl) (fun _ _ _ h => h) (Or.inl ⟨by rfl, ?y10⟩) hHeld ?r10
  case y10 => (intro w hSw; try dsimp only at hSw); go_simp; try with_reducible rfl
  case r10 =>
  try simp only [Act.put, List.setIfInBounds_toArray, List.set_cons_zero, List.set_cons_succ]
  refine' wpAnyH_take (i := 11) (oi := ({ dst := some 44, op := Go.Op.load 3 (Go.Operand.tmp 43), type := 3, pos := "raft.go:129", after := #[{ on := 10, ground := Go.Ground.data }], guard := none } : Oper)) (v := ?v11) rfl (by kernel_rfl) (by kernel_rfl) (by kernel_rfl) (fun _ _ _ h => h) (Or.inl ⟨by rfl, ?y11⟩) hHeld ?r11
  case y11 => (intro w hSw; try dsimp only at hSw); go_simp; try with_reducible rfl
  case r11 =>
  try simp only [Act.put, List.setIfInBounds_toArray, List.set_cons_zero, List.set_cons_succ]
  refine' wpAnyH_take (i := 12) (oi := ({ dst := some 45, op := Go.Op.binOp Go.BinOp.shl 72 (Go.Operand.const (Go.Value.int Go.IntKind.u64 1)) (Go.Operand.tmp 44) 3, type := 72, pos := "raft.go:129", after := #[{ on := 11, ground := Go.Ground.data }], guard := none } : Oper)) (v := ?v12) rfl (by kernel_rfl) (by kernel_rfl) (by kernel_rfl) (fun _ _ _ h => h) (Or.inl ⟨by rfl, ?y12⟩) hHeld ?r12
  case y12 => (intro w hSw; try dsimp only at hSw); go_simp; try with_reducible rfl
  case r12 =>
  try simp only [Act.put, List.setIfInBounds_toArray, List.set_cons_zero, List.set_cons_succ]
  refine' wpAnyH_take (i := 13) (oi := ({ dst := some 46, op := Go.Op.nilCheck (Go.Operand.tmp 33), type := 0, pos := "raft.go:129", after := #[{ on := 0, ground := Go.Ground.data }, { on := 0, ground := Go.Ground.phase }, { on := 1, ground := Go.Ground.textOnly Go.Departure.lateStores }, { on := 2, ground := Go.Ground.textOnly Go.Departure.lateStores }, { on := 3, ground := Go.Ground.textOnly Go.Departure.lateStores }, { on := 4, ground := Go.Ground.phase }, { on := 5, ground := Go.Ground.phase }, { on := 6, ground := Go.Ground.phase }, { on := 7, ground := Go.Ground.phase }, { on := 8, ground := Go.Ground.textOnly Go.Departure.lateStores }, { on := 9, ground := Go.Ground.textOnly Go.Departure.lateStoresUnsure }, { on := 10, ground := Go.Ground.textOnly Go.Departure.lateStoresUnsure }, { on := 11, ground := Go.Ground.phase }, { on := 12, ground := Go.Ground.textOnly Go.Departure.lateStoresUnsure }], guard := none } : Oper)) (v := ?v13) rfl (by kernel_rfl) (by kernel_rfl) (by kernel_rfl) (fun _ _ _ h => h) (Or.inl ⟨by rfl, ?y13⟩) hHeld ?r13
  case y13 => (intro w hSw; try dsimp only at hSw); go_simp; try with_reducible rfl
  case r13 =>
  try simp only [Act.put, List.setIfInBounds_toArray, List.set_cons_zero, List.set_cons_succ]
  refine' wpAnyH_take (i := 14) (oi := ({ dst := some 47, op := Go.Op.fieldAddr 74 (Go.Operand.tmp 46) 2, type := 0, pos := "raft.go:129", after := #[{ on := 13, ground := Go.Ground.data }, { on := 0, ground := Go.Ground.phase }, { on := 1, ground := Go.Ground.textOnly Go.Departure.lateStores }, { on := 2, ground := Go.Ground.textOnly Go.Departure.lateStores }, { on := 3, ground := Go.Ground.textOnly Go.Departure.lateStores }, { on := 4, ground := Go.Ground.phase }, { on := 5, ground := Go.Ground.phase }, { on := 6, ground := Go.Ground.phase }, { on := 7, ground := Go.Ground.phase }, { on := 8, ground := Go.Ground.textOnly Go.Departure.lateStores }, { on := 9, ground := Go.Ground.textOnly Go.Departure.lateStoresUnsure }, { on := 10, ground := Go.Ground.textOnly Go.Departure.lateStoresUnsure }, { on := 11, ground := Go.Ground.phase }, { on := 12, ground := Go.Ground.textOnly Go.Departure.lateStoresUnsure }], guard := none } : Oper)) (v := ?v14) rfl (by kernel_rfl) (by kernel_rfl) (by kernel_rfl) (fun _ _ _ h => h) (Or.inl ⟨by rfl, ?y14⟩) hHeld ?r14
  case y14 => (intro w hSw; try dsimp only at hSw); go_simp; try with_reducible rfl
  case r14 =>
  try simp only [Act.put, List.setIfInBounds_toArray, List.set_cons_zero, List.set_cons_succ]
  refine' wpAnyH_take (i := 15) (oi := ({ dst := some 48, op := Go.Op.fieldAddr 29 (Go.Operand.tmp 47) 1, type := 0, pos := "raft.go:129", after := #[{ on := 14, ground := Go.Ground.data }, { on := 0, ground := Go.Ground.phase }, { on := 1, ground := Go.Ground.textOnly Go.Departure.lateStores }, { on := 2, ground := Go.Ground.textOnly Go.Departure.lateStores }, { on := 3, ground := Go.Ground.textOnly Go.Departure.lateStores }, { on := 4, ground := Go.Ground.phase }, { on := 5, ground := Go.Ground.phase }, { on := 6, ground := Go.Ground.phase }, { on := 7, ground := Go.Ground.phase }, { on := 8, ground := Go.Ground.textOnly Go.Departure.lateStores }, { on := 9, ground := Go.Ground.textOnly Go.Departure.lateStoresUnsure }, { on := 10, ground := Go.Ground.textOnly Go.Departure.lateStoresUnsure }, { on := 11, ground := Go.Ground.phase }, { on := 12, ground := Go.Ground.textOnly Go.Departure.lateStoresUnsure }], guard := none } : Oper)) (v := ?v15) rfl (by kernel_rfl) (by kernel_rfl) (by kernel_rfl) (fun _ _ _ h => h) (Or.inl ⟨by rfl, ?y15⟩) hHeld ?r15
  case y15 => (intro w hSw; try dsimp only at hSw); go_simp; try with_reducible rfl
  case r15 =>
  try simp only [Act.put, List.setIfInBounds_toArray, List.set_cons_zero, List.set_cons_succ]
  refine wpAnyH_ready (rs := [16]) (by kernel_rfl) (by simp) ?_
  refine AllReadyH.cons rfl (fun K hK => ?_) AllReadyH.nil
  go_simp
  refine hK.out _ _ (by constructor <;> go_simp) (fun hHeld => ?_)
  clear hK K
  try simp only [Act.put, List.setIfInBounds_toArray, List.set_cons_zero, List.set_cons_succ]
  refine' wpAnyH_take (i := 17) (oi := ({ dst := some 49, op := Go.Op.nilCheck (Go.Operand.tmp 34), type := 0, pos := "raft.go:129", after := #[{ on := 1, ground := Go.Ground.data }, { on := 0, ground := Go.Ground.phase }, { on := 1, ground := Go.Ground.phase }, { on := 2, ground := Go.Ground.textOnly Go.Departure.lateStores }, { on := 3, ground := Go.Ground.textOnly Go.Departure.lateStores }, { on := 4, ground := Go.Ground.phase }, { on := 5, ground := Go.Ground.phase }, { on := 6, ground := Go.Ground.phase }, { on := 7, ground := Go.Ground.phase }, { on := 8, ground := Go.Ground.textOnly Go.Departure.lateStores }, { on := 9, ground := Go.Ground.textOnly Go.Departure.lateStoresUnsure }, { on := 10, ground := Go.Ground.textOnly Go.Departure.lateStoresUnsure }, { on := 11, ground := Go.Ground.phase }, { on := 12, ground := Go.Ground.textOnly Go.Departure.lateStoresUnsure }, { on := 13, ground := Go.Ground.phase }, { on := 14, ground := Go.Ground.phase }, { on := 15, ground := Go.Ground.phase }, { on := 16, ground := Go.Ground.phase }], guard := none } : Oper)) (v := ?v17) rfl (by kernel_rfl) (by kernel_rfl) (by kernel_rfl) (fun _ _ _ h => h) (Or.inl ⟨by rfl, ?y17⟩) hHeld ?r17
  case y17 => (intro w hSw; try dsimp only at hSw); go_simp; try with_reducible rfl
  case r17 =>
  try simp only [Act.put, List.setIfInBounds_toArray, List.set_cons_zero, List.set_cons_succ]
  refine' wpAnyH_take (i := 18) (oi := ({ dst := some 50, op := Go.Op.fieldAddr 74 (Go.Operand.tmp 49) 3, type := 0, pos := "raft.go:129", after := #[{ on := 17, ground := Go.Ground.data }, { on := 0, ground := Go.Ground.phase }, { on := 1, ground := Go.Ground.phase }, { on := 2, ground := Go.Ground.textOnly Go.Departure.lateStores }, { on := 3, ground := Go.Ground.textOnly Go.Departure.lateStores }, { on := 4, ground := Go.Ground.phase }, { on := 5, ground := Go.Ground.phase }, { on := 6, ground := Go.Ground.phase }, { on := 7, ground := Go.Ground.phase }, { on := 8, ground := Go.Ground.textOnly Go.Departure.lateStores }, { on := 9, ground := Go.Ground.textOnly Go.Departure.lateStoresUnsure }, { on := 10, ground := Go.Ground.textOnly Go.Departure.lateStoresUnsure }, { on := 11, ground := Go.Ground.phase }, { on := 12, ground := Go.Ground.textOnly Go.Departure.lateStoresUnsure }, { on := 13, ground := Go.Ground.phase }, { on := 14, ground := Go.Ground.phase }, { on := 15, ground := Go.Ground.phase }, { on := 16, ground := Go.Ground.phase }], guard := none } : Oper)) (v := ?v18) rfl (by kernel_rfl) (by kernel_rfl) (by kernel_rfl) (fun _ _ _ h => h) (Or.inl ⟨by rfl, ?y18⟩) hHeld ?r18
  case y18 => (intro w hSw; try dsimp only at hSw); go_simp; try with_reducible rfl
  case r18 =>
  try simp only [Act.put, List.setIfInBounds_toArray, List.set_cons_zero, List.set_cons_succ]
  refine wpAnyH_ready (rs := [19]) (by kernel_rfl) (by simp) ?_
  refine AllReadyH.cons rfl (fun K hK => ?_) AllReadyH.nil
  go_simp
  refine hK.out _ _ (by constructor <;> go_simp) (fun hHeld => ?_)
  clear hK K
  try simp only [Act.put, List.setIfInBounds_toArray, List.set_cons_zero, List.set_cons_succ]
  refine' wpAnyH_take (i := 20) (oi := ({ dst := some 51, op := Go.Op.nilCheck (Go.Operand.tmp 35), type := 0, pos := "raft.go:129", after := #[{ on := 2, ground := Go.Ground.data }, { on := 0, ground := Go.Ground.phase }, { on := 1, ground := Go.Ground.phase }, { on := 2, ground := Go.Ground.phase }, { on := 3, ground := Go.Ground.textOnly Go.Departure.lateStores }, { on := 4, ground := Go.Ground.phase }, { on := 5, ground := Go.Ground.phase }, { on := 6, ground := Go.Ground.phase }, { on := 7, ground := Go.Ground.phase }, { on := 8, ground := Go.Ground.textOnly Go.Departure.lateStores }, { on := 9, ground := Go.Ground.textOnly Go.Departure.lateStoresUnsure }, { on := 10, ground := Go.Ground.textOnly Go.Departure.lateStoresUnsure }, { on := 11, ground := Go.Ground.phase }, { on := 12, ground := Go.Ground.textOnly Go.Departure.lateStoresUnsure }, { on := 13, ground := Go.Ground.phase }, { on := 14, ground := Go.Ground.phase }, { on := 15, ground := Go.Ground.phase }, { on := 16, ground := Go.Ground.phase }, { on := 17, ground := Go.Ground.phase }, { on := 18, ground := Go.Ground.phase }, { on := 19, ground := Go.Ground.phase }], guard := none } : Oper)) (v := ?v20) rfl (by kernel_rfl) (by kernel_rfl) (by kernel_rfl) (fun _ _ _ h => h) (Or.inl ⟨by rfl, ?y20⟩) hHeld ?r20
  case y20 => (intro w hSw; try dsimp only at hSw); go_simp; try with_reducible rfl
  case r20 =>
  try simp only [Act.put, List.setIfInBounds_toArray, List.set_cons_zero, List.set_cons_succ]
  refine' wpAnyH_take (i := 21) (oi := ({ dst := some 52, op := Go.Op.fieldAddr 74 (Go.Operand.tmp 51) 4, type := 0, pos := "raft.go:129", after := #[{ on := 20, ground := Go.Ground.data }, { on := 0, ground := Go.Ground.phase }, { on := 1, ground := Go.Ground.phase }, { on := 2, ground := Go.Ground.phase }, { on := 3, ground := Go.Ground.textOnly Go.Departure.lateStores }, { on := 4, ground := Go.Ground.phase }, { on := 5, ground := Go.Ground.phase }, { on := 6, ground := Go.Ground.phase }, { on := 7, ground := Go.Ground.phase }, { on := 8, ground := Go.Ground.textOnly Go.Departure.lateStores }, { on := 9, ground := Go.Ground.textOnly Go.Departure.lateStoresUnsure }, { on := 10, ground := Go.Ground.textOnly Go.Departure.lateStoresUnsure }, { on := 11, ground := Go.Ground.phase }, { on := 12, ground := Go.Ground.textOnly Go.Departure.lateStoresUnsure }, { on := 13, ground := Go.Ground.phase }, { on := 14, ground := Go.Ground.phase }, { on := 15, ground := Go.Ground.phase }, { on := 16, ground := Go.Ground.phase }, { on := 17, ground := Go.Ground.phase }, { on := 18, ground := Go.Ground.phase }, { on := 19, ground := Go.Ground.phase }], guard := none } : Oper)) (v := ?v21) rfl (by kernel_rfl) (by kernel_rfl) (by kernel_rfl) (fun _ _ _ h => h) (Or.inl ⟨by rfl, ?y21⟩) hHeld ?r21
  case y21 => (intro w hSw; try dsimp only at hSw); go_simp; try with_reducible rfl
  case r21 =>
  try simp only [Act.put, List.setIfInBounds_toArray, List.set_cons_zero, List.set_cons_succ]
  refine wpAnyH_ready (rs := [22]) (by kernel_rfl) (by simp) ?_
  refine AllReadyH.cons rfl (fun K hK => ?_) AllReadyH.nil
  go_simp
  refine hK.out _ _ (by constructor <;> go_simp) (fun hHeld => ?_)
  clear hK K
  try simp only [Act.put, List.setIfInBounds_toArray, List.set_cons_zero, List.set_cons_succ]
  refine' wpAnyH_take (i := 23) (oi := ({ dst := some 53, op := Go.Op.nilCheck (Go.Operand.tmp 36), type := 0, pos := "raft.go:129", after := #[{ on := 3, ground := Go.Ground.data }, { on := 0, ground := Go.Ground.phase }, { on := 1, ground := Go.Ground.phase }, { on := 2, ground := Go.Ground.phase }, { on := 3, ground := Go.Ground.phase }, { on := 4, ground := Go.Ground.phase }, { on := 5, ground := Go.Ground.phase }, { on := 6, ground := Go.Ground.phase }, { on := 7, ground := Go.Ground.phase }, { on := 8, ground := Go.Ground.phase }, { on := 9, ground := Go.Ground.phase }, { on := 10, ground := Go.Ground.phase }, { on := 11, ground := Go.Ground.phase }, { on := 12, ground := Go.Ground.phase }, { on := 13, ground := Go.Ground.phase }, { on := 14, ground := Go.Ground.phase }, { on := 15, ground := Go.Ground.phase }, { on := 16, ground := Go.Ground.phase }, { on := 17, ground := Go.Ground.phase }, { on := 18, ground := Go.Ground.phase }, { on := 19, ground := Go.Ground.phase }, { on := 20, ground := Go.Ground.phase }, { on := 21, ground := Go.Ground.phase }, { on := 22, ground := Go.Ground.phase }], guard := none } : Oper)) (v := ?v23) rfl (by kernel_rfl) (by kernel_rfl) (by kernel_rfl) (fun _ _ _ h => h) (Or.inl ⟨by rfl, ?y23⟩) hHeld ?r23
  case y23 => (intro w hSw; try dsimp only at hSw); go_simp; try with_reducible rfl
  case r23 =>
  try simp only [Act.put, List.setIfInBounds_toArray, List.set_cons_zero, List.set_cons_succ]
  refine' wpAnyH_take (i := 24) (oi := ({ dst := some 54, op := Go.Op.fieldAddr 74 (Go.Operand.tmp 53) 6, type := 0, pos := "raft.go:129", after := #[{ on := 23, ground := Go.Ground.data }, { on := 0, ground := Go.Ground.phase }, { on := 1, ground := Go.Ground.phase }, { on := 2, ground := Go.Ground.phase }, { on := 3, ground := Go.Ground.phase }, { on := 4, ground := Go.Ground.phase }, { on := 5, ground := Go.Ground.phase }, { on := 6, ground := Go.Ground.phase }, { on := 7, ground := Go.Ground.phase }, { on := 8, ground := Go.Ground.phase }, { on := 9, ground := Go.Ground.phase }, { on := 10, ground := Go.Ground.phase }, { on := 11, ground := Go.Ground.phase }, { on := 12, ground := Go.Ground.phase }, { on := 13, ground := Go.Ground.phase }, { on := 14, ground := Go.Ground.phase }, { on := 15, ground := Go.Ground.phase }, { on := 16, ground := Go.Ground.phase }, { on := 17, ground := Go.Ground.phase }, { on := 18, ground := Go.Ground.phase }, { on := 19, ground := Go.Ground.phase }, { on := 20, ground := Go.Ground.phase }, { on := 21, ground := Go.Ground.phase }, { on := 22, ground := Go.Ground.phase }], guard := none } : Oper)) (v := ?v24) rfl (by kernel_rfl) (by kernel_rfl) (by kernel_rfl) (fun _ _ _ h => h) (Or.inl ⟨by rfl, ?y24⟩) hHeld ?r24
  case y24 => (intro w hSw; try dsimp only at hSw); go_simp; try with_reducible rfl
  case r24 =>
  try simp only [Act.put, List.setIfInBounds_toArray, List.set_cons_zero, List.set_cons_succ]
  refine wpAnyH_ready (rs := [25]) (by kernel_rfl) (by simp) ?_
  refine AllReadyH.cons rfl (fun K hK => ?_) AllReadyH.nil
  go_simp
  refine hK.out _ _ (by constructor <;> go_simp) (fun hHeld => ?_)
  clear hK K
  refine wpAnyH_done (by kernel_rfl) ?_ _
  try simp only [Act.put]
  go_simp
  have i2 : Is _ g (stand s) v := ((((i1.set (s' := { s with term := s.term + 1, vote := s.id }) rfl 3 (.int .i64 s.id) rfl).set (s' := { s with term := s.term + 1, vote := s.id, role := 1 }) rfl 5 (.int .u8 1) rfl).set (s' := { s with term := s.term + 1, vote := s.id, role := 1, leader := -1 }) rfl 6 (.int .i64 (-1)) rfl).set (s' := stand s) rfl 8 (.int .u64 (2 ^ s.id : Nat)) rfl).drewN 1
  have o2 := ((((o1.set (p := ⟨g, 3, none⟩) (.inl rfl) (.int .i64 s.id)).set (p := ⟨g, 5, none⟩) (.inl rfl) (.int .u8 1)).set (p := ⟨g, 6, none⟩) (.inl rfl) (.int .i64 (-1))).set (p := ⟨g, 8, none⟩) (.inl rfl) (.int .u64 (2 ^ s.id : Nat))).drewN 1
  push_cast at i2 o2
  clear i1 o1 hb2 bx c0 f0 c1 f1 c3 f3 c4 f4 c6 f6 c8 f8 hsh
  have i3 := i2
  generalize hW2 : World.drewN ((((W.setCell ⟨g, 3, none⟩ (.int .i64 s.id)).setCell ⟨g, 5, none⟩ (.int .u8 1)).setCell ⟨g, 6, none⟩ (.int .i64 (-1))).setCell ⟨g, 8, none⟩ (.int .u64 (2 ^ s.id))) 1 = W2 at i2 o2
  have hW3 : ((((W.setCell ⟨g, 3, none⟩ (.int .i64 s.id)).setCell ⟨g, 5, none⟩ (.int .u8 1)).setCell ⟨g, 6, none⟩ (.int .i64 (-1))).setCell ⟨g, 8, none⟩ (.int .u64 (2 ^ s.id))).drew = W2 := hW2
  rw [hW3] at hHeld ⊢
  clear hW3 hW2 i3
  obtain ⟨bx, c0⟩ := hHeld
  have c1 : W2.cell? ⟨g, 1, none⟩ = some (.int .i64 s.nodes) := i2.nodes.1
  have F2 := F.stand
  have hs2 := o2.size
  by_cases h1n : s.nodes = 1
  · have b1 : ((s.nodes : Int) == 1) = true := by simp [h1n]
    have HN := Lib.hid h1n
    clear h1n
    go_wp2_with fail
    refine (lead_is g (stand s) v F2 _ i2).mono ?_
    rintro e w3 ⟨out, rfl, hD⟩
    go_wp2_with fail
    go_ret
    refine ⟨out, rfl, ?_⟩
    rw [if_pos HN.out, if_pos HN.out]
    exact hD.below (o2.weak (fun _ e => .inl e)) (fun k hk => .inl hk) hlt
  · have b1 : ((s.nodes : Int) == 1) = false := by simp; omega
    have HN := Lib.hid h1n
    clear h1n
    go_wp2_with fail
    refine (others_ask g w.heap.size (stand s) v F2 _ i2 bx).mono ?_
    rintro e w3 ⟨out, rfl, hO, hB3⟩
    go_wp2_with fail
    go_ret
    refine ⟨out, rfl, ?_⟩
    rw [if_neg HN.out, if_neg HN.out]
    exact (Did.quiet i2 hB3 hO).below (o2.weak (fun _ e => .inl e)) (fun k hk => .inl hk) hlt

theorem tick_is (g : Nat) (s : Srv) (v : Value) (hk : Ok s) (w : World) (h : Is w g s v) :
    Calls Try.prog 9 #[.pointer (some ⟨g, 0, none⟩)] w fun e w' => ∃ out, e = .returned out ∧ Did g v w (tickS s) (tickM s) out w' := by
  unfold tickS tickM
  by_cases h1 : s.role = 2
  · rw [if_pos (.inl h1), if_pos h1]
    exact tick_lead g s v hk h1 w h
  · by_cases h2 : s.term = 1152921504606846976
    · rw [if_pos (.inr h2), if_neg h1, if_pos h2]
      exact tick_last g s v hk h1 h2 w h
    · rw [if_neg (by rintro (e | e); exact h1 e; exact h2 e), if_neg h1, if_neg h2]
      exact tick_stand g s v hk h1 h2 w h

end Rf
end Go.Proofs.Ytdacdkidjgbdoaa
