/- The contract of raft's send. -/
import Derived.Test.YtdacdkidjgbdoaaUt
set_option linter.unusedVariables false
set_option linter.unusedSimpArgs false
namespace Go.Proofs.Ytdacdkidjgbdoaa
open Go Go.RowKit
namespace Rf
attribute [local go_sem ↓] Go.wp_at_zero Go.wp_at_succ

/-- a message -/
structure Msg where
  kind : Nat
  src : Int
  dst : Int
  term : Int
  index : Int
  logTerm : Int
  entries : List Ent
  commit : Int
  ok : Bool
/-- its cells, the entries being the slice v -/
def mc (m : Msg) (v : Value) : Array Value := #[.int .u8 m.kind, .int .i64 m.src, .int .i64 m.dst, .int .i64 m.term, .int .i64 m.index, .int .i64 m.logTerm, v, .int .i64 m.commit, .bool m.ok]

theorem mc_one (m : Msg) (a : Option Addr) (n c : Nat) : (mc m (.slice a n c)).all (·.oneCell') = true := by
  simp [mc, Value.oneCell']

theorem own_setCells {w : World} {base b t k n : Nat} {v : Value} {l : List Value} (hb : b < base) (vs : List Value) (h : w.ownsRow base t k v n l) : (w.setCells b 0 vs).ownsRow base t k v n l := by
  refine ⟨h.1, ?_⟩
  rcases h.2 with h2 | ⟨g, cap, cur, rfl, hk, hh, r⟩
  · exact .inl h2
  · exact .inr ⟨g, cap, cur, rfl, hk, (((only_setCells (S := fun k => k = b) b (.inl rfl) vs 0 (Only.refl _ w)).block g (Array.getElem?_eq_some_iff.1 hh).1 (by omega)).trans hh), r⟩

theorem es_nil (w : World) (a : Option Addr) : Es w a [] := ⟨fun _ => rfl, fun _ _ j u hu => by simp [ents] at hu⟩

def sendTo (s : Srv) (k : Nat) : Msg :=
  { kind := 3, src := s.id, dst := k, term := s.term, index := (s.next k : Int) - 1, logTerm := tat s.log (s.next k - 1), entries := (s.log.drop (s.next k - 1)).take 16, commit := s.commit, ok := false }

theorem keepS {w w' : World} {g c : Nat} {s : Srv} {a : Option Addr} (h : Is w g s (.slice a s.log.length c)) (hB : Below w.heap.size w w') :
    (Is w' g s (.slice a s.log.length c) ∧ Below w.heap.size w w') ∧ w'.cell? ⟨g, 0, none⟩ = some (.int .i64 s.id) ∧ w'.cell? ⟨g, 2, none⟩ = some (.int .i64 s.term) ∧ w'.cell? ⟨g, 4, none⟩ = some (.slice a s.log.length c) ∧ w'.cell? ⟨g, 7, none⟩ = some (.int .i64 s.commit) := by
  have h1 : Is w' g s (.slice a s.log.length c) := h.only (S := fun _ => False) (Only.of_below hB) (fun e => e) (fun _ _ e => e)
  exact ⟨⟨h1, hB⟩, h1.id.1, h1.term.1, h1.slog.1, h1.commit.1⟩

set_option maxRecDepth 100000 in
set_option maxHeartbeats 4000000 in
theorem send_a (g : Nat) (s : Srv) (v : Value) (k : Nat) (hk : k < 7) (hf : Fit s) (hn1 : 1 ≤ s.next k) (hn2 : s.next k ≤ s.log.length + 1) (w : World) (h : Is w g s v) (hm0 : s.next k - 1 + 16 < s.log.length) :
    Calls Try.prog 37 #[.pointer (some ⟨g, 0, none⟩), .int .i64 k] w fun e w' => ∃ v', e = .returned (.agg (mc (sendTo s k) v')) ∧ w'.ownsRow w.heap.size 39 2 v' (sendTo s k).entries.length (ents (sendTo s k).entries) ∧ Below w.heap.size w w' := by
  obtain ⟨a, c, rfl, hc, hm⟩ := h.slice
  obtain ⟨n0, -⟩ := h.nexts hk
  obtain ⟨c0, -⟩ := h.id
  obtain ⟨c2, -⟩ := h.term
  obtain ⟨c4, -⟩ := h.slog
  obtain ⟨c7, -⟩ := h.commit
  have hlt := h.lt
  have hB : Below w.heap.size w (w.alloc (.cells #[.int .u8 0, .int .i64 0, .int .i64 0, .int .i64 0, .int .i64 0, .int .i64 0, .slice none 0 0, .int .i64 0, .bool false] 34)) := (Below.refl _ w).alloc (Nat.le_refl _) _
  have h1 : Is (w.alloc (.cells #[.int .u8 0, .int .i64 0, .int .i64 0, .int .i64 0, .int .i64 0, .int .i64 0, .slice none 0 0, .int .i64 0, .bool false] 34)) g s (.slice a s.log.length c) := h.only (S := fun _ => False) (Only.of_below hB) (fun e => e) (fun _ _ e => e)
  have cl := last_is g s _ _ h1
  have hk2 : (k : Int) < 7 := by omega
  have hnx := hf.next k
  have hln := hf.len
  have hIs := h
  obtain ⟨n1, hn⟩ : ∃ n1, s.next k = n1 + 1 := ⟨s.next k - 1, by omega⟩
  rw [hn] at n0
  have hn3 : n1 ≤ s.log.length := by omega
  have hm1 : (n1 : Int) + 16 < s.log.length := by omega
  have hcn : ¬ c = n1 := by omega
  have hb1 : (n1 : Int) + 16 ≤ c := by omega
  have hb2 : (n1 : Int) ≤ n1 + 16 := by omega
  go_enter Try.func37, Try.ntmps37
  go_wp2_with fail
  refine cl.mono ?_
  rintro e w1 ⟨rfl, rfl⟩
  go_wp2_with fail
  have hmb := heap_alloc_new w (.cells #[.int .u8 0, .int .i64 0, .int .i64 0, .int .i64 0, .int .i64 0, .int .i64 0, .slice none 0 0, .int .i64 0, .bool false] 34)
  refine wp_region_held_drew (S := (fun w' => (Is w' g s (.slice a s.log.length c) ∧ Below w.heap.size w w') ∧ w'.cell? ⟨g, 0, none⟩ = some (.int .i64 s.id) ∧ w'.cell? ⟨g, 2, none⟩ = some (.int .i64 s.term) ∧ w'.cell? ⟨g, 4, none⟩ = some (.slice a s.log.length c) ∧ w'.cell? ⟨g, 7, none⟩ = some (.int .i64 s.commit))) (by kernel_rfl) (keepS hIs hB.drew) (fun hHeld => ?_)
  replace hmb : (w.alloc (.cells #[.int .u8 0, .int .i64 0, .int .i64 0, .int .i64 0, .int .i64 0, .int .i64 0, .slice none 0 0, .int .i64 0, .bool false] 34)).drew.heap[w.heap.size]? = _ := hmb
  generalize (w.alloc (.cells #[.int .u8 0, .int .i64 0, .int .i64 0, .int .i64 0, .int .i64 0, .int .i64 0, .slice none 0 0, .int .i64 0, .bool false] 34)).drew = W at hHeld hmb ⊢
  clear hB h1 cl
  refine' wpAnyH_take (i := 0) (oi := ({ dst := some 19, op := Go.Op.move (Go.Operand.tmp 0), type := 22, pos := "raft.go:86", after := #[], guard := none } : Oper)) (v := ?v0) rfl (by kernel_rfl) (by kernel_rfl) (by kernel_rfl) (fun _ _ _ h => h) (Or.inl ⟨by rfl, ?y0⟩) hHeld ?r0
  case y0 => (intro w hSw; try dsimp only at hSw); go_simp; try with_reducible rfl
  case r0 =>
  try simp only [Act.put, List.setIfInBounds_toArray, List.set_cons_zero, List.set_cons_succ]
  refine' wpAnyH_take (i := 1) (oi := ({ dst := some 20, op := Go.Op.nilCheck (Go.Operand.tmp 19), type := 0, pos := "raft.go:86", after := #[{ on := 0, ground := Go.Ground.data }], guard := none } : Oper)) (v := ?v1) rfl (by kernel_rfl) (by kernel_rfl) (by kernel_rfl) (fun _ _ _ h => h) (Or.inl ⟨by rfl, ?y1⟩) hHeld ?r1
  case y1 => (intro w hSw; try dsimp only at hSw); go_simp; try with_reducible rfl
  case r1 =>
  try simp only [Act.put, List.setIfInBounds_toArray, List.set_cons_zero, List.set_cons_succ]
  refine' wpAnyH_take (i := 2) (oi := ({ dst := some 21, op := Go.Op.fieldAddr 74 (Go.Operand.tmp 20) 0, type := 0, pos := "raft.go:86", after := #[{ on := 1, ground := Go.Ground.data }], guard := none } : Oper)) (v := ?v2) rfl (by kernel_rfl) (by kernel_rfl) (by kernel_rfl) (fun _ _ _ h => h) (Or.inl ⟨by rfl, ?y2⟩) hHeld ?r2
  case y2 => (intro w hSw; try dsimp only at hSw); go_simp; try with_reducible rfl
  case r2 =>
  try simp only [Act.put, List.setIfInBounds_toArray, List.set_cons_zero, List.set_cons_succ]
  refine' wpAnyH_take (i := 3) (oi := ({ dst := some 22, op := Go.Op.load 3 (Go.Operand.tmp 21), type := 3, pos := "raft.go:86", after := #[{ on := 2, ground := Go.Ground.data }], guard := none } : Oper)) (v := ?v3) rfl (by kernel_rfl) (by kernel_rfl) (by kernel_rfl) (fun _ _ _ h => h) (Or.inl ⟨by rfl, ?y3⟩) hHeld ?r3
  case y3 => (intro w hSw; try dsimp only at hSw); go_simp; try with_reducible rfl
  case r3 =>
  try simp only [Act.put, List.setIfInBounds_toArray, List.set_cons_zero, List.set_cons_succ]
  refine' wpAnyH_take (i := 4) (oi := ({ dst := some 23, op := Go.Op.move (Go.Operand.tmp 1), type := 3, pos := "raft.go:86", after := #[], guard := none } : Oper)) (v := ?v4) rfl (by kernel_rfl) (by kernel_rfl) (by kernel_rfl) (fun _ _ _ h => h) (Or.inl ⟨by rfl, ?y4⟩) hHeld ?r4
  case y4 => (intro w hSw; try dsimp only at hSw); go_simp; try with_reducible rfl
  case r4 =>
  try simp only [Act.put, List.setIfInBounds_toArray, List.set_cons_zero, List.set_cons_succ]
  refine' wpAnyH_take (i := 5) (oi := ({ dst := some 24, op := Go.Op.move (Go.Operand.tmp 0), type := 22, pos := "raft.go:86", after := #[], guard := none } : Oper)) (v := ?v5) rfl (by kernel_rfl) (by kernel_rfl) (by kernel_rfl) (fun _ _ _ h => h) (Or.inl ⟨by rfl, ?y5⟩) hHeld ?r5
  case y5 => (intro w hSw; try dsimp only at hSw); go_simp; try with_reducible rfl
  case r5 =>
  try simp only [Act.put, List.setIfInBounds_toArray, List.set_cons_zero, List.set_cons_succ]
  refine' wpAnyH_take (i := 6) (oi := ({ dst := some 25, op := Go.Op.nilCheck (Go.Operand.tmp 24), type := 0, pos := "raft.go:86", after := #[{ on := 5, ground := Go.Ground.data }], guard := none } : Oper)) (v := ?v6) rfl (by kernel_rfl) (by kernel_rfl) (by kernel_rfl) (fun _ _ _ h => h) (Or.inl ⟨by rfl, ?y6⟩) hHeld ?r6
  case y6 => (intro w hSw; try dsimp only at hSw); go_simp; try with_reducible rfl
  case r6 =>
  try simp only [Act.put, List.setIfInBounds_toArray, List.set_cons_zero, List.set_cons_succ]
  refine' wpAnyH_take (i := 7) (oi := ({ dst := some 26, op := Go.Op.fieldAddr 74 (Go.Operand.tmp 25) 2, type := 0, pos := "raft.go:86", after := #[{ on := 6, ground := Go.Ground.data }], guard := none } : Oper)) (v := ?v7) rfl (by kernel_rfl) (by kernel_rfl) (by kernel_rfl) (fun _ _ _ h => h) (Or.inl ⟨by rfl, ?y7⟩) hHeld ?r7
  case y7 => (intro w hSw; try dsimp only at hSw); go_simp; try with_reducible rfl
  case r7 =>
  try simp only [Act.put, List.setIfInBounds_toArray, List.set_cons_zero, List.set_cons_succ]
  refine' wpAnyH_take (i := 8) (oi := ({ dst := some 27, op := Go.Op.fieldAddr 29 (Go.Operand.tmp 26) 0, type := 0, pos := "raft.go:86", after := #[{ on := 7, ground := Go.Ground.data }], guard := none } : Oper)) (v := ?v8) rfl (by kernel_rfl) (by kernel_rfl) (by kernel_rfl) (fun _ _ _ h => h) (Or.inl ⟨by rfl, ?y8⟩) hHeld ?r8
  case y8 => (intro w hSw; try dsimp only at hSw); go_simp; try with_reducible rfl
  case r8 =>
  try simp only [Act.put, List.setIfInBounds_toArray, List.set_cons_zero, List.set_cons_succ]
  refine' wpAnyH_take (i := 9) (oi := ({ dst := some 28, op := Go.Op.load 2 (Go.Operand.tmp 27), type := 2, pos := "raft.go:86", after := #[{ on := 8, ground := Go.Ground.data }], guard := none } : Oper)) (v := ?v9) rfl (by kernel_rfl) (by kernel_rfl) (by kernel_rfl) (fun _ _ _ h => h) (Or.inl ⟨by rfl, ?y9⟩) hHeld ?r9
  case y9 => (intro w hSw; try dsimp only at hSw); go_simp; try with_reducible rfl
  case r9 =>
  try simp only [Act.put, List.setIfInBounds_toArray, List.set_cons_zero, List.set_cons_succ]
  refine' wpAnyH_take (i := 10) (oi := ({ dst := some 29, op := Go.Op.move (Go.Operand.tmp 5), type := 3, pos := "raft.go:86", after := #[], guard := none } : Oper)) (v := ?v10) rfl (by kernel_rfl) (by kernel_rfl) (by kernel_rfl) (fun _ _ _ h => h) (Or.inl ⟨by rfl, ?y10⟩) hHeld ?r10
  case y10 => (intro w hSw; try dsimp only at hSw); go_simp; try with_reducible rfl
  case r10 =>
  try simp only [Act.put, List.setIfInBounds_toArray, List.set_cons_zero, List.set_cons_succ]
  refine' wpAnyH_take (i := 11) (oi := ({ dst := some 30, op := Go.Op.move (Go.Operand.tmp 0), type := 22, pos := "raft.go:86", after := #[], guard := none } : Oper)) (v := ?v11) rfl (by kernel_rfl) (by kernel_rfl) (by kernel_rfl) (fun _ _ _ h => h) (Or.inl ⟨by rfl, ?y11⟩) hHeld ?r11
  case y11 => (intro w hSw; try dsimp only at hSw); go_simp; try with_reducible rfl
  case r11 =>
  try simp only [Act.put, List.setIfInBounds_toArray, List.set_cons_zero, List.set_cons_succ]
  refine' wpAnyH_take (i := 12) (oi := ({ dst := some 31, op := Go.Op.move (Go.Operand.tmp 5), type := 3, pos := "raft.go:86", after := #[], guard := none } : Oper)) (v := ?v12) rfl (by kernel_rfl) (by kernel_rfl) (by kernel_rfl) (fun _ _ _ h => h) (Or.inl ⟨by rfl, ?y12⟩) hHeld ?r12
  case y12 => (intro w hSw; try dsimp only at hSw); go_simp; try with_reducible rfl
  case r12 =>
  try simp only [Act.put, List.setIfInBounds_toArray, List.set_cons_zero, List.set_cons_succ]
  refine' wpAnyH_take (i := 14) (oi := ({ dst := some 33, op := Go.Op.move (Go.Operand.tmp 0), type := 22, pos := "raft.go:86", after := #[], guard := none } : Oper)) (v := ?v14) rfl (by kernel_rfl) (by kernel_rfl) (by kernel_rfl) (fun _ _ _ h => h) (Or.inl ⟨by rfl, ?y14⟩) hHeld ?r14
  case y14 => (intro w hSw; try dsimp only at hSw); go_simp; try with_reducible rfl
  case r14 =>
  try simp only [Act.put, List.setIfInBounds_toArray, List.set_cons_zero, List.set_cons_succ]
  refine' wpAnyH_take (i := 15) (oi := ({ dst := some 34, op := Go.Op.nilCheck (Go.Operand.tmp 33), type := 0, pos := "raft.go:86", after := #[{ on := 14, ground := Go.Ground.data }], guard := none } : Oper)) (v := ?v15) rfl (by kernel_rfl) (by kernel_rfl) (by kernel_rfl) (fun _ _ _ h => h) (Or.inl ⟨by rfl, ?y15⟩) hHeld ?r15
  case y15 => (intro w hSw; try dsimp only at hSw); go_simp; try with_reducible rfl
  case r15 =>
  try simp only [Act.put, List.setIfInBounds_toArray, List.set_cons_zero, List.set_cons_succ]
  refine' wpAnyH_take (i := 16) (oi := ({ dst := some 35, op := Go.Op.fieldAddr 74 (Go.Operand.tmp 34) 2, type := 0, pos := "raft.go:86", after := #[{ on := 15, ground := Go.Ground.data }], guard := none } : Oper)) (v := ?v16) rfl (by kernel_rfl) (by kernel_rfl) (by kernel_rfl) (fun _ _ _ h => h) (Or.inl ⟨by rfl, ?y16⟩) hHeld ?r16
  case y16 => (intro w hSw; try dsimp only at hSw); go_simp; try with_reducible rfl
  case r16 =>
  try simp only [Act.put, List.setIfInBounds_toArray, List.set_cons_zero, List.set_cons_succ]
  refine' wpAnyH_take (i := 17) (oi := ({ dst := some 36, op := Go.Op.fieldAddr 29 (Go.Operand.tmp 35) 2, type := 0, pos := "raft.go:86", after := #[{ on := 16, ground := Go.Ground.data }], guard := none } : Oper)) (v := ?v17) rfl (by kernel_rfl) (by kernel_rfl) (by kernel_rfl) (fun _ _ _ h => h) (Or.inl ⟨by rfl, ?y17⟩) hHeld ?r17
  case y17 => (intro w hSw; try dsimp only at hSw); go_simp; try with_reducible rfl
  case r17 =>
  try simp only [Act.put, List.setIfInBounds_toArray, List.set_cons_zero, List.set_cons_succ]
  refine' wpAnyH_take (i := 18) (oi := ({ dst := some 37, op := Go.Op.load 27 (Go.Operand.tmp 36), type := 27, pos := "raft.go:86", after := #[{ on := 17, ground := Go.Ground.data }], guard := none } : Oper)) (v := ?v18) rfl (by kernel_rfl) (by kernel_rfl) (by kernel_rfl) (fun _ _ _ h => h) (Or.inl ⟨by rfl, ?y18⟩) hHeld ?r18
  case y18 => (intro w hSw; try dsimp only at hSw); go_simp; try with_reducible rfl
  case r18 =>
  try simp only [Act.put, List.setIfInBounds_toArray, List.set_cons_zero, List.set_cons_succ]
  refine' wpAnyH_take (i := 19) (oi := ({ dst := some 38, op := Go.Op.move (Go.Operand.tmp 5), type := 3, pos := "raft.go:86", after := #[], guard := none } : Oper)) (v := ?v19) rfl (by kernel_rfl) (by kernel_rfl) (by kernel_rfl) (fun _ _ _ h => h) (Or.inl ⟨by rfl, ?y19⟩) hHeld ?r19
  case y19 => (intro w hSw; try dsimp only at hSw); go_simp; try with_reducible rfl
  case r19 =>
  try simp only [Act.put, List.setIfInBounds_toArray, List.set_cons_zero, List.set_cons_succ]
  refine' wpAnyH_take (i := 20) (oi := ({ dst := some 39, op := Go.Op.move (Go.Operand.tmp 6), type := 3, pos := "raft.go:86", after := #[], guard := none } : Oper)) (v := ?v20) rfl (by kernel_rfl) (by kernel_rfl) (by kernel_rfl) (fun _ _ _ h => h) (Or.inl ⟨by rfl, ?y20⟩) hHeld ?r20
  case y20 => (intro w hSw; try dsimp only at hSw); go_simp; try with_reducible rfl
  case r20 =>
  try simp only [Act.put, List.setIfInBounds_toArray, List.set_cons_zero, List.set_cons_succ]
  refine' wpAnyH_take (i := 21) (oi := ({ dst := some 40, op := Go.Op.slice 27 (Go.Operand.tmp 37) (some (Go.Operand.tmp 38)) (some (Go.Operand.tmp 39)) none, type := 27, pos := "raft.go:86", after := #[{ on := 18, ground := Go.Ground.data }, { on := 19, ground := Go.Ground.data }, { on := 20, ground := Go.Ground.data }], guard := none } : Oper)) (v := ?v21) rfl (by kernel_rfl) (by kernel_rfl) (by kernel_rfl) (fun _ _ _ h => h) (Or.inl ⟨by rfl, ?y21⟩) hHeld ?r21
  case y21 => (intro w hSw; try dsimp only at hSw); go_simp; try with_reducible rfl
  case r21 =>
  try simp only [Act.put, List.setIfInBounds_toArray, List.set_cons_zero, List.set_cons_succ]
  refine' wpAnyH_take (i := 23) (oi := ({ dst := some 42, op := Go.Op.move (Go.Operand.tmp 0), type := 22, pos := "raft.go:86", after := #[], guard := none } : Oper)) (v := ?v23) rfl (by kernel_rfl) (by kernel_rfl) (by kernel_rfl) (fun _ _ _ h => h) (Or.inl ⟨by rfl, ?y23⟩) hHeld ?r23
  case y23 => (intro w hSw; try dsimp only at hSw); go_simp; try with_reducible rfl
  case r23 =>
  try simp only [Act.put, List.setIfInBounds_toArray, List.set_cons_zero, List.set_cons_succ]
  refine' wpAnyH_take (i := 24) (oi := ({ dst := some 43, op := Go.Op.nilCheck (Go.Operand.tmp 42), type := 0, pos := "raft.go:86", after := #[{ on := 23, ground := Go.Ground.data }], guard := none } : Oper)) (v := ?v24) rfl (by kernel_rfl) (by kernel_rfl) (by kernel_rfl) (fun _ _ _ h => h) (Or.inl ⟨by rfl, ?y24⟩) hHeld ?r24
  case y24 => (intro w hSw; try dsimp only at hSw); go_simp; try with_reducible rfl
  case r24 =>
  try simp only [Act.put, List.setIfInBounds_toArray, List.set_cons_zero, List.set_cons_succ]
  refine' wpAnyH_take (i := 25) (oi := ({ dst := some 44, op := Go.Op.fieldAddr 74 (Go.Operand.tmp 43) 5, type := 0, pos := "raft.go:86", after := #[{ on := 24, ground := Go.Ground.data }], guard := none } : Oper)) (v := ?v25) rfl (by kernel_rfl) (by kernel_rfl) (by kernel_rfl) (fun _ _ _ h => h) (Or.inl ⟨by rfl, ?y25⟩) hHeld ?r25
  case y25 => (intro w hSw; try dsimp only at hSw); go_simp; try with_reducible rfl
  case r25 =>
  try simp only [Act.put, List.setIfInBounds_toArray, List.set_cons_zero, List.set_cons_succ]
  refine' wpAnyH_take (i := 26) (oi := ({ dst := some 45, op := Go.Op.load 3 (Go.Operand.tmp 44), type := 3, pos := "raft.go:86", after := #[{ on := 25, ground := Go.Ground.data }], guard := none } : Oper)) (v := ?v26) rfl (by kernel_rfl) (by kernel_rfl) (by kernel_rfl) (fun _ _ _ h => h) (Or.inl ⟨by rfl, ?y26⟩) hHeld ?r26
  case y26 => (intro w hSw; try dsimp only at hSw); go_simp; try with_reducible rfl
  case r26 =>
  try simp only [Act.put, List.setIfInBounds_toArray, List.set_cons_zero, List.set_cons_succ]
  refine wpAnyH_ready (rs := [13]) (by kernel_rfl) (by simp) ?_
  refine AllReadyH.cons rfl (fun K hK => ?_) AllReadyH.nil
  go_simp
  refine (term_is g s _ n1 hn3 hln _ hHeld.1.1).mono ?_
  rintro e w' ⟨rfl, rfl⟩
  refine hK.out _ _ hHeld (fun _ => ?_)
  clear hK K
  try simp only [Act.put, List.setIfInBounds_toArray, List.set_cons_zero, List.set_cons_succ]
  refine wpAnyH_ready (rs := [22]) (by kernel_rfl) (by simp) ?_
  refine AllReadyH.cons rfl (fun K hK => ?_) AllReadyH.nil
  go_simp
  refine (clone_at _ _ _ ((s.log.drop n1).take 16) (by simp only [List.length_take, List.length_drop]; omega) (by simp only [List.length_take, List.length_drop]; omega) _ _ (Nat.le_refl _) (es_part (es_is hHeld.1.1) n1 16 hn3)).mono ?_
  rintro e w2 ⟨aa, nn, cc, rfl, hown, hBw⟩
  have hlt2 : w.heap.size < W.heap.size := (Array.getElem?_eq_some_iff.1 hmb).1
  have hB2 : Below w.heap.size w w2 := Below.trans hHeld.1.2 (hBw.mono hHeld.1.2.size)
  have hmb2 := (hBw.block _ hlt2).trans hmb
  refine hK.out _ _ (keepS hIs hB2) (fun hHeld => ?_)
  clear hK K
  try simp only [Act.put, List.setIfInBounds_toArray, List.set_cons_zero, List.set_cons_succ]
  refine' wpAnyH_take (i := 27) (oi := ({ dst := some 46, op := Go.Op.build 34 #[(0, Go.Operand.const (Go.Value.int Go.IntKind.u8 3)), (1, Go.Operand.tmp 22), (2, Go.Operand.tmp 23), (3, Go.Operand.tmp 28), (4, Go.Operand.tmp 29), (5, Go.Operand.tmp 32), (6, Go.Operand.tmp 41), (7, Go.Operand.tmp 45)], type := 34, pos := "raft.go:86", after := #[{ on := 3, ground := Go.Ground.data }, { on := 4, ground := Go.Ground.data }, { on := 9, ground := Go.Ground.data }, { on := 10, ground := Go.Ground.data }, { on := 13, ground := Go.Ground.data }, { on := 22, ground := Go.Ground.data }, { on := 26, ground := Go.Ground.data }], guard := none } : Oper)) (v := ?v27) rfl (by kernel_rfl) (by kernel_rfl) (by kernel_rfl) (fun _ _ _ h => h) (Or.inl ⟨by rfl, ?y27⟩) hHeld ?r27
  case y27 => (intro w hSw; try dsimp only at hSw); go_simp; try with_reducible rfl
  case r27 =>
  try simp only [Act.put, List.setIfInBounds_toArray, List.set_cons_zero, List.set_cons_succ]
  refine wpAnyH_ready (rs := [28]) (by kernel_rfl) (by simp) ?_
  refine AllReadyH.cons rfl (fun K hK => ?_) AllReadyH.nil
  rw [if_pos (by rfl)]
  refine wp_store_mid 34 (.tmp 4) (.tmp 46) rfl w.heap.size 0 (mc (sendTo s k) (.slice aa nn cc)) rfl (by simp [mc, sendTo, hn, Act.eval]) (there_of_block hmb2 0 9 (Nat.le_refl _)) info34 (mc_one _ _ _ _) ?_
  have hmb3 := block_setAll (w := w2) (vs := (mc (sendTo s k) (.slice aa nn cc)).toList) (b := w.heap.size) (C := [.int .u8 0, .int .i64 0, .int .i64 0, .int .i64 0, .int .i64 0, .int .i64 0, .slice none 0 0, .int .i64 0, .bool false]) hmb2 rfl
  have hB3 := below_setCells w.heap.size (Nat.le_refl _) (mc (sendTo s k) (.slice aa nn cc)).toList 0 hB2
  refine hK.out _ _ (keepS hIs hB3) (fun hHeld => ?_)
  clear hK K
  refine wpAnyH_done (by kernel_rfl) ?_ _
  go_wp2
  refine bodyPost_ret (results_cell rfl _ _ _ w.heap.size (mc (sendTo s k) (.slice aa nn cc)).toList _ rfl (range_of_block (by simpa using hmb3)) Try.underlying34 rfl info34) rfl ⟨.slice aa nn cc, by simp, ?_, hB3⟩
  have hown2 : (w2.setCells w.heap.size 0 (mc (sendTo s k) (.slice aa nn cc)).toList).ownsRow W.heap.size 39 2 (.slice aa nn cc) ((s.log.drop n1).take 16).length (ents ((s.log.drop n1).take 16)) := own_setCells hlt2 _ hown
  have he : (sendTo s k).entries = (s.log.drop n1).take 16 := by simp [sendTo, hn]
  rw [he]
  exact own_base hown2 (Nat.le_of_lt hlt2)

set_option maxRecDepth 100000 in
set_option maxHeartbeats 4000000 in
theorem send_b (g : Nat) (s : Srv) (v : Value) (k : Nat) (hk : k < 7) (hf : Fit s) (hn1 : 1 ≤ s.next k) (hn2 : s.next k ≤ s.log.length + 1) (w : World) (h : Is w g s v) (hm0 : s.log.length ≤ s.next k - 1 + 16) (hc0 : ∀ a n c, v = .slice a n c → ¬ c = s.next k - 1) :
    Calls Try.prog 37 #[.pointer (some ⟨g, 0, none⟩), .int .i64 k] w fun e w' => ∃ v', e = .returned (.agg (mc (sendTo s k) v')) ∧ w'.ownsRow w.heap.size 39 2 v' (sendTo s k).entries.length (ents (sendTo s k).entries) ∧ Below w.heap.size w w' := by
  obtain ⟨a, c, rfl, hc, hm⟩ := h.slice
  obtain ⟨n0, -⟩ := h.nexts hk
  obtain ⟨c0, -⟩ := h.id
  obtain ⟨c2, -⟩ := h.term
  obtain ⟨c4, -⟩ := h.slog
  obtain ⟨c7, -⟩ := h.commit
  have hlt := h.lt
  have hB : Below w.heap.size w (w.alloc (.cells #[.int .u8 0, .int .i64 0, .int .i64 0, .int .i64 0, .int .i64 0, .int .i64 0, .slice none 0 0, .int .i64 0, .bool false] 34)) := (Below.refl _ w).alloc (Nat.le_refl _) _
  have h1 : Is (w.alloc (.cells #[.int .u8 0, .int .i64 0, .int .i64 0, .int .i64 0, .int .i64 0, .int .i64 0, .slice none 0 0, .int .i64 0, .bool false] 34)) g s (.slice a s.log.length c) := h.only (S := fun _ => False) (Only.of_below hB) (fun e => e) (fun _ _ e => e)
  have cl := last_is g s _ _ h1
  have hk2 : (k : Int) < 7 := by omega
  have hnx := hf.next k
  have hln := hf.len
  have hIs := h
  obtain ⟨n1, hn⟩ : ∃ n1, s.next k = n1 + 1 := ⟨s.next k - 1, by omega⟩
  rw [hn] at n0
  have hn3 : n1 ≤ s.log.length := by omega
  have hm1 : (s.log.length : Int) ≤ n1 + 16 := by omega
  have hcn : ¬ c = n1 := by have := hc0 _ _ _ rfl; omega
  have hb1 : (s.log.length : Int) ≤ c := by omega
  have hb2 : (n1 : Int) ≤ s.log.length := by omega
  clear hc0
  go_enter Try.func37, Try.ntmps37
  go_wp2_with fail
  refine cl.mono ?_
  rintro e w1 ⟨rfl, rfl⟩
  go_wp2_with fail
  have hmb := heap_alloc_new w (.cells #[.int .u8 0, .int .i64 0, .int .i64 0, .int .i64 0, .int .i64 0, .int .i64 0, .slice none 0 0, .int .i64 0, .bool false] 34)
  refine wp_region_held_drew (S := (fun w' => (Is w' g s (.slice a s.log.length c) ∧ Below w.heap.size w w') ∧ w'.cell? ⟨g, 0, none⟩ = some (.int .i64 s.id) ∧ w'.cell? ⟨g, 2, none⟩ = some (.int .i64 s.term) ∧ w'.cell? ⟨g, 4, none⟩ = some (.slice a s.log.length c) ∧ w'.cell? ⟨g, 7, none⟩ = some (.int .i64 s.commit))) (by kernel_rfl) (keepS hIs hB.drew) (fun hHeld => ?_)
  replace hmb : (w.alloc (.cells #[.int .u8 0, .int .i64 0, .int .i64 0, .int .i64 0, .int .i64 0, .int .i64 0, .slice none 0 0, .int .i64 0, .bool false] 34)).drew.heap[w.heap.size]? = _ := hmb
  generalize (w.alloc (.cells #[.int .u8 0, .int .i64 0, .int .i64 0, .int .i64 0, .int .i64 0, .int .i64 0, .slice none 0 0, .int .i64 0, .bool false] 34)).drew = W at hHeld hmb ⊢
  clear hB h1 cl
  refine' wpAnyH_take (i := 0) (oi := ({ dst := some 19, op := Go.Op.move (Go.Operand.tmp 0), type := 22, pos := "raft.go:86", after := #[], guard := none } : Oper)) (v := ?v0) rfl (by kernel_rfl) (by kernel_rfl) (by kernel_rfl) (fun _ _ _ h => h) (Or.inl ⟨by rfl, ?y0⟩) hHeld ?r0
  case y0 => (intro w hSw; try dsimp only at hSw); go_simp; try with_reducible rfl
  case r0 =>
  try simp only [Act.put, List.setIfInBounds_toArray, List.set_cons_zero, List.set_cons_succ]
  refine' wpAnyH_take (i := 1) (oi := ({ dst := some 20, op := Go.Op.nilCheck (Go.Operand.tmp 19), type := 0, pos := "raft.go:86", after := #[{ on := 0, ground := Go.Ground.data }], guard := none } : Oper)) (v := ?v1) rfl (by kernel_rfl) (by kernel_rfl) (by kernel_rfl) (fun _ _ _ h => h) (Or.inl ⟨by rfl, ?y1⟩) hHeld ?r1
  case y1 => (intro w hSw; try dsimp only at hSw); go_simp; try with_reducible rfl
  case r1 =>
  try simp only [Act.put, List.setIfInBounds_toArray, List.set_cons_zero, List.set_cons_succ]
  refine' wpAnyH_take (i := 2) (oi := ({ dst := some 21, op := Go.Op.fieldAddr 74 (Go.Operand.tmp 20) 0, type := 0, pos := "raft.go:86", after := #[{ on := 1, ground := Go.Ground.data }], guard := none } : Oper)) (v := ?v2) rfl (by kernel_rfl) (by kernel_rfl) (by kernel_rfl) (fun _ _ _ h => h) (Or.inl ⟨by rfl, ?y2⟩) hHeld ?r2
  case y2 => (intro w hSw; try dsimp only at hSw); go_simp; try with_reducible rfl
  case r2 =>
  try simp only [Act.put, List.setIfInBounds_toArray, List.set_cons_zero, List.set_cons_succ]
  refine' wpAnyH_take (i := 3) (oi := ({ dst := some 22, op := Go.Op.load 3 (Go.Operand.tmp 21), type := 3, pos := "raft.go:86", after := #[{ on := 2, ground := Go.Ground.data }], guard := none } : Oper)) (v := ?v3) rfl (by kernel_rfl) (by kernel_rfl) (by kernel_rfl) (fun _ _ _ h => h) (Or.inl ⟨by rfl, ?y3⟩) hHeld ?r3
  case y3 => (intro w hSw; try dsimp only at hSw); go_simp; try with_reducible rfl
  case r3 =>
  try simp only [Act.put, List.setIfInBounds_toArray, List.set_cons_zero, List.set_cons_succ]
  refine' wpAnyH_take (i := 4) (oi := ({ dst := some 23, op := Go.Op.move (Go.Operand.tmp 1), type := 3, pos := "raft.go:86", after := #[], guard := none } : Oper)) (v := ?v4) rfl (by kernel_rfl) (by kernel_rfl) (by kernel_rfl) (fun _ _ _ h => h) (Or.inl ⟨by rfl, ?y4⟩) hHeld ?r4
  case y4 => (intro w hSw; try dsimp only at hSw); go_simp; try with_reducible rfl
  case r4 =>
  try simp only [Act.put, List.setIfInBounds_toArray, List.set_cons_zero, List.set_cons_succ]
  refine' wpAnyH_take (i := 5) (oi := ({ dst := some 24, op := Go.Op.move (Go.Operand.tmp 0), type := 22, pos := "raft.go:86", after := #[], guard := none } : Oper)) (v := ?v5) rfl (by kernel_rfl) (by kernel_rfl) (by kernel_rfl) (fun _ _ _ h => h) (Or.inl ⟨by rfl, ?y5⟩) hHeld ?r5
  case y5 => (intro w hSw; try dsimp only at hSw); go_simp; try with_reducible rfl
  case r5 =>
  try simp only [Act.put, List.setIfInBounds_toArray, List.set_cons_zero, List.set_cons_succ]
  refine' wpAnyH_take (i := 6) (oi := ({ dst := some 25, op := Go.Op.nilCheck (Go.Operand.tmp 24), type := 0, pos := "raft.go:86", after := #[{ on := 5, ground := Go.Ground.data }], guard := none } : Oper)) (v := ?v6) rfl (by kernel_rfl) (by kernel_rfl) (by kernel_rfl) (fun _ _ _ h => h) (Or.inl ⟨by rfl, ?y6⟩) hHeld ?r6
  case y6 => (intro w hSw; try dsimp only at hSw); go_simp; try with_reducible rfl
  case r6 =>
  try simp only [Act.put, List.setIfInBounds_toArray, List.set_cons_zero, List.set_cons_succ]
  refine' wpAnyH_take (i := 7) (oi := ({ dst := some 26, op := Go.Op.fieldAddr 74 (Go.Operand.tmp 25) 2, type := 0, pos := "raft.go:86", after := #[{ on := 6, ground := Go.Ground.data }], guard := none } : Oper)) (v := ?v7) rfl (by kernel_rfl) (by kernel_rfl) (by kernel_rfl) (fun _ _ _ h => h) (Or.inl ⟨by rfl, ?y7⟩) hHeld ?r7
  case y7 => (intro w hSw; try dsimp only at hSw); go_simp; try with_reducible rfl
  case r7 =>
  try simp only [Act.put, List.setIfInBounds_toArray, List.set_cons_zero, List.set_cons_succ]
  refine' wpAnyH_take (i := 8) (oi := ({ dst := some 27, op := Go.Op.fieldAddr 29 (Go.Operand.tmp 26) 0, type := 0, pos := "raft.go:86", after := #[{ on := 7, ground := Go.Ground.data }], guard := none } : Oper)) (v := ?v8) rfl (by kernel_rfl) (by kernel_rfl) (by kernel_rfl) (fun _ _ _ h => h) (Or.inl ⟨by rfl, ?y8⟩) hHeld ?r8
  case y8 => (intro w hSw; try dsimp only at hSw); go_simp; try with_reducible rfl
  case r8 =>
  try simp only [Act.put, List.setIfInBounds_toArray, List.set_cons_zero, List.set_cons_succ]
  refine' wpAnyH_take (i := 9) (oi := ({ dst := some 28, op := Go.Op.load 2 (Go.Operand.tmp 27), type := 2, pos := "raft.go:86", after := #[{ on := 8, ground := Go.Ground.data }], guard := none } : Oper)) (v := ?v9) rfl (by kernel_rfl) (by kernel_rfl) (by kernel_rfl) (fun _ _ _ h => h) (Or.inl ⟨by rfl, ?y9⟩) hHeld ?r9
  case y9 => (intro w hSw; try dsimp only at hSw); go_simp; try with_reducible rfl
  case r9 =>
  try simp only [Act.put, List.setIfInBounds_toArray, List.set_cons_zero, List.set_cons_succ]
  refine' wpAnyH_take (i := 10) (oi := ({ dst := some 29, op := Go.Op.move (Go.Operand.tmp 5), type := 3, pos := "raft.go:86", after := #[], guard := none } : Oper)) (v := ?v10) rfl (by kernel_rfl) (by kernel_rfl) (by kernel_rfl) (fun _ _ _ h => h) (Or.inl ⟨by rfl, ?y10⟩) hHeld ?r10
  case y10 => (intro w hSw; try dsimp only at hSw); go_simp; try with_reducible rfl
  case r10 =>
  try simp only [Act.put, List.setIfInBounds_toArray, List.set_cons_zero, List.set_cons_succ]
  refine' wpAnyH_take (i := 11) (oi := ({ dst := some 30, op := Go.Op.move (Go.Operand.tmp 0), type := 22, pos := "raft.go:86", after := #[], guard := none } : Oper)) (v := ?v11) rfl (by kernel_rfl) (by kernel_rfl) (by kernel_rfl) (fun _ _ _ h => h) (Or.inl ⟨by rfl, ?y11⟩) hHeld ?r11
  case y11 => (intro w hSw; try dsimp only at hSw); go_simp; try with_reducible rfl
  case r11 =>
  try simp only [Act.put, List.setIfInBounds_toArray, List.set_cons_zero, List.set_cons_succ]
  refine' wpAnyH_take (i := 12) (oi := ({ dst := some 31, op := Go.Op.move (Go.Operand.tmp 5), type := 3, pos := "raft.go:86", after := #[], guard := none } : Oper)) (v := ?v12) rfl (by kernel_rfl) (by kernel_rfl) (by kernel_rfl) (fun _ _ _ h => h) (Or.inl ⟨by rfl, ?y12⟩) hHeld ?r12
  case y12 => (intro w hSw; try dsimp only at hSw); go_simp; try with_reducible rfl
  case r12 =>
  try simp only [Act.put, List.setIfInBounds_toArray, List.set_cons_zero, List.set_cons_succ]
  refine' wpAnyH_take (i := 14) (oi := ({ dst := some 33, op := Go.Op.move (Go.Operand.tmp 0), type := 22, pos := "raft.go:86", after := #[], guard := none } : Oper)) (v := ?v14) rfl (by kernel_rfl) (by kernel_rfl) (by kernel_rfl) (fun _ _ _ h => h) (Or.inl ⟨by rfl, ?y14⟩) hHeld ?r14
  case y14 => (intro w hSw; try dsimp only at hSw); go_simp; try with_reducible rfl
  case r14 =>
  try simp only [Act.put, List.setIfInBounds_toArray, List.set_cons_zero, List.set_cons_succ]
  refine' wpAnyH_take (i := 15) (oi := ({ dst := some 34, op := Go.Op.nilCheck (Go.Operand.tmp 33), type := 0, pos := "raft.go:86", after := #[{ on := 14, ground := Go.Ground.data }], guard := none } : Oper)) (v := ?v15) rfl (by kernel_rfl) (by kernel_rfl) (by kernel_rfl) (fun _ _ _ h => h) (Or.inl ⟨by rfl, ?y15⟩) hHeld ?r15
  case y15 => (intro w hSw; try dsimp only at hSw); go_simp; try with_reducible rfl
  case r15 =>
  try simp only [Act.put, List.setIfInBounds_toArray, List.set_cons_zero, List.set_cons_succ]
  refine' wpAnyH_take (i := 16) (oi := ({ dst := some 35, op := Go.Op.fieldAddr 74 (Go.Operand.tmp 34) 2, type := 0, pos := "raft.go:86", after := #[{ on := 15, ground := Go.Ground.data }], guard := none } : Oper)) (v := ?v16) rfl (by kernel_rfl) (by kernel_rfl) (by kernel_rfl) (fun _ _ _ h => h) (Or.inl ⟨by rfl, ?y16⟩) hHeld ?r16
  case y16 => (intro w hSw; try dsimp only at hSw); go_simp; try with_reducible rfl
  case r16 =>
  try simp only [Act.put, List.setIfInBounds_toArray, List.set_cons_zero, List.set_cons_succ]
  refine' wpAnyH_take (i := 17) (oi := ({ dst := some 36, op := Go.Op.fieldAddr 29 (Go.Operand.tmp 35) 2, type := 0, pos := "raft.go:86", after := #[{ on := 16, ground := Go.Ground.data }], guard := none } : Oper)) (v := ?v17) rfl (by kernel_rfl) (by kernel_rfl) (by kernel_rfl) (fun _ _ _ h => h) (Or.inl ⟨by rfl, ?y17⟩) hHeld ?r17
  case y17 => (intro w hSw; try dsimp only at hSw); go_simp; try with_reducible rfl
  case r17 =>
  try simp only [Act.put, List.setIfInBounds_toArray, List.set_cons_zero, List.set_cons_succ]
  refine' wpAnyH_take (i := 18) (oi := ({ dst := some 37, op := Go.Op.load 27 (Go.Operand.tmp 36), type := 27, pos := "raft.go:86", after := #[{ on := 17, ground := Go.Ground.data }], guard := none } : Oper)) (v := ?v18) rfl (by kernel_rfl) (by kernel_rfl) (by kernel_rfl) (fun _ _ _ h => h) (Or.inl ⟨by rfl, ?y18⟩) hHeld ?r18
  case y18 => (intro w hSw; try dsimp only at hSw); go_simp; try with_reducible rfl
  case r18 =>
  try simp only [Act.put, List.setIfInBounds_toArray, List.set_cons_zero, List.set_cons_succ]
  refine' wpAnyH_take (i := 19) (oi := ({ dst := some 38, op := Go.Op.move (Go.Operand.tmp 5), type := 3, pos := "raft.go:86", after := #[], guard := none } : Oper)) (v := ?v19) rfl (by kernel_rfl) (by kernel_rfl) (by kernel_rfl) (fun _ _ _ h => h) (Or.inl ⟨by rfl, ?y19⟩) hHeld ?r19
  case y19 => (intro w hSw; try dsimp only at hSw); go_simp; try with_reducible rfl
  case r19 =>
  try simp only [Act.put, List.setIfInBounds_toArray, List.set_cons_zero, List.set_cons_succ]
  refine' wpAnyH_take (i := 20) (oi := ({ dst := some 39, op := Go.Op.move (Go.Operand.tmp 6), type := 3, pos := "raft.go:86", after := #[], guard := none } : Oper)) (v := ?v20) rfl (by kernel_rfl) (by kernel_rfl) (by kernel_rfl) (fun _ _ _ h => h) (Or.inl ⟨by rfl, ?y20⟩) hHeld ?r20
  case y20 => (intro w hSw; try dsimp only at hSw); go_simp; try with_reducible rfl
  case r20 =>
  try simp only [Act.put, List.setIfInBounds_toArray, List.set_cons_zero, List.set_cons_succ]
  refine' wpAnyH_take (i := 21) (oi := ({ dst := some 40, op := Go.Op.slice 27 (Go.Operand.tmp 37) (some (Go.Operand.tmp 38)) (some (Go.Operand.tmp 39)) none, type := 27, pos := "raft.go:86", after := #[{ on := 18, ground := Go.Ground.data }, { on := 19, ground := Go.Ground.data }, { on := 20, ground := Go.Ground.data }], guard := none } : Oper)) (v := ?v21) rfl (by kernel_rfl) (by kernel_rfl) (by kernel_rfl) (fun _ _ _ h => h) (Or.inl ⟨by rfl, ?y21⟩) hHeld ?r21
  case y21 => (intro w hSw; try dsimp only at hSw); go_simp; try with_reducible rfl
  case r21 =>
  try simp only [Act.put, List.setIfInBounds_toArray, List.set_cons_zero, List.set_cons_succ]
  refine' wpAnyH_take (i := 23) (oi := ({ dst := some 42, op := Go.Op.move (Go.Operand.tmp 0), type := 22, pos := "raft.go:86", after := #[], guard := none } : Oper)) (v := ?v23) rfl (by kernel_rfl) (by kernel_rfl) (by kernel_rfl) (fun _ _ _ h => h) (Or.inl ⟨by rfl, ?y23⟩) hHeld ?r23
  case y23 => (intro w hSw; try dsimp only at hSw); go_simp; try with_reducible rfl
  case r23 =>
  try simp only [Act.put, List.setIfInBounds_toArray, List.set_cons_zero, List.set_cons_succ]
  refine' wpAnyH_take (i := 24) (oi := ({ dst := some 43, op := Go.Op.nilCheck (Go.Operand.tmp 42), type := 0, pos := "raft.go:86", after := #[{ on := 23, ground := Go.Ground.data }], guard := none } : Oper)) (v := ?v24) rfl (by kernel_rfl) (by kernel_rfl) (by kernel_rfl) (fun _ _ _ h => h) (Or.inl ⟨by rfl, ?y24⟩) hHeld ?r24
  case y24 => (intro w hSw; try dsimp only at hSw); go_simp; try with_reducible rfl
  case r24 =>
  try simp only [Act.put, List.setIfInBounds_toArray, List.set_cons_zero, List.set_cons_succ]
  refine' wpAnyH_take (i := 25) (oi := ({ dst := some 44, op := Go.Op.fieldAddr 74 (Go.Operand.tmp 43) 5, type := 0, pos := "raft.go:86", after := #[{ on := 24, ground := Go.Ground.data }], guard := none } : Oper)) (v := ?v25) rfl (by kernel_rfl) (by kernel_rfl) (by kernel_rfl) (fun _ _ _ h => h) (Or.inl ⟨by rfl, ?y25⟩) hHeld ?r25
  case y25 => (intro w hSw; try dsimp only at hSw); go_simp; try with_reducible rfl
  case r25 =>
  try simp only [Act.put, List.setIfInBounds_toArray, List.set_cons_zero, List.set_cons_succ]
  refine' wpAnyH_take (i := 26) (oi := ({ dst := some 45, op := Go.Op.load 3 (Go.Operand.tmp 44), type := 3, pos := "raft.go:86", after := #[{ on := 25, ground := Go.Ground.data }], guard := none } : Oper)) (v := ?v26) rfl (by kernel_rfl) (by kernel_rfl) (by kernel_rfl) (fun _ _ _ h => h) (Or.inl ⟨by rfl, ?y26⟩) hHeld ?r26
  case y26 => (intro w hSw; try dsimp only at hSw); go_simp; try with_reducible rfl
  case r26 =>
  try simp only [Act.put, List.setIfInBounds_toArray, List.set_cons_zero, List.set_cons_succ]
  refine wpAnyH_ready (rs := [13]) (by kernel_rfl) (by simp) ?_
  refine AllReadyH.cons rfl (fun K hK => ?_) AllReadyH.nil
  go_simp
  refine (term_is g s _ n1 hn3 hln _ hHeld.1.1).mono ?_
  rintro e w' ⟨rfl, rfl⟩
  refine hK.out _ _ hHeld (fun _ => ?_)
  clear hK K
  try simp only [Act.put, List.setIfInBounds_toArray, List.set_cons_zero, List.set_cons_succ]
  refine wpAnyH_ready (rs := [22]) (by kernel_rfl) (by simp) ?_
  refine AllReadyH.cons rfl (fun K hK => ?_) AllReadyH.nil
  go_simp
  refine (clone_at _ _ _ ((s.log.drop n1).take 16) (by simp only [List.length_take, List.length_drop]; omega) (by simp only [List.length_take, List.length_drop]; omega) _ _ (Nat.le_refl _) (es_part (es_is hHeld.1.1) n1 16 hn3)).mono ?_
  rintro e w2 ⟨aa, nn, cc, rfl, hown, hBw⟩
  have hlt2 : w.heap.size < W.heap.size := (Array.getElem?_eq_some_iff.1 hmb).1
  have hB2 : Below w.heap.size w w2 := Below.trans hHeld.1.2 (hBw.mono hHeld.1.2.size)
  have hmb2 := (hBw.block _ hlt2).trans hmb
  refine hK.out _ _ (keepS hIs hB2) (fun hHeld => ?_)
  clear hK K
  try simp only [Act.put, List.setIfInBounds_toArray, List.set_cons_zero, List.set_cons_succ]
  refine' wpAnyH_take (i := 27) (oi := ({ dst := some 46, op := Go.Op.build 34 #[(0, Go.Operand.const (Go.Value.int Go.IntKind.u8 3)), (1, Go.Operand.tmp 22), (2, Go.Operand.tmp 23), (3, Go.Operand.tmp 28), (4, Go.Operand.tmp 29), (5, Go.Operand.tmp 32), (6, Go.Operand.tmp 41), (7, Go.Operand.tmp 45)], type := 34, pos := "raft.go:86", after := #[{ on := 3, ground := Go.Ground.data }, { on := 4, ground := Go.Ground.data }, { on := 9, ground := Go.Ground.data }, { on := 10, ground := Go.Ground.data }, { on := 13, ground := Go.Ground.data }, { on := 22, ground := Go.Ground.data }, { on := 26, ground := Go.Ground.data }], guard := none } : Oper)) (v := ?v27) rfl (by kernel_rfl) (by kernel_rfl) (by kernel_rfl) (fun _ _ _ h => h) (Or.inl ⟨by rfl, ?y27⟩) hHeld ?r27
  case y27 => (intro w hSw; try dsimp only at hSw); go_simp; try with_reducible rfl
  case r27 =>
  try simp only [Act.put, List.setIfInBounds_toArray, List.set_cons_zero, List.set_cons_succ]
  refine wpAnyH_ready (rs := [28]) (by kernel_rfl) (by simp) ?_
  refine AllReadyH.cons rfl (fun K hK => ?_) AllReadyH.nil
  rw [if_pos (by rfl)]
  refine wp_store_mid 34 (.tmp 4) (.tmp 46) rfl w.heap.size 0 (mc (sendTo s k) (.slice aa nn cc)) rfl (by simp [mc, sendTo, hn, Act.eval]) (there_of_block hmb2 0 9 (Nat.le_refl _)) info34 (mc_one _ _ _ _) ?_
  have hmb3 := block_setAll (w := w2) (vs := (mc (sendTo s k) (.slice aa nn cc)).toList) (b := w.heap.size) (C := [.int .u8 0, .int .i64 0, .int .i64 0, .int .i64 0, .int .i64 0, .int .i64 0, .slice none 0 0, .int .i64 0, .bool false]) hmb2 rfl
  have hB3 := below_setCells w.heap.size (Nat.le_refl _) (mc (sendTo s k) (.slice aa nn cc)).toList 0 hB2
  refine hK.out _ _ (keepS hIs hB3) (fun hHeld => ?_)
  clear hK K
  refine wpAnyH_done (by kernel_rfl) ?_ _
  go_wp2
  refine bodyPost_ret (results_cell rfl _ _ _ w.heap.size (mc (sendTo s k) (.slice aa nn cc)).toList _ rfl (range_of_block (by simpa using hmb3)) Try.underlying34 rfl info34) rfl ⟨.slice aa nn cc, by simp, ?_, hB3⟩
  have hown2 : (w2.setCells w.heap.size 0 (mc (sendTo s k) (.slice aa nn cc)).toList).ownsRow W.heap.size 39 2 (.slice aa nn cc) ((s.log.drop n1).take 16).length (ents ((s.log.drop n1).take 16)) := own_setCells hlt2 _ hown
  have he : (sendTo s k).entries = (s.log.drop n1).take 16 := by simp [sendTo, hn]
  rw [he]
  exact own_base hown2 (Nat.le_of_lt hlt2)

set_option maxRecDepth 100000 in
set_option maxHeartbeats 4000000 in
theorem send_c (g : Nat) (s : Srv) (v : Value) (k : Nat) (hk : k < 7) (hf : Fit s) (hn1 : 1 ≤ s.next k) (hn2 : s.next k ≤ s.log.length + 1) (w : World) (h : Is w g s v) (hm0 : s.log.length ≤ s.next k - 1 + 16) (hc0 : ∀ a n c, v = .slice a n c → c = s.next k - 1) :
    Calls Try.prog 37 #[.pointer (some ⟨g, 0, none⟩), .int .i64 k] w fun e w' => ∃ v', e = .returned (.agg (mc (sendTo s k) v')) ∧ w'.ownsRow w.heap.size 39 2 v' (sendTo s k).entries.length (ents (sendTo s k).entries) ∧ Below w.heap.size w w' := by
  obtain ⟨a, c, rfl, hc, hm⟩ := h.slice
  obtain ⟨n0, -⟩ := h.nexts hk
  obtain ⟨c0, -⟩ := h.id
  obtain ⟨c2, -⟩ := h.term
  obtain ⟨c4, -⟩ := h.slog
  obtain ⟨c7, -⟩ := h.commit
  have hlt := h.lt
  have hB : Below w.heap.size w (w.alloc (.cells #[.int .u8 0, .int .i64 0, .int .i64 0, .int .i64 0, .int .i64 0, .int .i64 0, .slice none 0 0, .int .i64 0, .bool false] 34)) := (Below.refl _ w).alloc (Nat.le_refl _) _
  have h1 : Is (w.alloc (.cells #[.int .u8 0, .int .i64 0, .int .i64 0, .int .i64 0, .int .i64 0, .int .i64 0, .slice none 0 0, .int .i64 0, .bool false] 34)) g s (.slice a s.log.length c) := h.only (S := fun _ => False) (Only.of_below hB) (fun e => e) (fun _ _ e => e)
  have cl := last_is g s _ _ h1
  have hk2 : (k : Int) < 7 := by omega
  have hnx := hf.next k
  have hln := hf.len
  have hIs := h
  obtain ⟨n1, hn⟩ : ∃ n1, s.next k = n1 + 1 := ⟨s.next k - 1, by omega⟩
  rw [hn] at n0
  have hn3 : n1 ≤ s.log.length := by omega
  have hcn : c = n1 := by have := hc0 _ _ _ rfl; omega
  have hn1l : s.log.length = n1 := by omega
  subst hcn
  have hm1 : (s.log.length : Int) ≤ c + 16 := by omega
  have hb1 : (s.log.length : Int) ≤ c := by omega
  have hb2 : (c : Int) ≤ s.log.length := by omega
  clear hc0
  go_enter Try.func37, Try.ntmps37
  go_wp2_with fail
  refine cl.mono ?_
  rintro e w1 ⟨rfl, rfl⟩
  go_wp2_with fail
  have hmb := heap_alloc_new w (.cells #[.int .u8 0, .int .i64 0, .int .i64 0, .int .i64 0, .int .i64 0, .int .i64 0, .slice none 0 0, .int .i64 0, .bool false] 34)
  refine wp_region_held_drew (S := (fun w' => (Is w' g s (.slice a s.log.length c) ∧ Below w.heap.size w w') ∧ w'.cell? ⟨g, 0, none⟩ = some (.int .i64 s.id) ∧ w'.cell? ⟨g, 2, none⟩ = some (.int .i64 s.term) ∧ w'.cell? ⟨g, 4, none⟩ = some (.slice a s.log.length c) ∧ w'.cell? ⟨g, 7, none⟩ = some (.int .i64 s.commit))) (by kernel_rfl) (keepS hIs hB.drew) (fun hHeld => ?_)
  replace hmb : (w.alloc (.cells #[.int .u8 0, .int .i64 0, .int .i64 0, .int .i64 0, .int .i64 0, .int .i64 0, .slice none 0 0, .int .i64 0, .bool false] 34)).drew.heap[w.heap.size]? = _ := hmb
  generalize (w.alloc (.cells #[.int .u8 0, .int .i64 0, .int .i64 0, .int .i64 0, .int .i64 0, .int .i64 0, .slice none 0 0, .int .i64 0, .bool false] 34)).drew = W at hHeld hmb ⊢
  clear hB h1 cl
  refine' wpAnyH_take (i := 0) (oi := ({ dst := some 19, op := Go.Op.move (Go.Operand.tmp 0), type := 22, pos := "raft.go:86", after := #[], guard := none } : Oper)) (v := ?v0) rfl (by kernel_rfl) (by kernel_rfl) (by kernel_rfl) (fun _ _ _ h => h) (Or.inl ⟨by rfl, ?y0⟩) hHeld ?r0
  case y0 => (intro w hSw; try dsimp only at hSw); go_simp; try with_reducible rfl
  case r0 =>
  try simp only [Act.put, List.setIfInBounds_toArray, List.set_cons_zero, List.set_cons_succ]
  refine' wpAnyH_take (i := 1) (oi := ({ dst := some 20, op := Go.Op.nilCheck (Go.Operand.tmp 19), type := 0, pos := "raft.go:86", after := #[{ on := 0, ground := Go.Ground.data }], guard := none } : Oper)) (v := ?v1) rfl (by kernel_rfl) (by kernel_rfl) (by kernel_rfl) (fun _ _ _ h => h) (Or.inl ⟨by rfl, ?y1⟩) hHeld ?r1
  case y1 => (intro w hSw; try dsimp only at hSw); go_simp; try with_reducible rfl
  case r1 =>
  try simp only [Act.put, List.setIfInBounds_toArray, List.set_cons_zero, List.set_cons_succ]
  refine' wpAnyH_take (i := 2) (oi := ({ dst := some 21, op := Go.Op.fieldAddr 74 (Go.Operand.tmp 20) 0, type := 0, pos := "raft.go:86", after := #[{ on := 1, ground := Go.Ground.data }], guard := none } : Oper)) (v := ?v2) rfl (by kernel_rfl) (by kernel_rfl) (by kernel_rfl) (fun _ _ _ h => h) (Or.inl ⟨by rfl, ?y2⟩) hHeld ?r2
  case y2 => (intro w hSw; try dsimp only at hSw); go_simp; try with_reducible rfl
  case r2 =>
  try simp only [Act.put, List.setIfInBounds_toArray, List.set_cons_zero, List.set_cons_succ]
  refine' wpAnyH_take (i := 3) (oi := ({ dst := some 22, op := Go.Op.load 3 (Go.Operand.tmp 21), type := 3, pos := "raft.go:86", after := #[{ on := 2, ground := Go.Ground.data }], guard := none } : Oper)) (v := ?v3) rfl (by kernel_rfl) (by kernel_rfl) (by kernel_rfl) (fun _ _ _ h => h) (Or.inl ⟨by rfl, ?y3⟩) hHeld ?r3
  case y3 => (intro w hSw; try dsimp only at hSw); go_simp; try with_reducible rfl
  case r3 =>
  try simp only [Act.put, List.setIfInBounds_toArray, List.set_cons_zero, List.set_cons_succ]
  refine' wpAnyH_take (i := 4) (oi := ({ dst := some 23, op := Go.Op.move (Go.Operand.tmp 1), type := 3, pos := "raft.go:86", after := #[], guard := none } : Oper)) (v := ?v4) rfl (by kernel_rfl) (by kernel_rfl) (by kernel_rfl) (fun _ _ _ h => h) (Or.inl ⟨by rfl, ?y4⟩) hHeld ?r4
  case y4 => (intro w hSw; try dsimp only at hSw); go_simp; try with_reducible rfl
  case r4 =>
  try simp only [Act.put, List.setIfInBounds_toArray, List.set_cons_zero, List.set_cons_succ]
  refine' wpAnyH_take (i := 5) (oi := ({ dst := some 24, op := Go.Op.move (Go.Operand.tmp 0), type := 22, pos := "raft.go:86", after := #[], guard := none } : Oper)) (v := ?v5) rfl (by kernel_rfl) (by kernel_rfl) (by kernel_rfl) (fun _ _ _ h => h) (Or.inl ⟨by rfl, ?y5⟩) hHeld ?r5
  case y5 => (intro w hSw; try dsimp only at hSw); go_simp; try with_reducible rfl
  case r5 =>
  try simp only [Act.put, List.setIfInBounds_toArray, List.set_cons_zero, List.set_cons_succ]
  refine' wpAnyH_take (i := 6) (oi := ({ dst := some 25, op := Go.Op.nilCheck (Go.Operand.tmp 24), type := 0, pos := "raft.go:86", after := #[{ on := 5, ground := Go.Ground.data }], guard := none } : Oper)) (v := ?v6) rfl (by kernel_rfl) (by kernel_rfl) (by kernel_rfl) (fun _ _ _ h => h) (Or.inl ⟨by rfl, ?y6⟩) hHeld ?r6
  case y6 => (intro w hSw; try dsimp only at hSw); go_simp; try with_reducible rfl
  case r6 =>
  try simp only [Act.put, List.setIfInBounds_toArray, List.set_cons_zero, List.set_cons_succ]
  refine' wpAnyH_take (i := 7) (oi := ({ dst := some 26, op := Go.Op.fieldAddr 74 (Go.Operand.tmp 25) 2, type := 0, pos := "raft.go:86", after := #[{ on := 6, ground := Go.Ground.data }], guard := none } : Oper)) (v := ?v7) rfl (by kernel_rfl) (by kernel_rfl) (by kernel_rfl) (fun _ _ _ h => h) (Or.inl ⟨by rfl, ?y7⟩) hHeld ?r7
  case y7 => (intro w hSw; try dsimp only at hSw); go_simp; try with_reducible rfl
  case r7 =>
  try simp only [Act.put, List.setIfInBounds_toArray, List.set_cons_zero, List.set_cons_succ]
  refine' wpAnyH_take (i := 8) (oi := ({ dst := some 27, op := Go.Op.fieldAddr 29 (Go.Operand.tmp 26) 0, type := 0, pos := "raft.go:86", after := #[{ on := 7, ground := Go.Ground.data }], guard := none } : Oper)) (v := ?v8) rfl (by kernel_rfl) (by kernel_rfl) (by kernel_rfl) (fun _ _ _ h => h) (Or.inl ⟨by rfl, ?y8⟩) hHeld ?r8
  case y8 => (intro w hSw; try dsimp only at hSw); go_simp; try with_reducible rfl
  case r8 =>
  try simp only [Act.put, List.setIfInBounds_toArray, List.set_cons_zero, List.set_cons_succ]
  refine' wpAnyH_take (i := 9) (oi := ({ dst := some 28, op := Go.Op.load 2 (Go.Operand.tmp 27), type := 2, pos := "raft.go:86", after := #[{ on := 8, ground := Go.Ground.data }], guard := none } : Oper)) (v := ?v9) rfl (by kernel_rfl) (by kernel_rfl) (by kernel_rfl) (fun _ _ _ h => h) (Or.inl ⟨by rfl, ?y9⟩) hHeld ?r9
  case y9 => (intro w hSw; try dsimp only at hSw); go_simp; try with_reducible rfl
  case r9 =>
  try simp only [Act.put, List.setIfInBounds_toArray, List.set_cons_zero, List.set_cons_succ]
  refine' wpAnyH_take (i := 10) (oi := ({ dst := some 29, op := Go.Op.move (Go.Operand.tmp 5), type := 3, pos := "raft.go:86", after := #[], guard := none } : Oper)) (v := ?v10) rfl (by kernel_rfl) (by kernel_rfl) (by kernel_rfl) (fun _ _ _ h => h) (Or.inl ⟨by rfl, ?y10⟩) hHeld ?r10
  case y10 => (intro w hSw; try dsimp only at hSw); go_simp; try with_reducible rfl
  case r10 =>
  try simp only [Act.put, List.setIfInBounds_toArray, List.set_cons_zero, List.set_cons_succ]
  refine' wpAnyH_take (i := 11) (oi := ({ dst := some 30, op := Go.Op.move (Go.Operand.tmp 0), type := 22, pos := "raft.go:86", after := #[], guard := none } : Oper)) (v := ?v11) rfl (by kernel_rfl) (by kernel_rfl) (by kernel_rfl) (fun _ _ _ h => h) (Or.inl ⟨by rfl, ?y11⟩) hHeld ?r11
  case y11 => (intro w hSw; try dsimp only at hSw); go_simp; try with_reducible rfl
  case r11 =>
  try simp only [Act.put, List.setIfInBounds_toArray, List.set_cons_zero, List.set_cons_succ]
  refine' wpAnyH_take (i := 12) (oi := ({ dst := some 31, op := Go.Op.move (Go.Operand.tmp 5), type := 3, pos := "raft.go:86", after := #[], guard := none } : Oper)) (v := ?v12) rfl (by kernel_rfl) (by kernel_rfl) (by kernel_rfl) (fun _ _ _ h => h) (Or.inl ⟨by rfl, ?y12⟩) hHeld ?r12
  case y12 => (intro w hSw; try dsimp only at hSw); go_simp; try with_reducible rfl
  case r12 =>
  try simp only [Act.put, List.setIfInBounds_toArray, List.set_cons_zero, List.set_cons_succ]
  refine' wpAnyH_take (i := 14) (oi := ({ dst := some 33, op := Go.Op.move (Go.Operand.tmp 0), type := 22, pos := "raft.go:86", after := #[], guard := none } : Oper)) (v := ?v14) rfl (by kernel_rfl) (by kernel_rfl) (by kernel_rfl) (fun _ _ _ h => h) (Or.inl ⟨by rfl, ?y14⟩) hHeld ?r14
  case y14 => (intro w hSw; try dsimp only at hSw); go_simp; try with_reducible rfl
  case r14 =>
  try simp only [Act.put, List.setIfInBounds_toArray, List.set_cons_zero, List.set_cons_succ]
  refine' wpAnyH_take (i := 15) (oi := ({ dst := some 34, op := Go.Op.nilCheck (Go.Operand.tmp 33), type := 0, pos := "raft.go:86", after := #[{ on := 14, ground := Go.Ground.data }], guard := none } : Oper)) (v := ?v15) rfl (by kernel_rfl) (by kernel_rfl) (by kernel_rfl) (fun _ _ _ h => h) (Or.inl ⟨by rfl, ?y15⟩) hHeld ?r15
  case y15 => (intro w hSw; try dsimp only at hSw); go_simp; try with_reducible rfl
  case r15 =>
  try simp only [Act.put, List.setIfInBounds_toArray, List.set_cons_zero, List.set_cons_succ]
  refine' wpAnyH_take (i := 16) (oi := ({ dst := some 35, op := Go.Op.fieldAddr 74 (Go.Operand.tmp 34) 2, type := 0, pos := "raft.go:86", after := #[{ on := 15, ground := Go.Ground.data }], guard := none } : Oper)) (v := ?v16) rfl (by kernel_rfl) (by kernel_rfl) (by kernel_rfl) (fun _ _ _ h => h) (Or.inl ⟨by rfl, ?y16⟩) hHeld ?r16
  case y16 => (intro w hSw; try dsimp only at hSw); go_simp; try with_reducible rfl
  case r16 =>
  try simp only [Act.put, List.setIfInBounds_toArray, List.set_cons_zero, List.set_cons_succ]
  refine' wpAnyH_take (i := 17) (oi := ({ dst := some 36, op := Go.Op.fieldAddr 29 (Go.Operand.tmp 35) 2, type := 0, pos := "raft.go:86", after := #[{ on := 16, ground := Go.Ground.data }], guard := none } : Oper)) (v := ?v17) rfl (by kernel_rfl) (by kernel_rfl) (by kernel_rfl) (fun _ _ _ h => h) (Or.inl ⟨by rfl, ?y17⟩) hHeld ?r17
  case y17 => (intro w hSw; try dsimp only at hSw); go_simp; try with_reducible rfl
  case r17 =>
  try simp only [Act.put, List.setIfInBounds_toArray, List.set_cons_zero, List.set_cons_succ]
  refine' wpAnyH_take (i := 18) (oi := ({ dst := some 37, op := Go.Op.load 27 (Go.Operand.tmp 36), type := 27, pos := "raft.go:86", after := #[{ on := 17, ground := Go.Ground.data }], guard := none } : Oper)) (v := ?v18) rfl (by kernel_rfl) (by kernel_rfl) (by kernel_rfl) (fun _ _ _ h => h) (Or.inl ⟨by rfl, ?y18⟩) hHeld ?r18
  case y18 => (intro w hSw; try dsimp only at hSw); go_simp; try with_reducible rfl
  case r18 =>
  try simp only [Act.put, List.setIfInBounds_toArray, List.set_cons_zero, List.set_cons_succ]
  refine' wpAnyH_take (i := 19) (oi := ({ dst := some 38, op := Go.Op.move (Go.Operand.tmp 5), type := 3, pos := "raft.go:86", after := #[], guard := none } : Oper)) (v := ?v19) rfl (by kernel_rfl) (by kernel_rfl) (by kernel_rfl) (fun _ _ _ h => h) (Or.inl ⟨by rfl, ?y19⟩) hHeld ?r19
  case y19 => (intro w hSw; try dsimp only at hSw); go_simp; try with_reducible rfl
  case r19 =>
  try simp only [Act.put, List.setIfInBounds_toArray, List.set_cons_zero, List.set_cons_succ]
  refine' wpAnyH_take (i := 20) (oi := ({ dst := some 39, op := Go.Op.move (Go.Operand.tmp 6), type := 3, pos := "raft.go:86", after := #[], guard := none } : Oper)) (v := ?v20) rfl (by kernel_rfl) (by kernel_rfl) (by kernel_rfl) (fun _ _ _ h => h) (Or.inl ⟨by rfl, ?y20⟩) hHeld ?r20
  case y20 => (intro w hSw; try dsimp only at hSw); go_simp; try with_reducible rfl
  case r20 =>
  try simp only [Act.put, List.setIfInBounds_toArray, List.set_cons_zero, List.set_cons_succ]
  refine' wpAnyH_take (i := 21) (oi := ({ dst := some 40, op := Go.Op.slice 27 (Go.Operand.tmp 37) (some (Go.Operand.tmp 38)) (some (Go.Operand.tmp 39)) none, type := 27, pos := "raft.go:86", after := #[{ on := 18, ground := Go.Ground.data }, { on := 19, ground := Go.Ground.data }, { on := 20, ground := Go.Ground.data }], guard := none } : Oper)) (v := ?v21) rfl (by kernel_rfl) (by kernel_rfl) (by kernel_rfl) (fun _ _ _ h => h) (Or.inl ⟨by rfl, ?y21⟩) hHeld ?r21
  case y21 => (intro w hSw; try dsimp only at hSw); go_simp; try with_reducible rfl
  case r21 =>
  try simp only [Act.put, List.setIfInBounds_toArray, List.set_cons_zero, List.set_cons_succ]
  refine' wpAnyH_take (i := 23) (oi := ({ dst := some 42, op := Go.Op.move (Go.Operand.tmp 0), type := 22, pos := "raft.go:86", after := #[], guard := none } : Oper)) (v := ?v23) rfl (by kernel_rfl) (by kernel_rfl) (by kernel_rfl) (fun _ _ _ h => h) (Or.inl ⟨by rfl, ?y23⟩) hHeld ?r23
  case y23 => (intro w hSw; try dsimp only at hSw); go_simp; try with_reducible rfl
  case r23 =>
  try simp only [Act.put, List.setIfInBounds_toArray, List.set_cons_zero, List.set_cons_succ]
  refine' wpAnyH_take (i := 24) (oi := ({ dst := some 43, op := Go.Op.nilCheck (Go.Operand.tmp 42), type := 0, pos := "raft.go:86", after := #[{ on := 23, ground := Go.Ground.data }], guard := none } : Oper)) (v := ?v24) rfl (by kernel_rfl) (by kernel_rfl) (by kernel_rfl) (fun _ _ _ h => h) (Or.inl ⟨by rfl, ?y24⟩) hHeld ?r24
  case y24 => (intro w hSw; try dsimp only at hSw); go_simp; try with_reducible rfl
  case r24 =>
  try simp only [Act.put, List.setIfInBounds_toArray, List.set_cons_zero, List.set_cons_succ]
  refine' wpAnyH_take (i := 25) (oi := ({ dst := some 44, op := Go.Op.fieldAddr 74 (Go.Operand.tmp 43) 5, type := 0, pos := "raft.go:86", after := #[{ on := 24, ground := Go.Ground.data }], guard := none } : Oper)) (v := ?v25) rfl (by kernel_rfl) (by kernel_rfl) (by kernel_rfl) (fun _ _ _ h => h) (Or.inl ⟨by rfl, ?y25⟩) hHeld ?r25
  case y25 => (intro w hSw; try dsimp only at hSw); go_simp; try with_reducible rfl
  case r25 =>
  try simp only [Act.put, List.setIfInBounds_toArray, List.set_cons_zero, List.set_cons_succ]
  refine' wpAnyH_take (i := 26) (oi := ({ dst := some 45, op := Go.Op.load 3 (Go.Operand.tmp 44), type := 3, pos := "raft.go:86", after := #[{ on := 25, ground := Go.Ground.data }], guard := none } : Oper)) (v := ?v26) rfl (by kernel_rfl) (by kernel_rfl) (by kernel_rfl) (fun _ _ _ h => h) (Or.inl ⟨by rfl, ?y26⟩) hHeld ?r26
  case y26 => (intro w hSw; try dsimp only at hSw); go_simp; try with_reducible rfl
  case r26 =>
  try simp only [Act.put, List.setIfInBounds_toArray, List.set_cons_zero, List.set_cons_succ]
  refine wpAnyH_ready (rs := [13]) (by kernel_rfl) (by simp) ?_
  refine AllReadyH.cons rfl (fun K hK => ?_) AllReadyH.nil
  go_simp
  refine (term_is g s _ c hn3 hln _ hHeld.1.1).mono ?_
  rintro e w' ⟨rfl, rfl⟩
  refine hK.out _ _ hHeld (fun _ => ?_)
  clear hK K
  try simp only [Act.put, List.setIfInBounds_toArray, List.set_cons_zero, List.set_cons_succ]
  refine wpAnyH_ready (rs := [22]) (by kernel_rfl) (by simp) ?_
  refine AllReadyH.cons rfl (fun K hK => ?_) AllReadyH.nil
  go_simp
  refine (clone_at _ _ _ ((s.log.drop c).take 16) (by simp only [List.length_take, List.length_drop]; omega) (by simp only [List.length_take, List.length_drop]; omega) _ _ (Nat.le_refl _) (by rw [show (s.log.drop c).take 16 = [] from by rw [List.drop_of_length_le (by omega)]; rfl]; exact es_nil _ _)).mono ?_
  rintro e w2 ⟨aa, nn, cc, rfl, hown, hBw⟩
  have hlt2 : w.heap.size < W.heap.size := (Array.getElem?_eq_some_iff.1 hmb).1
  have hB2 : Below w.heap.size w w2 := Below.trans hHeld.1.2 (hBw.mono hHeld.1.2.size)
  have hmb2 := (hBw.block _ hlt2).trans hmb
  refine hK.out _ _ (keepS hIs hB2) (fun hHeld => ?_)
  clear hK K
  try simp only [Act.put, List.setIfInBounds_toArray, List.set_cons_zero, List.set_cons_succ]
  refine' wpAnyH_take (i := 27) (oi := ({ dst := some 46, op := Go.Op.build 34 #[(0, Go.Operand.const (Go.Value.int Go.IntKind.u8 3)), (1, Go.Operand.tmp 22), (2, Go.Operand.tmp 23), (3, Go.Operand.tmp 28), (4, Go.Operand.tmp 29), (5, Go.Operand.tmp 32), (6, Go.Operand.tmp 41), (7, Go.Operand.tmp 45)], type := 34, pos := "raft.go:86", after := #[{ on := 3, ground := Go.Ground.data }, { on := 4, ground := Go.Ground.data }, { on := 9, ground := Go.Ground.data }, { on := 10, ground := Go.Ground.data }, { on := 13, ground := Go.Ground.data }, { on := 22, ground := Go.Ground.data }, { on := 26, ground := Go.Ground.data }], guard := none } : Oper)) (v := ?v27) rfl (by kernel_rfl) (by kernel_rfl) (by kernel_rfl) (fun _ _ _ h => h) (Or.inl ⟨by rfl, ?y27⟩) hHeld ?r27
  case y27 => (intro w hSw; try dsimp only at hSw); go_simp; try with_reducible rfl
  case r27 =>
  try simp only [Act.put, List.setIfInBounds_toArray, List.set_cons_zero, List.set_cons_succ]
  refine wpAnyH_ready (rs := [28]) (by kernel_rfl) (by simp) ?_
  refine AllReadyH.cons rfl (fun K hK => ?_) AllReadyH.nil
  rw [if_pos (by rfl)]
  refine wp_store_mid 34 (.tmp 4) (.tmp 46) rfl w.heap.size 0 (mc (sendTo s k) (.slice aa nn cc)) rfl (by simp [mc, sendTo, hn, Act.eval]) (there_of_block hmb2 0 9 (Nat.le_refl _)) info34 (mc_one _ _ _ _) ?_
  have hmb3 := block_setAll (w := w2) (vs := (mc (sendTo s k) (.slice aa nn cc)).toList) (b := w.heap.size) (C := [.int .u8 0, .int .i64 0, .int .i64 0, .int .i64 0, .int .i64 0, .int .i64 0, .slice none 0 0, .int .i64 0, .bool false]) hmb2 rfl
  have hB3 := below_setCells w.heap.size (Nat.le_refl _) (mc (sendTo s k) (.slice aa nn cc)).toList 0 hB2
  refine hK.out _ _ (keepS hIs hB3) (fun hHeld => ?_)
  clear hK K
  refine wpAnyH_done (by kernel_rfl) ?_ _
  go_wp2
  refine bodyPost_ret (results_cell rfl _ _ _ w.heap.size (mc (sendTo s k) (.slice aa nn cc)).toList _ rfl (range_of_block (by simpa using hmb3)) Try.underlying34 rfl info34) rfl ⟨.slice aa nn cc, by simp, ?_, hB3⟩
  have hown2 : (w2.setCells w.heap.size 0 (mc (sendTo s k) (.slice aa nn cc)).toList).ownsRow W.heap.size 39 2 (.slice aa nn cc) ((s.log.drop c).take 16).length (ents ((s.log.drop c).take 16)) := own_setCells hlt2 _ hown
  have he : (sendTo s k).entries = (s.log.drop c).take 16 := by simp [sendTo, hn]
  rw [he]
  exact own_base hown2 (Nat.le_of_lt hlt2)

theorem send_is (g : Nat) (s : Srv) (v : Value) (k : Nat) (hk : k < 7) (hf : Fit s) (hn1 : 1 ≤ s.next k) (hn2 : s.next k ≤ s.log.length + 1) (w : World) (h : Is w g s v) :
    Calls Try.prog 37 #[.pointer (some ⟨g, 0, none⟩), .int .i64 k] w fun e w' => ∃ v', e = .returned (.agg (mc (sendTo s k) v')) ∧ w'.ownsRow w.heap.size 39 2 v' (sendTo s k).entries.length (ents (sendTo s k).entries) ∧ Below w.heap.size w w' := by
  by_cases hm : s.next k - 1 + 16 < s.log.length
  · exact send_a g s v k hk hf hn1 hn2 w h hm
  · obtain ⟨a, c, rfl, hc, _⟩ := h.slice
    by_cases hc0 : c = s.next k - 1
    · exact send_c g s _ k hk hf hn1 hn2 w h (by omega) (fun _ _ _ e => by injection e with _ _ e; omega)
    · exact send_b g s _ k hk hf hn1 hn2 w h (by omega) (fun _ _ _ e => by injection e with _ _ e; omega)
end Rf
end Go.Proofs.Ytdacdkidjgbdoaa
