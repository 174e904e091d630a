/- The contract of Tick's literal, of others with it. -/
import Derived.Test.YtdacdkidjgbdoaaRg
set_option linter.unusedVariables false
set_option linter.unusedSimpArgs false
namespace Go.Proofs.Ytdacdkidjgbdoaa
open Go Go.RowKit
namespace Rf
attribute [local go_sem ↓] Go.wp_at_zero Go.wp_at_succ

def askTo (s : Srv) (k : Nat) : Msg :=
  { kind := 1, src := s.id, dst := k, term := s.term, index := s.log.length, logTerm := tat s.log s.log.length, entries := [], commit := 0, ok := false }

theorem keepT {w w' : World} {g b c : Nat} {s : Srv} {a : Option Addr} (h : Is w g s (.slice a s.log.length c)) (hb : w.cell? ⟨b, 0, none⟩ = some (.pointer (some ⟨g, 0, none⟩))) (hB : Below w.heap.size w w') :
    (Is w' g s (.slice a s.log.length c) ∧ Below w.heap.size w w') ∧ w'.cell? ⟨b, 0, none⟩ = some (.pointer (some ⟨g, 0, none⟩)) ∧ w'.cell? ⟨g, 0, none⟩ = some (.int .i64 s.id) ∧ w'.cell? ⟨g, 2, none⟩ = some (.int .i64 s.term) := by
  have h1 : Is w' g s (.slice a s.log.length c) := h.only (S := fun _ => False) (Only.of_below hB) (fun e => e) (fun _ _ e => e)
  exact ⟨⟨h1, hB⟩, (hB.cell (World.block_lt_of_cell? w _ hb)).trans hb, h1.id.1, h1.term.1⟩

set_option maxRecDepth 100000 in
set_option maxHeartbeats 4000000 in
theorem ask_is (g b : Nat) (s : Srv) (v : Value) (k : Nat) (hf : Fit s) (w : World) (h : Is w g s v) (hb : w.cell? ⟨b, 0, none⟩ = some (.pointer (some ⟨g, 0, none⟩))) :
    Calls Try.prog 39 #[.int .i64 k, .pointer (some ⟨b, 0, none⟩)] w fun e w' => e = .returned (.agg (mc (askTo s k) (.slice none 0 0))) ∧ Below w.heap.size w w' := by
  obtain ⟨a, c, rfl, hc, hm⟩ := h.slice
  have hln := hf.len
  have hIs := h
  have hB : Below w.heap.size w (w.alloc (.cells #[.int .u8 0, .int .i64 0, .int .i64 0, .int .i64 0, .int .i64 0, .int .i64 0, .slice none 0 0, .int .i64 0, .bool false] 34)) := (Below.refl _ w).alloc (Nat.le_refl _) _
  go_enter Try.func39, Try.ntmps39
  go_wp2_with fail
  have hmb := heap_alloc_new w (.cells #[.int .u8 0, .int .i64 0, .int .i64 0, .int .i64 0, .int .i64 0, .int .i64 0, .slice none 0 0, .int .i64 0, .bool false] 34)
  refine wp_region_held_drew (S := (fun w' => (Is w' g s (.slice a s.log.length c) ∧ Below w.heap.size w w') ∧ w'.cell? ⟨b, 0, none⟩ = some (.pointer (some ⟨g, 0, none⟩)) ∧ w'.cell? ⟨g, 0, none⟩ = some (.int .i64 s.id) ∧ w'.cell? ⟨g, 2, none⟩ = some (.int .i64 s.term))) (by kernel_rfl) (keepT hIs hb hB.drew) (fun hHeld => ?_)
  replace hmb : (w.alloc (.cells #[.int .u8 0, .int .i64 0, .int .i64 0, .int .i64 0, .int .i64 0, .int .i64 0, .slice none 0 0, .int .i64 0, .bool false] 34)).drew.heap[w.heap.size]? = _ := hmb
  generalize (w.alloc (.cells #[.int .u8 0, .int .i64 0, .int .i64 0, .int .i64 0, .int .i64 0, .int .i64 0, .slice none 0 0, .int .i64 0, .bool false] 34)).drew = W at hHeld hmb ⊢
  clear hB
  refine' wpAnyH_take (i := 0) (oi := ({ dst := some 4, op := Go.Op.load 22 (Go.Operand.tmp 1), type := 22, pos := "raft.go:134", after := #[], guard := none } : Oper)) (v := ?v0) rfl (by kernel_rfl) (by kernel_rfl) (by kernel_rfl) (fun _ _ _ h => h) (Or.inl ⟨by rfl, ?y0⟩) hHeld ?r0
  case y0 => (intro w hSw; try dsimp only at hSw); go_simp; try with_reducible rfl
  case r0 =>
  try simp only [Act.put, List.setIfInBounds_toArray, List.set_cons_zero, List.set_cons_succ]
  refine' wpAnyH_take (i := 1) (oi := ({ dst := some 5, op := Go.Op.nilCheck (Go.Operand.tmp 4), type := 0, pos := "raft.go:134", after := #[{ on := 0, ground := Go.Ground.data }], guard := none } : Oper)) (v := ?v1) rfl (by kernel_rfl) (by kernel_rfl) (by kernel_rfl) (fun _ _ _ h => h) (Or.inl ⟨by rfl, ?y1⟩) hHeld ?r1
  case y1 => (intro w hSw; try dsimp only at hSw); go_simp; try with_reducible rfl
  case r1 =>
  try simp only [Act.put, List.setIfInBounds_toArray, List.set_cons_zero, List.set_cons_succ]
  refine' wpAnyH_take (i := 2) (oi := ({ dst := some 6, op := Go.Op.fieldAddr 74 (Go.Operand.tmp 5) 0, type := 0, pos := "raft.go:134", after := #[{ on := 1, ground := Go.Ground.data }], guard := none } : Oper)) (v := ?v2) rfl (by kernel_rfl) (by kernel_rfl) (by kernel_rfl) (fun _ _ _ h => h) (Or.inl ⟨by rfl, ?y2⟩) hHeld ?r2
  case y2 => (intro w hSw; try dsimp only at hSw); go_simp; try with_reducible rfl
  case r2 =>
  try simp only [Act.put, List.setIfInBounds_toArray, List.set_cons_zero, List.set_cons_succ]
  refine' wpAnyH_take (i := 3) (oi := ({ dst := some 7, op := Go.Op.load 3 (Go.Operand.tmp 6), type := 3, pos := "raft.go:134", after := #[{ on := 2, ground := Go.Ground.data }], guard := none } : Oper)) (v := ?v3) rfl (by kernel_rfl) (by kernel_rfl) (by kernel_rfl) (fun _ _ _ h => h) (Or.inl ⟨by rfl, ?y3⟩) hHeld ?r3
  case y3 => (intro w hSw; try dsimp only at hSw); go_simp; try with_reducible rfl
  case r3 =>
  try simp only [Act.put, List.setIfInBounds_toArray, List.set_cons_zero, List.set_cons_succ]
  refine' wpAnyH_take (i := 4) (oi := ({ dst := some 8, op := Go.Op.move (Go.Operand.tmp 0), type := 3, pos := "raft.go:134", after := #[], guard := none } : Oper)) (v := ?v4) rfl (by kernel_rfl) (by kernel_rfl) (by kernel_rfl) (fun _ _ _ h => h) (Or.inl ⟨by rfl, ?y4⟩) hHeld ?r4
  case y4 => (intro w hSw; try dsimp only at hSw); go_simp; try with_reducible rfl
  case r4 =>
  try simp only [Act.put, List.setIfInBounds_toArray, List.set_cons_zero, List.set_cons_succ]
  refine' wpAnyH_take (i := 5) (oi := ({ dst := some 9, op := Go.Op.load 22 (Go.Operand.tmp 1), type := 22, pos := "raft.go:134", after := #[], guard := none } : Oper)) (v := ?v5) rfl (by kernel_rfl) (by kernel_rfl) (by kernel_rfl) (fun _ _ _ h => h) (Or.inl ⟨by rfl, ?y5⟩) hHeld ?r5
  case y5 => (intro w hSw; try dsimp only at hSw); go_simp; try with_reducible rfl
  case r5 =>
  try simp only [Act.put, List.setIfInBounds_toArray, List.set_cons_zero, List.set_cons_succ]
  refine' wpAnyH_take (i := 6) (oi := ({ dst := some 10, op := Go.Op.nilCheck (Go.Operand.tmp 9), type := 0, pos := "raft.go:134", after := #[{ on := 5, ground := Go.Ground.data }], guard := none } : Oper)) (v := ?v6) rfl (by kernel_rfl) (by kernel_rfl) (by kernel_rfl) (fun _ _ _ h => h) (Or.inl ⟨by rfl, ?y6⟩) hHeld ?r6
  case y6 => (intro w hSw; try dsimp only at hSw); go_simp; try with_reducible rfl
  case r6 =>
  try simp only [Act.put, List.setIfInBounds_toArray, List.set_cons_zero, List.set_cons_succ]
  refine' wpAnyH_take (i := 7) (oi := ({ dst := some 11, op := Go.Op.fieldAddr 74 (Go.Operand.tmp 10) 2, type := 0, pos := "raft.go:134", after := #[{ on := 6, ground := Go.Ground.data }], guard := none } : Oper)) (v := ?v7) rfl (by kernel_rfl) (by kernel_rfl) (by kernel_rfl) (fun _ _ _ h => h) (Or.inl ⟨by rfl, ?y7⟩) hHeld ?r7
  case y7 => (intro w hSw; try dsimp only at hSw); go_simp; try with_reducible rfl
  case r7 =>
  try simp only [Act.put, List.setIfInBounds_toArray, List.set_cons_zero, List.set_cons_succ]
  refine' wpAnyH_take (i := 8) (oi := ({ dst := some 12, op := Go.Op.fieldAddr 29 (Go.Operand.tmp 11) 0, type := 0, pos := "raft.go:134", after := #[{ on := 7, ground := Go.Ground.data }], guard := none } : Oper)) (v := ?v8) rfl (by kernel_rfl) (by kernel_rfl) (by kernel_rfl) (fun _ _ _ h => h) (Or.inl ⟨by rfl, ?y8⟩) hHeld ?r8
  case y8 => (intro w hSw; try dsimp only at hSw); go_simp; try with_reducible rfl
  case r8 =>
  try simp only [Act.put, List.setIfInBounds_toArray, List.set_cons_zero, List.set_cons_succ]
  refine' wpAnyH_take (i := 9) (oi := ({ dst := some 13, op := Go.Op.load 2 (Go.Operand.tmp 12), type := 2, pos := "raft.go:134", after := #[{ on := 8, ground := Go.Ground.data }], guard := none } : Oper)) (v := ?v9) rfl (by kernel_rfl) (by kernel_rfl) (by kernel_rfl) (fun _ _ _ h => h) (Or.inl ⟨by rfl, ?y9⟩) hHeld ?r9
  case y9 => (intro w hSw; try dsimp only at hSw); go_simp; try with_reducible rfl
  case r9 =>
  try simp only [Act.put, List.setIfInBounds_toArray, List.set_cons_zero, List.set_cons_succ]
  refine' wpAnyH_take (i := 10) (oi := ({ dst := some 14, op := Go.Op.load 22 (Go.Operand.tmp 1), type := 22, pos := "raft.go:134", after := #[], guard := none } : Oper)) (v := ?v10) rfl (by kernel_rfl) (by kernel_rfl) (by kernel_rfl) (fun _ _ _ h => h) (Or.inl ⟨by rfl, ?y10⟩) hHeld ?r10
  case y10 => (intro w hSw; try dsimp only at hSw); go_simp; try with_reducible rfl
  case r10 =>
  try simp only [Act.put, List.setIfInBounds_toArray, List.set_cons_zero, List.set_cons_succ]
  refine' wpAnyH_take (i := 12) (oi := ({ dst := some 16, op := Go.Op.load 22 (Go.Operand.tmp 1), type := 22, pos := "raft.go:134", after := #[], guard := none } : Oper)) (v := ?v12) rfl (by kernel_rfl) (by kernel_rfl) (by kernel_rfl) (fun _ _ _ h => h) (Or.inl ⟨by rfl, ?y12⟩) hHeld ?r12
  case y12 => (intro w hSw; try dsimp only at hSw); go_simp; try with_reducible rfl
  case r12 =>
  try simp only [Act.put, List.setIfInBounds_toArray, List.set_cons_zero, List.set_cons_succ]
  refine' wpAnyH_take (i := 13) (oi := ({ dst := some 17, op := Go.Op.load 22 (Go.Operand.tmp 1), type := 22, pos := "raft.go:134", after := #[], guard := none } : Oper)) (v := ?v13) rfl (by kernel_rfl) (by kernel_rfl) (by kernel_rfl) (fun _ _ _ h => h) (Or.inl ⟨by rfl, ?y13⟩) hHeld ?r13
  case y13 => (intro w hSw; try dsimp only at hSw); go_simp; try with_reducible rfl
  case r13 =>
  try simp only [Act.put, List.setIfInBounds_toArray, List.set_cons_zero, List.set_cons_succ]
  refine wpAnyH_ready (rs := [11]) (by kernel_rfl) (by simp) ?_
  refine AllReadyH.cons rfl (fun K hK => ?_) AllReadyH.nil
  go_simp
  refine (last_is g s _ _ hHeld.1.1).mono ?_
  rintro e w' ⟨rfl, rfl⟩
  refine hK.out _ _ hHeld (fun _ => ?_)
  clear hK K
  try simp only [Act.put, List.setIfInBounds_toArray, List.set_cons_zero, List.set_cons_succ]
  refine wpAnyH_ready (rs := [14]) (by kernel_rfl) (by simp) ?_
  refine AllReadyH.cons rfl (fun K hK => ?_) AllReadyH.nil
  go_simp
  refine (last_is g s _ _ hHeld.1.1).mono ?_
  rintro e w' ⟨rfl, rfl⟩
  refine hK.out _ _ hHeld (fun _ => ?_)
  clear hK K
  try simp only [Act.put, List.setIfInBounds_toArray, List.set_cons_zero, List.set_cons_succ]
  refine wpAnyH_ready (rs := [15]) (by kernel_rfl) (by simp) ?_
  refine AllReadyH.cons rfl (fun K hK => ?_) AllReadyH.nil
  go_simp
  refine (term_is g s _ s.log.length (Nat.le_refl _) hln _ hHeld.1.1).mono ?_
  rintro e w' ⟨rfl, rfl⟩
  refine hK.out _ _ hHeld (fun _ => ?_)
  clear hK K
  try simp only [Act.put, List.setIfInBounds_toArray, List.set_cons_zero, List.set_cons_succ]
  refine' wpAnyH_take (i := 16) (oi := ({ dst := some 20, op := Go.Op.build 34 #[(0, Go.Operand.const (Go.Value.int Go.IntKind.u8 1)), (1, Go.Operand.tmp 7), (2, Go.Operand.tmp 8), (3, Go.Operand.tmp 13), (4, Go.Operand.tmp 15), (5, Go.Operand.tmp 19)], type := 34, pos := "raft.go:134", after := #[{ on := 3, ground := Go.Ground.data }, { on := 4, ground := Go.Ground.data }, { on := 9, ground := Go.Ground.data }, { on := 11, ground := Go.Ground.data }, { on := 15, ground := Go.Ground.data }], guard := none } : Oper)) (v := ?v16) rfl (by kernel_rfl) (by kernel_rfl) (by kernel_rfl) (fun _ _ _ h => h) (Or.inl ⟨by rfl, ?y16⟩) hHeld ?r16
  case y16 => (intro w hSw; try dsimp only at hSw); go_simp; try with_reducible rfl
  case r16 =>
  try simp only [Act.put, List.setIfInBounds_toArray, List.set_cons_zero, List.set_cons_succ]
  refine wpAnyH_ready (rs := [17]) (by kernel_rfl) (by simp) ?_
  refine AllReadyH.cons rfl (fun K hK => ?_) AllReadyH.nil
  rw [if_pos (by rfl)]
  have hlt2 : w.heap.size < W.heap.size := (Array.getElem?_eq_some_iff.1 hmb).1
  refine wp_store_mid 34 (.tmp 3) (.tmp 20) rfl w.heap.size 0 (mc (askTo s k) (.slice none 0 0)) rfl (by simp [mc, askTo, Act.eval]) (there_of_block hmb 0 9 (Nat.le_refl _)) info34 (mc_one _ _ _ _) ?_
  have hmb3 := block_setAll (w := W) (vs := (mc (askTo s k) (.slice none 0 0)).toList) (b := w.heap.size) (C := [.int .u8 0, .int .i64 0, .int .i64 0, .int .i64 0, .int .i64 0, .int .i64 0, .slice none 0 0, .int .i64 0, .bool false]) hmb rfl
  have hB3 := below_setCells w.heap.size (Nat.le_refl _) (mc (askTo s k) (.slice none 0 0)).toList 0 hHeld.1.2
  refine hK.out _ _ (keepT hIs hb hB3) (fun hHeld => ?_)
  clear hK K
  refine wpAnyH_done (by kernel_rfl) ?_ _
  clear hHeld hIs hb
  go_wp2
  refine bodyPost_ret (v := .agg (mc (askTo s k) (.slice none 0 0)).toList.toArray) ?_ rfl ?_
  · exact results_cell rfl _ _ _ w.heap.size (mc (askTo s k) (.slice none 0 0)).toList _ rfl (range_of_block (by simpa using hmb3)) Try.underlying34 rfl info34
  · exact ⟨by simp, hB3⟩

set_option maxRecDepth 100000 in
set_option maxHeartbeats 1000000 in
theorem others_ask (g b : Nat) (s : Srv) (v : Value) (hf : Fit s) (w : World) (h : Is w g s v) (hb : w.cell? ⟨b, 0, none⟩ = some (.pointer (some ⟨g, 0, none⟩))) :
    Calls Try.prog 36 #[.pointer (some ⟨g, 0, none⟩), .func (.func 39) #[] #[.pointer (some ⟨b, 0, none⟩)]] w fun e w' => ∃ v', e = .returned v' ∧ Out w' w.heap.size v' (outs (askTo s) s.id s.nodes) ∧ Below w.heap.size w w' := by
  obtain ⟨i0, hi, hz0, hz1, hz2⟩ := info_parts info34f
  obtain ⟨c1, -⟩ := h.nodes
  obtain ⟨c0, -⟩ := h.id
  have hlt := h.lt
  have hnodes := hf.nodes
  go_enter Try.func36, Try.ntmps36
  go_wp2_with fail
  go_loopw [5, 6, 11] (fun o _ c wr => ∃ i : Nat, i ≤ s.nodes ∧ c = .int .i64 i ∧ Below w.heap.size w wr ∧ Out wr w.heap.size o (outs (askTo s) s.id i)) (fun _ _ c _ => s.nodes - (intOf c).toNat)
  case atStart => exact ⟨0, by omega, rfl, Below.refl _ _, Out.nil _ _⟩
  case round =>
    obtain ⟨i, hi7, rfl, hB, hO⟩ := hrel
    have h1 : Is wr g s v := h.only (S := fun _ => False) (Only.of_below hB) (fun e => e) (fun _ _ e => e)
    obtain ⟨c0, -⟩ := h1.id
    have hsz := hB.size
    rcases Nat.lt_or_ge i s.nodes with hlt2 | hge
    · have b1 : (i : Int) < s.nodes := by omega
      by_cases hid : i = s.id
      · have hE := Lib.hid (show outs (askTo s) s.id (i + 1) = outs (askTo s) s.id i by simp [outs, hid])
        have d2 : ((i : Int) != (s.id : Int)) = false := by simp; omega
        clear hid
        go_wp2_with fail
        go_roundw
        case rel => exact ⟨i + 1, by omega, by go_num, hB, by rw [hE.out]; exact hO⟩
        case measure => simp [intOf]; omega
      · have hE := Lib.hid (show outs (askTo s) s.id (i + 1) = outs (askTo s) s.id i ++ [askTo s i] by simp [outs, hid])
        have d2 : ((i : Int) != (s.id : Int)) = true := by simp; omega
        obtain ⟨l, hl1, hl2, hl3⟩ := hO
        have hl4 : l.length ≤ 7 := by have := outs_len (askTo s) s.id i; rw [← hl1] at this; simp at this; omega
        have HL := Lib.hid hl1
        clear hid hl1
        go_wp2_with fail
        refine (ask_is g b s v i hf _ h1 ((hB.cell (World.block_lt_of_cell? w _ hb)).trans hb)).mono ?_
        rintro e w2 ⟨rfl, hB2⟩
        have ho2 : w2.ownsRow wr.heap.size 39 2 (.slice none 0 0) (askTo s i).entries.length (ents (askTo s i).entries) := World.ownsRow_nil _ _ 39 2
        have hone := own_oneCell ho2
        have hB3 : Below w.heap.size w w2 := hB.trans (hB2.mono hsz)
        have hl2' := own_below hl2 hB2
        have hl3' := fun p hp => own_below (hl3 p hp) hB2
        have ho2' := own_base ho2 hsz
        have hsz2 := hB3.size
        generalize hD : askTo s i = D at *
        clear hl2 hl3
        simp only [mc]
        go_wp2_with (at_builtin; go_loud (refine wpList_append_own _ rfl _ _ 30 rfl w.heap.size 34 i0 _ 9 88 Try.underlying30 hi hz0 hz1 hz2 rfl (by decide) _ l.length (msgs l) rfl (World.ownsRow.alloc hl2' _) ⟨w2.heap.size, 0, none⟩ 1 1 (mc D (.slice none 0 0)).toList rfl rfl (msg_lit w2 D _) (mc_one_list _ _ hone) (by unfold maxLen; omega) (by omega) (by simp; omega) ?_))
        intro v' w3 hown' hgrow _
        have hB4 : Below w.heap.size w w3 := (hB3.alloc hsz2 _).grown hgrow (by simp; omega) (fun k hk => ?_)
        · have hO' := Out.snoc (w := w2.alloc _) (World.ownsRow.alloc hl2' _) (fun p hp => World.ownsRow.alloc (hl3' p hp) _) (World.ownsRow.alloc ho2' _) hgrow hown'
          rw [HL.out] at hO'
          go_wp2_with fail
          go_roundw
          case rel => exact ⟨i + 1, by omega, by go_num, hB4, by rw [hE.out]; exact hO'⟩
          case measure => simp [intOf]; omega
        · exact own_ge hl2' hk
    · have b1 : ¬ (i : Int) < s.nodes := by omega
      obtain rfl : i = s.nodes := by omega
      go_wp2_with fail
      go_ret
      exact ⟨_, rfl, hO, hB⟩
end Rf
end Go.Proofs.Ytdacdkidjgbdoaa
