/- The contract of raft's lead. -/
import Derived.Test.YtdacdkidjgbdoaaRh
set_option linter.unusedVariables false
set_option linter.unusedSimpArgs false
namespace Go.Proofs.Ytdacdkidjgbdoaa
open Go Go.RowKit
namespace Rf
attribute [local go_sem ↓] Go.wp_at_zero Go.wp_at_succ

def upd (f : Nat → Nat) (k n : Nat) : Nat → Nat := fun j => if j = k then n else f j
theorem rc_next (s : Srv) (v : Value) {k : Nat} (hk : k < 7) (n : Nat) : (rc s v).setIfInBounds (9 + k) (.int .i64 n) = rc { s with next := upd s.next k n } v := by
  rcases (by omega : k = 0 ∨ k = 1 ∨ k = 2 ∨ k = 3 ∨ k = 4 ∨ k = 5 ∨ k = 6) with rfl | rfl | rfl | rfl | rfl | rfl | rfl <;> rfl
theorem rc_mat (s : Srv) (v : Value) {k : Nat} (hk : k < 7) (n : Nat) : (rc s v).setIfInBounds (16 + k) (.int .i64 n) = rc { s with mat := upd s.mat k n } v := by
  rcases (by omega : k = 0 ∨ k = 1 ∨ k = 2 ∨ k = 3 ∨ k = 4 ∨ k = 5 ∨ k = 6) with rfl | rfl | rfl | rfl | rfl | rfl | rfl <;> rfl
/-- a leader's numbers, of the first n -/
def lead0 (s : Srv) (n : Nat) : Srv := { s with role := 2, leader := s.id, next := fun k => if k < n then s.log.length + 1 else s.next k, mat := fun k => if k < n then 0 else s.mat k }
theorem upd_step (f : Nat → Nat) (n c : Nat) : (fun k => if k < n + 1 then c else f k) = upd (fun k => if k < n then c else f k) n c := by
  funext k
  unfold upd
  by_cases h : k = n
  · simp [h]
  · have : k < n + 1 ↔ k < n := by omega
    simp [h, this]
theorem lead0_succ (s : Srv) (n : Nat) : lead0 s (n + 1) = { lead0 s n with next := upd (lead0 s n).next n (s.log.length + 1), mat := upd (lead0 s n).mat n 0 } := by
  simp only [lead0, upd_step]
theorem lead0_zero (s : Srv) : lead0 s 0 = { s with role := 2, leader := s.id } := by
  simp [lead0]

/-- with the empty entry -/
def lead1 (s : Srv) : Srv := if s.log.length < 4096 then { s with log := s.log ++ [⟨s.term, ⟨#[]⟩⟩] } else s
def agreed (s : Srv) : Srv := { s with commit := agreeTo s s.log.length }
def leadS (s : Srv) : Srv := agreed (lead1 (lead0 s s.nodes))

/-- what a deed leaves: the server, the messages -/
structure Did (g : Nat) (v : Value) (w : World) (s' : Srv) (ms : List Msg) (out : Value) (w' : World) : Prop where
  ex : ∃ v' base, Is w' g s' v' ∧ Out w' base out ms ∧ w.heap.size ≤ base ∧ (∀ k, v'.ownBlock = some k → k < base) ∧ (∀ k, v'.ownBlock = some k → v.ownBlock = some k ∨ w.heap.size ≤ k)
  only : Only (Mine g v) w w'

theorem Is.own_lt {w : World} {g : Nat} {s : Srv} {v : Value} (h : Is w g s v) {k : Nat} (hk : v.ownBlock = some k) : k < w.heap.size := by
  rcases h.log.2 with ⟨rfl, _⟩ | ⟨k2, cap, cur, rfl, _, hh, _⟩
  · cases hk
  · have : k2 = k := by injection hk
    subst this
    exact (Array.getElem?_eq_some_iff.1 hh).1
theorem Is.below {w w' : World} {g : Nat} {s : Srv} {v : Value} (h : Is w g s v) (hB : Below w.heap.size w w') : Is w' g s v := h.only (S := fun _ => False) (Only.of_below hB) (fun e => e) (fun _ _ e => e)
/-- the messages behind a state -/
theorem Did.of {g : Nat} {v v1 out : Value} {w w1 w' : World} {s' : Srv} {ms : List Msg} (h1 : Is w1 g s' v1) (hO : Only (Mine g v) w w1) (hv : ∀ k, v1.ownBlock = some k → v.ownBlock = some k ∨ w.heap.size ≤ k)
    (ho : Out w' w1.heap.size out ms) (hB : Below w1.heap.size w1 w') : Did g v w s' ms out w' :=
  ⟨⟨v1, w1.heap.size, h1.below hB, ho, hO.size, fun k hk => h1.own_lt hk, hv⟩, hO.trans (Only.of_below hB |>.weak (fun _ e => e))⟩

theorem Fit.lead0 {s : Srv} (h : Fit s) (n : Nat) : Fit (lead0 s n) :=
  ⟨h.nodes, h.len, h.commit, fun k => by have := h.mat k; unfold Rf.lead0; dsimp only; split <;> omega, fun k => by have := h.next k; have := h.len; unfold Rf.lead0; dsimp only; split <;> omega⟩
theorem Fit.lead1 {s : Srv} (h : Fit s) : Fit (lead1 s) := by
  unfold Rf.lead1
  split
  · exact ⟨h.nodes, by simp only [List.length_append, List.length_singleton]; omega, h.commit, h.mat, h.next⟩
  · exact h
theorem agreeTo_le (s : Srv) (n : Nat) : agreeTo s n ≤ max n s.commit := by
  induction n with
  | zero => unfold agreeTo; omega
  | succ n ih => unfold agreeTo; repeat' split
                 all_goals omega
theorem Fit.agreed {s : Srv} (h : Fit s) : Fit (agreed s) :=
  ⟨h.nodes, h.len, by have := agreeTo_le s s.log.length; have := h.len; have := h.commit; show agreeTo s s.log.length ≤ _; omega, h.mat, h.next⟩

theorem leadS_id (s : Srv) : (leadS s).id = s.id := by unfold leadS agreed lead1; split <;> rfl
theorem leadS_nodes (s : Srv) : (leadS s).nodes = s.nodes := by unfold leadS agreed lead1; split <;> rfl
theorem leadS_nx (s : Srv) {k : Nat} (hk : k < (leadS s).nodes) : 1 ≤ (leadS s).next k ∧ (leadS s).next k ≤ (leadS s).log.length + 1 := by
  rw [leadS_nodes] at hk
  unfold leadS agreed lead1
  split <;> simp [lead0, hk] <;> omega

set_option maxRecDepth 100000 in
set_option maxHeartbeats 2000000 in
theorem lead_is (g : Nat) (s : Srv) (v : Value) (hf : Fit s) (w : World) (h : Is w g s v) :
    Calls Try.prog 38 #[.pointer (some ⟨g, 0, none⟩)] w fun e w' => ∃ out, e = .returned out ∧ Did g v w (leadS s) (outs (sendTo (leadS s)) s.id s.nodes) out w' := by
  obtain ⟨c1, f1⟩ := h.nodes
  obtain ⟨c0, f0⟩ := h.id
  obtain ⟨c5, f5⟩ := h.role
  obtain ⟨c6, f6⟩ := h.leader
  have hlt := h.lt
  have hnodes := hf.nodes
  have hln := hf.len
  go_enter Try.func38, Try.ntmps38
  go_wp2_with fail
  have h1 := (h.set (s' := { s with role := 2 }) rfl 5 (.int .u8 2) rfl).set (s' := { s with role := 2, leader := s.id }) rfl 6 (.int .i64 s.id) rfl
  have hO := Only.set (S := fun k => k = g) (Only.set (S := fun k => k = g) (Only.refl _ w) (p := ⟨g, 5, none⟩) (.inl rfl) (.int .u8 2)) (p := ⟨g, 6, none⟩) (.inl rfl) (.int .i64 s.id)
  rw [← lead0_zero] at h1
  generalize ((w.setCell ⟨g, 5, none⟩ (.int .u8 2)).setCell ⟨g, 6, none⟩ (.int .i64 s.id)) = W at *
  go_loopw [3, 18] (fun _ c wr => ∃ i : Nat, i ≤ s.nodes ∧ c = .int .i64 i ∧ Is wr g (lead0 s i) v ∧ Only (fun k => k = g) w wr) (fun _ c _ => s.nodes - (intOf c).toNat)
  case atStart => exact ⟨0, by omega, rfl, h1, hO⟩
  case round =>
    obtain ⟨i, hi7, rfl, hIs, hOn⟩ := hrel
    clear h1 hO c1 f1 c0 f0 c5 f5 c6 f6
    rcases Nat.lt_or_ge i s.nodes with hlt2 | hge
    · have b1 : (i : Int) < s.nodes := by omega
      have b7 : (i : Int) < 7 := by omega
      have cl : Calls Try.prog 40 #[.pointer (some ⟨g, 0, none⟩)] (wr.drewN 1) fun e w' => e = .returned (.int .i64 s.log.length) ∧ wr.drewN 1 = w' := last_is g (lead0 s i) v _ (hIs.drewN 1)
      have hw : IntKind.i64.wrap ((s.log.length : Int) + 1) = (s.log.length + 1 : Nat) := by rw [IntKind.wrap_i64] <;> omega
      have hI1 := (hIs.drewN 1).set (s' := { lead0 s i with next := upd (lead0 s i).next i (s.log.length + 1) }) rfl (9 + i) _ (rc_next (lead0 s i) v (by omega) (s.log.length + 1))
      have hI2 := hI1.set (s' := { lead0 s i with next := upd (lead0 s i).next i (s.log.length + 1), mat := upd (lead0 s i).mat i 0 }) rfl (16 + i) _ (rc_mat _ v (by omega) 0)
      have hO2 := Only.set (S := fun k => k = g) (Only.set (S := fun k => k = g) (hOn.drewN 1) (p := ⟨g, 9 + i, none⟩) (.inl rfl) (.int .i64 (s.log.length + 1 : Nat))) (p := ⟨g, 16 + i, none⟩) (.inl rfl) (.int .i64 (0 : Nat))
      obtain ⟨x1, y1⟩ := hIs.nexts (k := i) (by omega)
      obtain ⟨x2, y2⟩ := hIs.mats (k := i) (by omega)
      rw [← lead0_succ] at hI2
      push_cast at hI2 hO2
      clear hI1
      go_wp2_with fail
      refine wp_region_held_drew (S := fun _ => True) (by kernel_rfl) trivial (fun hHeld => ?_)
      refine' wpAnyH_take (i := 0) (oi := ({ dst := some 21, op := Go.Op.move (Go.Operand.tmp 0), type := 22, pos := "raft.go:109", after := #[], guard := none } : Oper)) (v := ?v0) rfl (by kernel_rfl) (by kernel_rfl) (by kernel_rfl) (fun _ _ _ h => h) (Or.inl ⟨by rfl, ?y0⟩) hHeld ?r0
      case y0 => (intro w hSw; try dsimp only at hSw); go_simp; try with_reducible rfl
      case r0 =>
      try simp only [Act.put, List.setIfInBounds_toArray, List.set_cons_zero, List.set_cons_succ]
      refine' wpAnyH_take (i := 1) (oi := ({ dst := some 22, op := Go.Op.move (Go.Operand.tmp 3), type := 3, pos := "raft.go:109", after := #[], guard := none } : Oper)) (v := ?v1) rfl (by kernel_rfl) (by kernel_rfl) (by kernel_rfl) (fun _ _ _ h => h) (Or.inl ⟨by rfl, ?y1⟩) hHeld ?r1
      case y1 => (intro w hSw; try dsimp only at hSw); go_simp; try with_reducible rfl
      case r1 =>
      try simp only [Act.put, List.setIfInBounds_toArray, List.set_cons_zero, List.set_cons_succ]
      refine' wpAnyH_take (i := 2) (oi := ({ dst := some 23, op := Go.Op.move (Go.Operand.tmp 0), type := 22, pos := "raft.go:109", after := #[{ on := 10, ground := Go.Ground.gcOnly Go.Departure.lateStores }], guard := none } : Oper)) (v := ?v2) rfl (by kernel_rfl) (by kernel_rfl) (by kernel_rfl) (fun _ _ _ h => h) (Or.inl ⟨by rfl, ?y2⟩) hHeld ?r2
      case y2 => (intro w hSw; try dsimp only at hSw); go_simp; try with_reducible rfl
      case r2 =>
      try simp only [Act.put, List.setIfInBounds_toArray, List.set_cons_zero, List.set_cons_succ]
      refine' wpAnyH_take (i := 3) (oi := ({ dst := some 24, op := Go.Op.move (Go.Operand.tmp 3), type := 3, pos := "raft.go:109", after := #[{ on := 10, ground := Go.Ground.gcOnly Go.Departure.lateStores }], guard := none } : Oper)) (v := ?v3) rfl (by kernel_rfl) (by kernel_rfl) (by kernel_rfl) (fun _ _ _ h => h) (Or.inl ⟨by rfl, ?y3⟩) hHeld ?r3
      case y3 => (intro w hSw; try dsimp only at hSw); go_simp; try with_reducible rfl
      case r3 =>
      try simp only [Act.put, List.setIfInBounds_toArray, List.set_cons_zero, List.set_cons_succ]
      refine' wpAnyH_take (i := 4) (oi := ({ dst := some 25, op := Go.Op.move (Go.Operand.tmp 0), type := 22, pos := "raft.go:109", after := #[], guard := none } : Oper)) (v := ?v4) rfl (by kernel_rfl) (by kernel_rfl) (by kernel_rfl) (fun _ _ _ h => h) (Or.inl ⟨by rfl, ?y4⟩) hHeld ?r4
      case y4 => (intro w hSw; try dsimp only at hSw); go_simp; try with_reducible rfl
      case r4 =>
      try simp only [Act.put, List.setIfInBounds_toArray, List.set_cons_zero, List.set_cons_succ]
      refine' wpAnyH_take (i := 7) (oi := ({ dst := some 28, op := Go.Op.nilCheck (Go.Operand.tmp 21), type := 0, pos := "raft.go:109", after := #[{ on := 0, ground := Go.Ground.data }], guard := none } : Oper)) (v := ?v7) rfl (by kernel_rfl) (by kernel_rfl) (by kernel_rfl) (fun _ _ _ h => h) (Or.inl ⟨by rfl, ?y7⟩) hHeld ?r7
      case y7 => (intro w hSw; try dsimp only at hSw); go_simp; try with_reducible rfl
      case r7 =>
      try simp only [Act.put, List.setIfInBounds_toArray, List.set_cons_zero, List.set_cons_succ]
      refine' wpAnyH_take (i := 8) (oi := ({ dst := some 29, op := Go.Op.fieldAddr 74 (Go.Operand.tmp 28) 7, type := 0, pos := "raft.go:109", after := #[{ on := 7, ground := Go.Ground.data }], guard := none } : Oper)) (v := ?v8) rfl (by kernel_rfl) (by kernel_rfl) (by kernel_rfl) (fun _ _ _ h => h) (Or.inl ⟨by rfl, ?y8⟩) hHeld ?r8
      case y8 => (intro w hSw; try dsimp only at hSw); go_simp; try with_reducible rfl
      case r8 =>
      try simp only [Act.put, List.setIfInBounds_toArray, List.set_cons_zero, List.set_cons_succ]
      refine' wpAnyH_take (i := 11) (oi := ({ dst := some 31, op := Go.Op.nilCheck (Go.Operand.tmp 23), type := 0, pos := "raft.go:109", after := #[{ on := 2, ground := Go.Ground.data }], guard := none } : Oper)) (v := ?v11) rfl (by kernel_rfl) (by kernel_rfl) (by kernel_rfl) (fun _ _ _ h => h) (Or.inl ⟨by rfl, ?y11⟩) hHeld ?r11
      case y11 => (intro w hSw; try dsimp only at hSw); go_simp; try with_reducible rfl
      case r11 =>
      try simp only [Act.put, List.setIfInBounds_toArray, List.set_cons_zero, List.set_cons_succ]
      refine' wpAnyH_take (i := 12) (oi := ({ dst := some 32, op := Go.Op.fieldAddr 74 (Go.Operand.tmp 31) 8, type := 0, pos := "raft.go:109", after := #[{ on := 11, ground := Go.Ground.data }], guard := none } : Oper)) (v := ?v12) rfl (by kernel_rfl) (by kernel_rfl) (by kernel_rfl) (fun _ _ _ h => h) (Or.inl ⟨by rfl, ?y12⟩) hHeld ?r12
      case y12 => (intro w hSw; try dsimp only at hSw); go_simp; try with_reducible rfl
      case r12 =>
      try simp only [Act.put, List.setIfInBounds_toArray, List.set_cons_zero, List.set_cons_succ]
      refine wpAnyH_ready (rs := [5]) (by kernel_rfl) (by simp) ?_
      refine AllReadyH.cons rfl (fun K hK => ?_) AllReadyH.nil
      go_simp
      refine cl.mono ?_
      rintro e w' ⟨rfl, rfl⟩
      refine hK.out _ _ trivial (fun _ => ?_)
      clear hK K
      try simp only [Act.put, List.setIfInBounds_toArray, List.set_cons_zero, List.set_cons_succ]
      refine' wpAnyH_take (i := 6) (oi := ({ dst := some 27, op := Go.Op.binOp Go.BinOp.add 3 (Go.Operand.tmp 26) (Go.Operand.const (Go.Value.int Go.IntKind.i64 1)) 3, type := 3, pos := "raft.go:109", after := #[{ on := 5, ground := Go.Ground.data }], guard := none } : Oper)) (v := ?v6) rfl (by kernel_rfl) (by kernel_rfl) (by kernel_rfl) (fun _ _ _ h => h) (Or.inl ⟨by rfl, ?y6⟩) hHeld ?r6
      case y6 => (intro w hSw; try dsimp only at hSw); go_simp; try with_reducible rfl
      case r6 =>
      try simp only [Act.put, List.setIfInBounds_toArray, List.set_cons_zero, List.set_cons_succ]
      refine' wpAnyH_take (i := 9) (oi := ({ dst := some 30, op := Go.Op.indexAddr 50 (Go.Operand.tmp 29) (Go.Operand.tmp 22), type := 0, pos := "raft.go:109", after := #[{ on := 8, ground := Go.Ground.data }, { on := 1, ground := Go.Ground.data }, { on := 0, ground := Go.Ground.phase }, { on := 1, ground := Go.Ground.phase }, { on := 2, ground := Go.Ground.textOnly Go.Departure.lateStores }, { on := 3, ground := Go.Ground.textOnly Go.Departure.lateStores }, { on := 4, ground := Go.Ground.phase }, { on := 5, ground := Go.Ground.phase }, { on := 6, ground := Go.Ground.phase }], guard := none } : Oper)) (v := ?v9) rfl (by kernel_rfl) (by kernel_rfl) (by kernel_rfl) (fun _ _ _ h => h) (Or.inl ⟨by rfl, ?y9⟩) hHeld ?r9
      case y9 => (intro w hSw; try dsimp only at hSw); go_simp; try with_reducible rfl
      case r9 =>
      try simp only [Act.put, List.setIfInBounds_toArray, List.set_cons_zero, List.set_cons_succ]
      refine wpAnyH_ready (rs := [10]) (by kernel_rfl) (by simp) ?_
      refine AllReadyH.cons rfl (fun K hK => ?_) AllReadyH.nil
      go_simp
      refine hK.out _ _ trivial (fun _ => ?_)
      clear hK K
      try simp only [Act.put, List.setIfInBounds_toArray, List.set_cons_zero, List.set_cons_succ]
      refine' wpAnyH_take (i := 13) (oi := ({ dst := some 33, op := Go.Op.indexAddr 50 (Go.Operand.tmp 32) (Go.Operand.tmp 24), type := 0, pos := "raft.go:109", after := #[{ on := 12, ground := Go.Ground.data }, { on := 3, ground := Go.Ground.data }, { on := 0, ground := Go.Ground.phase }, { on := 1, ground := Go.Ground.phase }, { on := 2, ground := Go.Ground.phase }, { on := 3, ground := Go.Ground.phase }, { on := 4, ground := Go.Ground.phase }, { on := 5, ground := Go.Ground.phase }, { on := 6, ground := Go.Ground.phase }, { on := 7, ground := Go.Ground.phase }, { on := 8, ground := Go.Ground.phase }, { on := 9, ground := Go.Ground.phase }, { on := 10, ground := Go.Ground.phase }], guard := none } : Oper)) (v := ?v13) rfl (by kernel_rfl) (by kernel_rfl) (by kernel_rfl) (fun _ _ _ h => h) (Or.inl ⟨by rfl, ?y13⟩) hHeld ?r13
      case y13 => (intro w hSw; try dsimp only at hSw); go_simp; try with_reducible rfl
      case r13 =>
      try simp only [Act.put, List.setIfInBounds_toArray, List.set_cons_zero, List.set_cons_succ]
      refine wpAnyH_ready (rs := [14]) (by kernel_rfl) (by simp) ?_
      refine AllReadyH.cons rfl (fun K hK => ?_) AllReadyH.nil
      go_simp
      refine hK.out _ _ trivial (fun _ => ?_)
      clear hK K
      refine wpAnyH_done (by kernel_rfl) ?_ _
      try simp only [Act.put]
      go_simp
      go_wp2_with fail
      go_roundw
      case rel => exact ⟨i + 1, by omega, by go_num, hI2, hO2⟩
      case measure => simp [intOf]; omega
    · have b1 : ¬ (i : Int) < s.nodes := by omega
      obtain rfl : i = s.nodes := by omega
      have hI0 : Is wr g (lead0 s s.nodes) v := hIs
      have F0 := hf.lead0 s.nodes
      have cl0 : Calls Try.prog 40 #[.pointer (some ⟨g, 0, none⟩)] wr fun e w' => e = .returned (.int .i64 s.log.length) ∧ wr = w' := last_is g (lead0 s s.nodes) v _ hI0
      have hl0 : (lead0 s s.nodes).log = s.log := rfl
      go_wp2_with fail
      refine cl0.mono ?_
      rintro e w' ⟨rfl, rfl⟩
      have hl1 : (lead0 s s.nodes).log.length = s.log.length := rfl
      have hmine : Only (Mine g v) w wr := hOn.weak (fun k e => .inl e)
      by_cases hfull : s.log.length < 4096
      · have b2 : (s.log.length : Int) < 4096 := by omega
        have hS1 : lead1 (lead0 s s.nodes) = { lead0 s s.nodes with log := (lead0 s s.nodes).log ++ [⟨(lead0 s s.nodes).term, ⟨#[]⟩⟩] } := by unfold lead1; rw [if_pos (show (lead0 s s.nodes).log.length < 4096 from hfull)]
        have HS1 := Lib.hid hS1
        have F1 := F0.lead1
        clear hl0 hl1 hS1
        go_wp2_with fail
        refine (put_is g (lead0 s s.nodes) v ⟨#[]⟩ (by have := F0.len; omega) _ hI0).mono ?_
        rintro e w2 ⟨rfl, v2, hI2, hOn2, hv2⟩
        rw [← HS1.out] at hI2
        have hO3 := hmine.trans hOn2
        go_wp2_with fail
        refine (agree_is g _ v2 F1 _ hI2).mono ?_
        rintro e w3 ⟨rfl, hI3, hOn3⟩
        have hv3 : ∀ k, v2.ownBlock = some k → v.ownBlock = some k ∨ w.heap.size ≤ k := fun k hk => by
          rcases hv2 k hk with e | e
          · exact .inl e
          · have := hmine.size; exact .inr (by omega)
        have hO4 := hO3.trans (hOn3.weak (T := Mine g v) (fun k e => .inl e))
        have hI3' : Is w3 g (leadS s) v2 := hI3
        have F2 : Fit (leadS s) := F1.agreed
        go_wp2_with fail
        refine (others_send g (leadS s) v2 F2 (fun k hk _ => leadS_nx s hk) _ hI3').mono ?_
        rintro e w4 ⟨out, rfl, hOut, hB⟩
        rw [leadS_id, leadS_nodes] at hOut
        go_wp2_with fail
        go_ret
        exact ⟨out, rfl, Did.of hI3' hO4 hv3 hOut hB⟩
      · have b2 : ¬ (s.log.length : Int) < 4096 := by omega
        have hS1 : lead1 (lead0 s s.nodes) = lead0 s s.nodes := by unfold lead1; rw [if_neg (show ¬ (lead0 s s.nodes).log.length < 4096 from hfull)]
        have HS1 := Lib.hid hS1
        clear hl0 hl1 hS1
        go_wp2_with fail
        refine (agree_is g _ v F0 _ hI0).mono ?_
        rintro e w3 ⟨rfl, hI3, hOn3⟩
        have hO4 := hmine.trans (hOn3.weak (T := Mine g v) (fun k e => .inl e))
        have hI3' : Is w3 g (leadS s) v := by unfold leadS; rw [HS1.out]; exact hI3
        have F2 : Fit (leadS s) := F0.lead1.agreed
        go_wp2_with fail
        refine (others_send g (leadS s) v F2 (fun k hk _ => leadS_nx s hk) _ hI3').mono ?_
        rintro e w4 ⟨out, rfl, hOut, hB⟩
        rw [leadS_id, leadS_nodes] at hOut
        go_wp2_with fail
        go_ret
        exact ⟨out, rfl, Did.of hI3' hO4 (fun k hk => .inl hk) hOut hB⟩
end Rf
end Go.Proofs.Ytdacdkidjgbdoaa
