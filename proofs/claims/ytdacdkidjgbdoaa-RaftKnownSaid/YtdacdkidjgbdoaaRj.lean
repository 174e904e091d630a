/- The contract of raft's Tick. -/
import Derived.Test.YtdacdkidjgbdoaaRi
set_option linter.unusedVariables false
set_option linter.unusedSimpArgs false
namespace Go.Proofs.Ytdacdkidjgbdoaa
open Go Go.RowKit
namespace Rf
attribute [local go_sem ↓] Go.wp_at_zero Go.wp_at_succ

def maxTerm : Int := 1152921504606846976
/-- what a server that somebody made is like -/
structure Ok (s : Srv) : Prop where
  nodes : 1 ≤ s.nodes ∧ s.nodes ≤ 7
  id : s.id < s.nodes
  term : 0 ≤ s.term ∧ s.term ≤ 1152921504606846976
  vote : -1 ≤ s.vote ∧ s.vote < s.nodes
  len : s.log.length ≤ 4096
  commit : s.commit ≤ s.log.length
  role : s.role ≤ 2
  next : s.role = 2 → ∀ k, k < s.nodes → k ≠ s.id → 1 ≤ s.next k ∧ s.next k ≤ s.log.length + 1 ∧ s.mat k < s.next k
  nb : ∀ k, s.next k ≤ 4097
  mb : ∀ k, s.mat k ≤ 4096
  voters : s.voters < 128
theorem Ok.fit {s : Srv} (h : Ok s) : Fit s :=
  ⟨h.nodes.2, by have := h.len; omega, by have := h.commit; have := h.len; omega, fun k => by have := h.mb k; omega, fun k => by have := h.nb k; omega⟩

/-- a server that asks for votes -/
def stand (s : Srv) : Srv := { s with term := s.term + 1, vote := s.id, role := 1, leader := -1, voters := 2 ^ s.id }
def tickS (s : Srv) : Srv := if s.role = 2 ∨ s.term = 1152921504606846976 then s else if s.nodes = 1 then leadS (stand s) else stand s
def tickM (s : Srv) : List Msg :=
  if s.role = 2 then outs (sendTo s) s.id s.nodes else if s.term = 1152921504606846976 then [] else if s.nodes = 1 then outs (sendTo (leadS (stand s))) s.id s.nodes else outs (askTo (stand s)) s.id s.nodes

theorem made0 (w : World) : Calls Try.prog 35 #[.pointer none] w fun e w' => e = .returned (.bool false) ∧ w = w' := by
  go_enter Try.func35, Try.ntmps35
  go_wp2
  go_ret
  exact ⟨rfl, rfl⟩
theorem made1 (g : Nat) (s : Srv) (v : Value) (b : Bool) (w : World) (h : Is w g s v) (hb : decide (0 < s.nodes) = b) : Calls Try.prog 35 #[.pointer (some ⟨g, 0, none⟩)] w fun e w' => e = .returned (.bool b) ∧ w = w' := by
  obtain ⟨c1, f1⟩ := h.nodes
  subst hb
  go_enter Try.func35, Try.ntmps35
  go_wp2
  go_ret
  exact ⟨rfl, rfl⟩

theorem tick_nil (w : World) : Calls Try.prog 9 #[.pointer none] w fun e w' => e = .returned (.slice none 0 0) ∧ Below w.heap.size w w' := by
  go_enter Try.func9, Try.ntmps9
  go_wp2_with fail
  refine (made0 _).mono ?_
  rintro e w' ⟨rfl, rfl⟩
  go_wp2
  go_ret
  exact ⟨rfl, (Below.refl _ w).alloc (Nat.le_refl _) _⟩
theorem tick_zero (g : Nat) (s : Srv) (v : Value) (w : World) (h : Is w g s v) (h0 : s.nodes = 0) : Calls Try.prog 9 #[.pointer (some ⟨g, 0, none⟩)] w fun e w' => e = .returned (.slice none 0 0) ∧ Below w.heap.size w w' := by
  have hB := (Below.refl _ w).alloc (Nat.le_refl _) (.cells #[.pointer (some ⟨g, 0, none⟩)] 22)
  have h1 := h.below hB
  go_enter Try.func9, Try.ntmps9
  go_wp2_with fail
  refine (made1 g s v false _ h1 (by simp [h0])).mono ?_
  rintro e w' ⟨rfl, rfl⟩
  go_wp2
  go_ret
  exact ⟨rfl, hB⟩

theorem Did.quiet {g : Nat} {s : Srv} {v out : Value} {w w' : World} {ms : List Msg} (h : Is w g s v) (hB : Below w.heap.size w w') (ho : Out w' w.heap.size out ms) : Did g v w s ms out w' :=
  Did.of h (Only.refl _ _) (fun k hk => .inl hk) ho hB
theorem Did.below {g : Nat} {s : Srv} {v v1 out : Value} {w w1 w' : World} {ms : List Msg} (h : Did g v1 w1 s ms out w') (hO : Only (Mine g v) w w1) (hv : ∀ k, v1.ownBlock = some k → v.ownBlock = some k ∨ w.heap.size ≤ k) (hg : g < w.heap.size) : Did g v w s ms out w' := by
  obtain ⟨⟨v', base, h1, h2, h3, h4, h5⟩, h6⟩ := h
  have hs := hO.size
  refine ⟨⟨v', base, h1, h2, by omega, h4, fun k hk => ?_⟩, ⟨h6.os.trans hO.os, h6.tape.trans hO.tape, h6.output.trans hO.output, Nat.le_trans hs h6.size, fun k hk hm => ?_⟩⟩
  · rcases h5 k hk with e | e
    · exact hv k e
    · exact .inr (by omega)
  · refine (h6.block k (by omega) (fun e => ?_)).trans (hO.block k hk hm)
    rcases e with e | e
    · exact hm (.inl e)
    · rcases hv k e with e2 | e2
      · exact hm (.inr e2)
      · omega

set_option maxRecDepth 100000 in
set_option maxHeartbeats 1000000 in
theorem tick_lead (g : Nat) (s : Srv) (v : Value) (hk : Ok s) (hr : s.role = 2) (w : World) (h : Is w g s v) :
    Calls Try.prog 9 #[.pointer (some ⟨g, 0, none⟩)] w fun e w' => ∃ out, e = .returned out ∧ Did g v w s (outs (sendTo s) s.id s.nodes) out w' := by
  have hB := (Below.refl _ w).alloc (Nat.le_refl _) (.cells #[.pointer (some ⟨g, 0, none⟩)] 22)
  have h1 := h.below hB
  have hn := hk.nodes
  have hx := hk.next hr
  have F := hk.fit
  obtain ⟨c3, -⟩ := h1.role
  have hlt := h.lt
  rw [hr] at c3
  have HR := Lib.hid hr
  clear hr
  go_enter Try.func9, Try.ntmps9
  go_wp2_with fail
  refine (made1 g s v true _ h1 (by simp; omega)).mono ?_
  rintro e w1 ⟨rfl, rfl⟩
  go_wp2_with fail
  refine (others_send g s v F (fun k h1 h2 => ⟨(hx k h1 h2).1, (hx k h1 h2).2.1⟩) _ h1).mono ?_
  rintro e w2 ⟨out, rfl, hO, hB2⟩
  go_wp2_with fail
  go_ret
  exact ⟨out, rfl, (Did.quiet h1 hB2 hO).below (Only.of_below hB) (fun k hk => .inl hk) hlt⟩
theorem tick_last (g : Nat) (s : Srv) (v : Value) (hk : Ok s) (hr : s.role ≠ 2) (ht : s.term = 1152921504606846976) (w : World) (h : Is w g s v) :
    Calls Try.prog 9 #[.pointer (some ⟨g, 0, none⟩)] w fun e w' => ∃ out, e = .returned out ∧ Did g v w s [] out w' := by
  have hB := (Below.refl _ w).alloc (Nat.le_refl _) (.cells #[.pointer (some ⟨g, 0, none⟩)] 22)
  have h1 := h.below hB
  have hn := hk.nodes
  obtain ⟨c3, -⟩ := h1.role
  obtain ⟨c2, -⟩ := h1.term
  have hlt := h.lt
  rw [ht] at c2
  have d1 : ((s.role : Int) == 2) = false := by simp; omega
  have HR := Lib.hid ht
  clear hr ht
  go_enter Try.func9, Try.ntmps9
  go_wp2_with fail
  refine (made1 g s v true _ h1 (by simp; omega)).mono ?_
  rintro e w1 ⟨rfl, rfl⟩
  go_wp2_with fail
  go_ret
  exact ⟨_, rfl, (Did.quiet h1 (Below.refl _ _) (Out.nil _ _)).below (Only.of_below hB) (fun k hk => .inl hk) hlt⟩

end Rf
end Go.Proofs.Ytdacdkidjgbdoaa
