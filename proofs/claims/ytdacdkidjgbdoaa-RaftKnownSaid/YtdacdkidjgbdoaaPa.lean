/- Plain: what stays so of a server behind Tick, Propose. -/
import Derived.Test.YtdacdkidjgbdoaaRq
set_option linter.unusedVariables false
set_option linter.unusedSimpArgs false
namespace Go.Proofs.Ytdacdkidjgbdoaa
open Go Go.RowKit
namespace Rf

theorem Ok.stand {s : Srv} (h : Ok s) (ht : s.term ≠ 1152921504606846976) : Ok (stand s) := by
  have hn := h.nodes; have hi := h.id; have htm := h.term
  refine ⟨h.nodes, h.id, ⟨?_, ?_⟩, ⟨?_, ?_⟩, h.len, h.commit, ?_, ?_, h.nb, h.mb, ?_⟩ <;> dsimp only [Rf.stand]
  · omega
  · omega
  · omega
  · omega
  · omega
  · intro h2; cases h2
  · have : s.id ≤ 6 := by omega
    calc 2 ^ s.id ≤ 2 ^ 6 := Nat.pow_le_pow_right (by omega) this
      _ < 128 := by omega
theorem Ok.lead0 {s : Srv} (h : Ok s) : Ok (lead0 s s.nodes) := by
  have hn := h.nodes; have hl := h.len
  refine ⟨h.nodes, h.id, h.term, h.vote, h.len, h.commit, Nat.le_refl 2, ?_, ?_, ?_, h.voters⟩
  · intro _ k hk _
    have hk2 : k < s.nodes := hk
    simp only [Rf.lead0, if_pos hk2]
    omega
  · intro k; have := h.nb k; simp only [Rf.lead0]; split <;> omega
  · intro k; have := h.mb k; simp only [Rf.lead0]; split <;> omega
theorem Ok.plus {s : Srv} (h : Ok s) (d : ByteArray) (hl : s.log.length ≠ 4096) : Ok (plus s d) := by
  have hl2 := h.len; have hc := h.commit
  refine ⟨h.nodes, h.id, h.term, h.vote, ?_, ?_, h.role, ?_, h.nb, h.mb, h.voters⟩ <;> simp only [Rf.plus, List.length_append, List.length_singleton]
  · omega
  · omega
  · intro h2 k hk hk2
    obtain ⟨x, y, z⟩ := h.next h2 k hk hk2
    exact ⟨x, by omega, z⟩
theorem lead1_eq (s : Srv) : lead1 s = if s.log.length < 4096 then plus s ⟨#[]⟩ else s := rfl
theorem Ok.lead1 {s : Srv} (h : Ok s) : Ok (lead1 s) := by
  rw [lead1_eq]
  split
  · exact h.plus _ (by omega)
  · exact h
theorem Ok.agreed {s : Srv} (h : Ok s) : Ok (agreed s) :=
  ⟨h.nodes, h.id, h.term, h.vote, h.len, by have := agreeTo_le s s.log.length; have := h.commit; show agreeTo s s.log.length ≤ s.log.length; omega, h.role, h.next, h.nb, h.mb, h.voters⟩
theorem Ok.leadS {s : Srv} (h : Ok s) : Ok (leadS s) := h.lead0.lead1.agreed
theorem Ok.tick {s : Srv} (h : Ok s) : Ok (tickS s) := by
  unfold tickS
  split
  · exact h
  · rename_i hc
    have h1 := h.stand (fun e => hc (.inr e))
    split
    · exact h1.leadS
    · exact h1
theorem Ok.propose {s : Srv} (h : Ok s) (d : ByteArray) : Ok (proposeS s d) := by
  unfold proposeS
  split
  · exact h
  · rename_i hc
    exact (h.plus d (fun e => hc (.inr (.inr e)))).agreed
theorem Ok.newS {id nodes : Nat} {t v : Int} {l : List Ent} (h1 : 1 ≤ nodes) (h2 : nodes ≤ 7) (h4 : id < nodes) (hm : mayB t v l nodes = true) : Ok (newS id nodes t v l) := by
  unfold mayB at hm
  simp only [Bool.and_eq_true, decide_eq_true_eq] at hm
  obtain ⟨⟨⟨⟨⟨a, b⟩, c⟩, d⟩, e⟩, f⟩ := hm
  refine ⟨⟨h1, h2⟩, h4, ⟨a, b⟩, ⟨c, d⟩, e, Nat.zero_le _, Nat.zero_le _, ?_, fun _ => Nat.zero_le _, fun _ => Nat.zero_le _, ?_⟩
  · intro h; cases h
  · show 0 < 128; omega

/-- one alone: behind a Tick and a proposal -/
def alone0 : Srv := newS 0 1 0 (-1) []
def xText : ByteArray := ⟨#[120]⟩
theorem alone_may : mayB 0 (-1) [] ((1 : Nat) : Int) = true := by decide
theorem alone_ok : Ok alone0 := Ok.newS (by omega) (by omega) (by omega) alone_may
theorem alone_M : tickM alone0 = [] := by rfl
theorem alone_N : proposeN (tickS alone0) xText = 2 ∧ proposeE (tickS alone0) xText = 0 := by
  constructor <;> rfl
theorem alone_C : (proposeS (tickS alone0) xText).commit = 2 ∧ (proposeS (tickS alone0) xText).role = 2 := by
  constructor <;> rfl
end Rf
end Go.Proofs.Ytdacdkidjgbdoaa
