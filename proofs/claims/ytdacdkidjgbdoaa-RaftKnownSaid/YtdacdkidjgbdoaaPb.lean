/- Plain: what stays so of a server behind a message; the examples of RaftKnown. -/
import Derived.Test.YtdacdkidjgbdoaaNb
set_option linter.unusedVariables false
set_option linter.unusedSimpArgs false
namespace Go.Proofs.Ytdacdkidjgbdoaa
open Go Go.RowKit
namespace Rf

theorem Ok.asked {s : Srv} (h : Ok s) {m : Msg} (hm : Heard s m) : Ok (askedS s m) := by
  unfold askedS
  split
  · exact ⟨h.nodes, h.id, h.term, ⟨by have := hm.src.1; show -1 ≤ m.src; omega, hm.src.2.1⟩, h.len, h.commit, h.role, h.next, h.nb, h.mb, h.voters⟩
  · exact h
theorem Ok.counted {s : Srv} (h : Ok s) {f : Nat} (hf : f < 7) : Ok (counted s f) :=
  ⟨h.nodes, h.id, h.term, h.vote, h.len, h.commit, h.role, h.next, h.nb, h.mb, or_lt _ _ h.voters hf⟩
theorem Ok.voted {s : Srv} (h : Ok s) {m : Msg} (hm : Heard s m) : Ok (votedS s m) := by
  have hf : m.src.toNat < 7 := by have := hm.src; have := h.nodes; omega
  unfold votedS
  split
  · split
    · exact h.counted hf
    · exact (h.counted hf).leadS
  · exact h
theorem Ok.toldNo {s : Srv} (h : Ok s) (hr : s.role = 2) {k i : Nat} (hk : k < s.nodes) (hk2 : k ≠ s.id) (hi : i ≤ 4096) : Ok (toldNo s k i) := by
  obtain ⟨x, y, z⟩ := h.next hr k hk hk2
  refine ⟨h.nodes, h.id, h.term, h.vote, h.len, h.commit, h.role, ?_, ?_, h.mb, h.voters⟩
  · intro _ j hj hj2
    simp only [Rf.toldNo, upd]
    by_cases e : j = k
    · subst e; simp only [if_true]; refine ⟨?_, ?_, ?_⟩ <;> omega
    · simp only [if_neg e]; exact h.next hr j hj hj2
  · intro j
    simp only [Rf.toldNo, upd]
    have := h.nb j; have := h.nb k
    split <;> omega
theorem Ok.toldUp {s : Srv} (h : Ok s) (hr : s.role = 2) {k i : Nat} (hk : k < s.nodes) (hk2 : k ≠ s.id) (hi : i ≤ s.log.length) : Ok (toldUp s k i) := by
  obtain ⟨x, y, z⟩ := h.next hr k hk hk2
  have hl := h.len
  refine ⟨h.nodes, h.id, h.term, h.vote, h.len, h.commit, h.role, ?_, ?_, ?_, h.voters⟩
  · intro _ j hj hj2
    simp only [Rf.toldUp, upd]
    by_cases e : j = k
    · subst e; simp only [if_true]; refine ⟨?_, ?_, ?_⟩ <;> omega
    · simp only [if_neg e]; exact h.next hr j hj hj2
  · intro j
    simp only [Rf.toldUp, upd]
    have := h.nb j; have := h.mb k
    split <;> omega
  · intro j
    simp only [Rf.toldUp, upd]
    have := h.mb j; have := h.mb k
    split <;> omega
theorem Ok.told {s : Srv} (h : Ok s) {m : Msg} (hm : Heard s m) : Ok (toldS s m) := by
  have hs := hm.src; have hi := hm.index
  unfold toldS
  split
  · rename_i ho
    unfold toldOn at ho
    simp only [Bool.and_eq_true, decide_eq_true_eq] at ho
    obtain ⟨r, -, l⟩ := ho
    split
    · rename_i hok
      rw [hok] at l
      simp at l
      exact (h.toldUp r (by omega) (by omega) (by omega)).agreed
    · exact h.toldNo r (by omega) (by omega) (by omega)
  · exact h
theorem Ok.follow {s : Srv} (h : Ok s) (t : Int) : Ok (follow s t) :=
  ⟨h.nodes, h.id, h.term, h.vote, h.len, h.commit, Nat.zero_le _, (fun e => by cases e), h.nb, h.mb, h.voters⟩
theorem appLog_len {s : Srv} {m : Msg} (hx : ¬ appMiss s m) : (appLog s m).length = m.index.toNat + appI s m + (m.entries.length - appI s m) := by
  unfold appMiss at hx
  have h1 : m.index.toNat ≤ s.log.length := by
    rcases Nat.lt_or_ge s.log.length m.index.toNat with x | x
    · exact absurd (.inl x) hx
    · exact x
  have h2 : m.index.toNat + appI s m ≤ s.log.length := diffN_ix s.log m.index.toNat m.entries h1
  unfold appLog
  rw [List.length_append, List.length_take, List.length_drop]
  omega
theorem diffN_full (l : List Ent) (ix : Nat) (es : List Ent) (hix : ix ≤ l.length) (h : diffN l ix es = es.length) : ix + es.length ≤ l.length := by
  have := diffN_ix l ix es hix
  omega
theorem Ok.app {s : Srv} (h : Ok s) {m : Msg} (hm : Heard s m) : Ok (appS s m) := by
  have hi := hm.index; have hr := hm.room; have hcm := hm.commit; have hc := h.commit; have hl := h.len
  unfold appS
  split
  · exact h
  split
  · exact h
  split
  · exact h.follow _
  rename_i hx
  have hx2 := hx
  unfold appMiss at hx2
  have h1 : m.index.toNat ≤ s.log.length := by
    rcases Nat.lt_or_ge s.log.length m.index.toNat with x | x
    · exact absurd (.inl x) hx2
    · exact x
  have hF := h.follow m.src
  split
  · rename_i hn
    split
    · exact hF
    · rename_i hcx
      have hll := appLog_len hx
      have hle := diffN_le s.log m.index.toNat m.entries
      have hn2 : appI s m < m.entries.length := hn
      refine ⟨h.nodes, h.id, h.term, h.vote, ?_, ?_, Nat.zero_le _, (fun e => by cases e), h.nb, h.mb, h.voters⟩
      · show (appLog s m).length ≤ 4096; omega
      · show appC s m ≤ (appLog s m).length; unfold appC; omega
  · rename_i hn
    have h2 : diffN s.log m.index.toNat m.entries = m.entries.length := by have := diffN_le s.log m.index.toNat m.entries; unfold appI at hn; omega
    have h3 := diffN_full _ _ _ h1 h2
    refine ⟨h.nodes, h.id, h.term, h.vote, h.len, ?_, Nat.zero_le _, (fun e => by cases e), h.nb, h.mb, h.voters⟩
    show appC s m ≤ s.log.length; unfold appC; omega
theorem Ok.handle {s : Srv} (h : Ok s) (m : Msg) : Ok (handleS s m) := by
  unfold handleS
  cases hH : hearsB s m with
  | false => simpa using h
  | true =>
    simp only [if_true]
    have hm := heard_of hH
    have h2 := h.raise hm
    have hm2 := hm.raise
    unfold reactS
    split
    · exact h2.asked hm2
    split
    · exact h2.voted hm2
    split
    · exact h2.app hm2
    · exact h2.told hm2

/-! the examples -/
def n3 (j : Nat) : Srv := newS j 3 0 (-1) []
theorem n3_ok {j : Nat} (h : j < 3) : Ok (n3 j) := Ok.newS (by omega) (by omega) h (by decide)
def kA1 : Msg := { kind := 1, src := 0, dst := 1, term := 1, index := 0, logTerm := 0, entries := [], commit := 0, ok := false }
def kA2 : Msg := { kind := 1, src := 0, dst := 2, term := 1, index := 0, logTerm := 0, entries := [], commit := 0, ok := false }
def kO : Msg := { kind := 1, src := 2, dst := 1, term := 1, index := 0, logTerm := 0, entries := [], commit := 0, ok := false }
def kV : Msg := { kind := 2, src := 1, dst := 0, term := 1, index := 0, logTerm := 0, entries := [], commit := 0, ok := true }
def kN : Msg := { kind := 2, src := 1, dst := 2, term := 1, index := 0, logTerm := 0, entries := [], commit := 0, ok := false }
def kE : Ent := ⟨1, ⟨#[]⟩⟩
def kX : Ent := ⟨1, xText⟩
def kP (d : Int) : Msg := { kind := 3, src := 0, dst := d, term := 1, index := 0, logTerm := 0, entries := [kE], commit := 0, ok := false }
def kB : Msg := { kind := 4, src := 1, dst := 0, term := 1, index := 1, logTerm := 0, entries := [], commit := 0, ok := true }
def kQ1 : Msg := { kind := 3, src := 0, dst := 1, term := 1, index := 1, logTerm := 1, entries := [kX], commit := 1, ok := false }
def kQ2 : Msg := { kind := 3, src := 0, dst := 2, term := 1, index := 0, logTerm := 0, entries := [kE, kX], commit := 1, ok := false }
def k0a : Srv := tickS (n3 0)
def k1a : Srv := handleS (n3 1) kA1
def k1b : Srv := handleS k1a kO
def k0b : Srv := handleS k0a kV
def k1c : Srv := handleS k1b (kP 1)
def k0c : Srv := handleS k0b kB
def k0d : Srv := proposeS k0c xText
theorem k_ask : tickM (n3 0) = [kA1, kA2] := by kernel_rfl
theorem k_vote : handleM (n3 1) kA1 = [kV] := by kernel_rfl
theorem k_no : handleM k1a kO = [kN] := by kernel_rfl
theorem k_1b : k1b.vote = 0 := by kernel_rfl
theorem k_app : handleM k0a kV = [kP 1, kP 2] := by kernel_rfl
theorem k_0b : k0b.leader = 0 := by kernel_rfl
theorem k_back : handleM k1b (kP 1) = [kB] := by kernel_rfl
theorem k_none : handleM k0b kB = [] := by kernel_rfl
theorem k_0c : k0c.commit = 1 := by kernel_rfl
theorem k_prop : proposeN k0c xText = 2 ∧ proposeE k0c xText = 0 := by constructor <;> kernel_rfl
theorem k_next : tickM k0d = [kQ1, kQ2] := by kernel_rfl
theorem k_y (d : ByteArray) : proposeE (n3 2) d = 270 := rfl
theorem k_shape : mayB 1 (-1) [⟨2, ⟨#[]⟩⟩] ((1 : Nat) : Int) = false := by decide
def kFull : List Ent := List.replicate 4096 kE
theorem kFull_len : kFull.length = 4096 := List.length_replicate
theorem rises_rep (n : Nat) (hi : Int) (h : 1 ≤ hi) : rises (List.replicate n kE) 1 hi = true := by
  induction n with
  | zero => rfl
  | succ n ih =>
    rw [List.replicate_succ, rises, if_neg]
    · exact ih
    · show ¬ ((1 : Int) < 1 ∨ hi < 1 ∨ 65536 < (ByteArray.mk #[]).size)
      have : (ByteArray.mk #[]).size = 0 := rfl
      omega
theorem k_may : mayB 1152921504606846975 0 kFull ((1 : Nat) : Int) = true := by
  have h1 : rises kFull 1 1152921504606846975 = true := rises_rep _ _ (by omega)
  unfold mayB
  rw [kFull_len, h1]
  decide
def kOne : Srv := newS 0 1 1152921504606846975 0 kFull
theorem kOne_ok : Ok kOne := Ok.newS (by omega) (by omega) (by omega) k_may
theorem kOne_tick : tickS kOne = agreed (lead0 (stand kOne) 1) := by
  have h1 : ¬ (kOne.role = 2 ∨ kOne.term = 1152921504606846976) := by rintro (e | e) <;> revert e <;> decide
  unfold tickS
  have h3 : kOne.nodes = 1 := rfl
  rw [if_neg h1, if_pos h3]
  unfold leadS
  have h2 : lead1 (lead0 (stand kOne) (stand kOne).nodes) = lead0 (stand kOne) (stand kOne).nodes := by
    unfold lead1
    rw [if_neg]
    show ¬ kFull.length < 4096
    rw [kFull_len]; omega
  rw [h2]
  rfl
theorem rep_tat (n m : Nat) (h : m < n) : tat (List.replicate n kE) (m + 1) = 1 := tat_s (e := kE) (by rw [List.getElem?_replicate, if_pos h])
theorem kOne_tat : tat kFull 4096 = 1 := rep_tat 4096 4095 (by omega)
theorem agreed_commit (s : Srv) (n : Nat) (hl : s.log.length = n) (hn : 0 < n) (ht : tat s.log n ≠ s.term) : (agreed s).commit = s.commit := by
  show agreeTo s s.log.length = s.commit
  rw [hl, agreeTo_eq hn, if_neg (fun h => ht h.2)]
theorem kOne_commit : (tickS kOne).commit = 0 := by
  rw [kOne_tick]
  refine agreed_commit (lead0 (stand kOne) 1) 4096 kFull_len (by omega) ?_
  have h1 : tat (lead0 (stand kOne) 1).log 4096 = 1 := kOne_tat
  have h2 : (lead0 (stand kOne) 1).term = 1152921504606846976 := rfl
  rw [h1, h2]
  decide
theorem kOne_role : (tickS kOne).role = 2 := by rw [kOne_tick]; rfl
theorem kOne_len : (tickS kOne).log.length = 4096 := by rw [kOne_tick]; exact kFull_len
theorem kOne_prop (d : ByteArray) (hd : d.size ≤ 65536) : proposeE (tickS kOne) d = 7 ∧ proposeS (tickS kOne) d = tickS kOne := by
  constructor
  · unfold proposeE
    rw [if_neg (by rw [kOne_role]; simp), if_neg (by omega), if_pos kOne_len]
  · unfold proposeS
    rw [if_pos (.inr (.inr kOne_len))]
def kTwo : Srv := newS 0 2 1152921504606846976 (-1) []
theorem kTwo_may : mayB 1152921504606846976 (-1) [] ((2 : Nat) : Int) = true := by decide
theorem kTwo_ok : Ok kTwo := Ok.newS (by omega) (by omega) (by omega) kTwo_may
theorem kTwo_tick : tickM kTwo = [] ∧ tickS kTwo = kTwo := by constructor <;> rfl
end Rf
end Go.Proofs.Ytdacdkidjgbdoaa
