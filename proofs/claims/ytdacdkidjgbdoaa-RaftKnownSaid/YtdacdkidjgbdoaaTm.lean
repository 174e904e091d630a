/- The contract of raft's appended, put together; what is heard. -/
import Derived.Test.YtdacdkidjgbdoaaTl
set_option linter.unusedVariables false
set_option linter.unusedSimpArgs false
namespace Go.Proofs.Ytdacdkidjgbdoaa
open Go Go.RowKit
namespace Rf

def appI (s : Srv) (m : Msg) : Nat := diffN s.log m.index.toNat m.entries
def appC (s : Srv) (m : Msg) : Nat := max s.commit (min m.commit.toNat (m.index.toNat + m.entries.length))
def appMiss (s : Srv) (m : Msg) : Prop := s.log.length < m.index.toNat ∨ tat s.log m.index.toNat ≠ m.logTerm
instance (s : Srv) (m : Msg) : Decidable (appMiss s m) := by unfold appMiss; infer_instance
def appLog (s : Srv) (m : Msg) : List Ent := s.log.take (m.index.toNat + appI s m) ++ m.entries.drop (appI s m)
def appS (s : Srv) (m : Msg) : Srv :=
  if m.term < s.term then s else if s.role = 2 then s else if appMiss s m then follow s m.src
  else if appI s m < m.entries.length then (if m.index.toNat + appI s m < s.commit then follow s m.src else withC (withLog (follow s m.src) (appLog s m)) (appC s m))
  else withC (follow s m.src) (appC s m)
def appM (s : Srv) (m : Msg) : List Msg :=
  if m.term < s.term then [answerTo s m.src 4 0 false] else if s.role = 2 then [] else if appMiss s m then [answerTo (follow s m.src) m.src 4 (min (s.log.length : Int) (m.index - 1)) false]
  else if appI s m < m.entries.length ∧ m.index.toNat + appI s m < s.commit then [] else [answerTo (follow s m.src) m.src 4 (m.index + m.entries.length) true]

theorem app_is (g : Nat) (s : Srv) (v : Value) (m : Msg) (a : Option Addr) (c : Nat) (hk : Ok s) (hi : 0 ≤ m.index ∧ m.index ≤ 4096) (hcm : 0 ≤ m.commit) (hn2 : m.index + m.entries.length ≤ 4096) (w : World) (h : Is w g s v) (hd : Hd w a m.entries) (hag : ∀ ad, a = some ad → ad.block ≠ g) (hnc : m.entries.length ≤ c) :
    Calls Try.prog 45 #[.pointer (some ⟨g, 0, none⟩), .agg (mc m (.slice a m.entries.length c))] w (DidPost g v w (appS s m) (appM s m)) := by
  obtain ⟨k, src, dst, tm, ix, lt, es, cm, ok⟩ := m
  obtain ⟨hi1, hi2⟩ := hi
  dsimp only at hi1 hi2 hcm hn2 hd hnc
  obtain ⟨i, rfl⟩ : ∃ i : Nat, ix = i := ⟨ix.toNat, by omega⟩
  show Calls Try.prog 45 #[.pointer (some ⟨g, 0, none⟩), .agg #[.int .u8 k, .int .i64 src, .int .i64 dst, .int .i64 tm, .int .i64 i, .int .i64 lt, .slice a es.length c, .int .i64 cm, .bool ok]] w _
  have hl := hk.len
  have hc := hk.commit
  unfold appS appM
  by_cases t1 : tm < s.term
  · rw [if_pos t1, if_pos t1]
    exact app_a g s v _ _ i _ rfl rfl rfl hl (by omega) k src dst tm lt cm ok a _ c w h (by simp [t1])
  rw [if_neg t1, if_neg t1]
  by_cases t2 : s.role = 2
  · rw [if_pos t2, if_pos t2]
    exact app_b g s v _ _ i _ rfl rfl rfl hl (by omega) k src dst tm lt cm ok a _ c w h (by simp [t1]) (by simp [t2])
  rw [if_neg t2, if_neg t2]
  have d0 : decide (tm < s.term) = false := by simp [t1]
  have d1 : ((s.role : Int) == 2) = false := by simp; omega
  by_cases t3 : appMiss s ⟨k, src, dst, tm, i, lt, es, cm, ok⟩
  · rw [if_pos t3, if_pos t3]
    unfold appMiss at t3
    simp only [Int.toNat_natCast] at t3
    by_cases t4 : s.log.length < i
    · rw [show min (s.log.length : Int) ((i : Int) - 1) = ((s.log.length : Nat) : Int) by omega]
      exact app_ca g s v _ _ i _ rfl rfl rfl hl (by omega) k src dst tm lt cm ok a _ c w h d0 d1 t4
    · rw [show min (s.log.length : Int) ((i : Int) - 1) = (i : Int) - 1 by omega]
      exact app_cb g s v _ _ i _ rfl rfl rfl hl (by omega) k src dst tm lt cm ok a _ c w h d0 d1 (by omega) (t3.resolve_left t4)
  rw [if_neg t3, if_neg t3]
  unfold appMiss at t3
  simp only [Int.toNat_natCast] at t3
  have p0 : i ≤ s.log.length := by
    rcases Nat.lt_or_ge s.log.length i with x | x
    · exact absurd (.inl x) t3
    · exact x
  have p1 : tat s.log i = lt := Classical.byContradiction fun x => t3 (.inr x)
  unfold appC appLog appI
  simp only [Int.toNat_natCast]
  by_cases t5 : diffN s.log i es < es.length
  · rw [if_pos t5]
    by_cases t6 : i + diffN s.log i es < s.commit
    · rw [if_pos t6, if_pos ⟨t5, t6⟩]
      exact app_e g s v _ _ i _ rfl rfl rfl hl (by omega) k src dst tm lt cm ok a _ c w h es rfl (by omega) hd hag _ rfl hc hcm d0 d1 p0 p1 t5 t6
    · rw [if_neg t6, if_neg (fun x => t6 x.2)]
      exact app_f g s v _ _ i _ rfl rfl rfl hl (by omega) k src dst tm lt cm ok a _ c w h es rfl (by omega) hd hag _ rfl hc hcm hnc d0 d1 p0 p1 t5 (by omega)
  · have t5' : diffN s.log i es = es.length := by have := diffN_le s.log i es; omega
    rw [if_neg t5, if_neg (fun x => t5 x.1)]
    exact app_d g s v _ _ i _ rfl rfl rfl hl (by omega) k src dst tm lt cm ok a _ c w h es rfl (by omega) hd hag _ rfl hc hcm d0 d1 p0 p1 t5'

/-- what is so of a message that is heard -/
structure Heard (s : Srv) (m : Msg) : Prop where
  dst : m.dst = s.id
  src : 0 ≤ m.src ∧ m.src < s.nodes ∧ m.src ≠ s.id
  term : 1 ≤ m.term ∧ m.term ≤ 1152921504606846976
  index : 0 ≤ m.index ∧ m.index ≤ 4096
  logTerm : 0 ≤ m.logTerm ∧ m.logTerm ≤ m.term
  commit : 0 ≤ m.commit
  room : m.index + m.entries.length ≤ 4096
  plain : plainB m = true
  rise : rises m.entries (max 1 m.logTerm) m.term = true
theorem heard_of {s : Srv} {m : Msg} (h : hearsB s m = true) : Heard s m := by
  unfold hearsB at h
  simp only [Bool.and_eq_true, decide_eq_true_eq] at h
  obtain ⟨a, b, c, d, e, f, g, i, j, k, l, n, o, p⟩ := h
  exact ⟨a, ⟨b, c, d⟩, ⟨e, f⟩, ⟨g, i⟩, ⟨j, k⟩, l, by omega, o, p⟩
/-- in a greater Term -/
def bump (s : Srv) (t : Int) : Srv := { s with term := t, vote := -1, role := 0, leader := -1, voters := 0 }
theorem Ok.bump {s : Srv} (h : Ok s) {t : Int} (h1 : 1 ≤ t) (h2 : t ≤ 1152921504606846976) : Ok (bump s t) :=
  ⟨h.nodes, h.id, ⟨by show 0 ≤ t; omega, h2⟩, ⟨Int.le_refl _, by have := h.nodes; show (-1 : Int) < s.nodes; omega⟩, h.len, h.commit, Nat.zero_le _, (fun e => by cases e), h.nb, h.mb, by show 0 < 128; omega⟩
def raise (s : Srv) (m : Msg) : Srv := if s.term < m.term then bump s m.term else s
theorem Ok.raise {s : Srv} (h : Ok s) {m : Msg} (hm : Heard s m) : Ok (raise s m) := by
  unfold Rf.raise
  split
  · exact h.bump hm.term.1 hm.term.2
  · exact h
def reactS (s : Srv) (m : Msg) : Srv := if m.kind = 1 then askedS s m else if m.kind = 2 then votedS s m else if m.kind = 3 then appS s m else toldS s m
def reactM (s : Srv) (m : Msg) : List Msg := if m.kind = 1 then askedM s m else if m.kind = 2 then votedM s m else if m.kind = 3 then appM s m else toldM s m
def handleS (s : Srv) (m : Msg) : Srv := if hearsB s m = true then reactS (raise s m) m else s
def handleM (s : Srv) (m : Msg) : List Msg := if hearsB s m = true then reactM (raise s m) m else []
theorem plain_kind {m : Msg} (h : plainB m = true) : m.kind = 1 ∨ m.kind = 2 ∨ m.kind = 3 ∨ m.kind = 4 := by
  unfold plainB plainK at h
  by_cases k1 : m.kind = 1
  · exact .inl k1
  by_cases k2 : m.kind = 2
  · exact .inr (.inl k2)
  by_cases k3 : m.kind = 3
  · exact .inr (.inr (.inl k3))
  by_cases k4 : m.kind = 4
  · exact .inr (.inr (.inr k4))
  simp [k1, k2, k3, k4] at h
theorem raise_same (s : Srv) (m : Msg) : (raise s m).id = s.id ∧ (raise s m).nodes = s.nodes ∧ (raise s m).log = s.log ∧ (raise s m).commit = s.commit := by
  unfold raise; split <;> exact ⟨rfl, rfl, rfl, rfl⟩
end Rf
end Go.Proofs.Ytdacdkidjgbdoaa
