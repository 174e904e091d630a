/- The contracts of a server's deeds among several servers and messages. -/
import Derived.Test.YtdacdkidjgbdoaaNa
set_option linter.unusedVariables false
set_option linter.unusedSimpArgs false
namespace Go.Proofs.Ytdacdkidjgbdoaa
open Go Go.RowKit
namespace Rf

/-- behind a deed with messages of server i -/
structure DeedM (S : List At) (M : List (Msg × Value)) (i : Nat) (a : At) (s' : Srv) (ms : List Msg) (w : World) (out : Value) (w' : World) : Prop where
  mem : ∃ v' l, Mem w' (S.set i ⟨a.g, s', v'⟩) (M ++ l) ∧ l.map Prod.fst = ms ∧ w'.ownsRow w.heap.size 34 9 out l.length (msgs l)
  only : Only (Mine a.g a.v) w w'
def DeedPost (S : List At) (M : List (Msg × Value)) (i : Nat) (a : At) (s' : Srv) (ms : List Msg) (w : World) (e : Ending) (w' : World) : Prop := ∃ out, e = .returned out ∧ DeedM S M i a s' ms w out w'
theorem DeedM.of {w w' : World} {S : List At} {M : List (Msg × Value)} {i : Nat} {a : At} {s' : Srv} {ms : List Msg} {out : Value} (h : Mem w S M) (hi : S[i]? = some a) (hD : Did a.g a.v w s' ms out w') : DeedM S M i a s' ms w out w' :=
  ⟨h.did hi hD, hD.only⟩
theorem mem_tick {w : World} {S : List At} {M : List (Msg × Value)} {i : Nat} {a : At} (h : Mem w S M) (hi : S[i]? = some a) (hk : Ok a.s) :
    Calls Try.prog 9 #[.pointer (some ⟨a.g, 0, none⟩)] w (DeedPost S M i a (tickS a.s) (tickM a.s) w) :=
  (tick_is a.g a.s a.v hk w (h.is a (List.mem_of_getElem? hi))).mono fun e w' ⟨out, he, hD⟩ => ⟨out, he, DeedM.of h hi hD⟩
theorem lies_open {w : World} {p : Msg × Value} (h : Lies w p) : ∃ a c, p.2 = .slice a p.1.entries.length c ∧ Hd w a p.1.entries ∧ p.1.entries.length ≤ c ∧ (∀ g s v, Is w g s v → ∀ ad, a = some ad → ad.block ≠ g) := by
  obtain ⟨a, c, hv⟩ := own_slice h
  have h2 : w.ownsRow 0 39 2 (.slice a p.1.entries.length c) p.1.entries.length (ents p.1.entries) := by rw [← hv]; exact h
  refine ⟨a, c, hv, Hd.of_own h2 rfl, ?_, ?_⟩
  · rcases h2.2 with ⟨e, e0⟩ | ⟨g, cap, cur, e, _, _, hc, _⟩
    · omega
    · injection e with _ _ e3; omega
  · intro g s v hI ad ha
    refine own_ne h2 hI (by decide) ?_
    rw [ha]
    rfl
theorem mem_handle {w : World} {S : List At} {M : List (Msg × Value)} {i : Nat} {a : At} {p : Msg × Value} (h : Mem w S M) (hi : S[i]? = some a) (hk : Ok a.s) (hp : p ∈ M) (hl : p.1.entries.length ≤ 100000) :
    Calls Try.prog 10 #[.pointer (some ⟨a.g, 0, none⟩), .agg (mc p.1 p.2)] w (DeedPost S M i a (handleS a.s p.1) (handleM a.s p.1) w) := by
  have hI := h.is a (List.mem_of_getElem? hi)
  obtain ⟨b, c, hv, hd, hc, hag⟩ := lies_open (h.lies p hp)
  rw [hv]
  exact (handle_is a.g a.s a.v p.1 b c hk hl w hI hd (hag _ _ _ hI) hc).mono fun e w' ⟨out, he, hD⟩ => ⟨out, he, DeedM.of h hi hD⟩
structure TurnM (S : List At) (M : List (Msg × Value)) (i : Nat) (a : At) (s' : Srv) (w w' : World) : Prop where
  mem : ∃ v', Mem w' (S.set i ⟨a.g, s', v'⟩) M
  only : Only (Mine a.g a.v) w w'
def ProposeM (S : List At) (M : List (Msg × Value)) (i : Nat) (a : At) (d : ByteArray) (w : World) (e : Ending) (w' : World) : Prop :=
  e = .returned (.tuple #[.int .i64 (proposeN a.s d), .int .i64 (proposeE a.s d)]) ∧ TurnM S M i a (proposeS a.s d) w w'
theorem mem_propose {w : World} {S : List At} {M : List (Msg × Value)} {i : Nat} {a : At} (d : ByteArray) (h : Mem w S M) (hi : S[i]? = some a) (hk : Ok a.s) :
    Calls Try.prog 14 #[.pointer (some ⟨a.g, 0, none⟩), .string d] w (ProposeM S M i a d w) :=
  (propose_is a.g a.s a.v d hk w (h.is a (List.mem_of_getElem? hi))).mono fun e w' ⟨he, hT⟩ => ⟨he, ⟨by obtain ⟨v', hM, -⟩ := h.turned hi hT; exact ⟨v', hM⟩, hT.only⟩⟩
theorem msgs_at {l : List (Msg × Value)} {i : Nat} {p : Msg × Value} (hi : l[i]? = some p) {j : Nat} {v : Value} (hj : (mc p.1 p.2).toList[j]? = some v) : (msgs l)[i * 9 + j]? = some v := by
  have hj9 : j < 9 := by have := (List.getElem?_eq_some_iff.1 hj).1; simpa [mc] using this
  induction l generalizing i with
  | nil => simp at hi
  | cons q r ih =>
    have e : msgs (q :: r) = (mc q.1 q.2).toList ++ msgs r := by simp [msgs]
    have hq : (mc q.1 q.2).toList.length = 9 := by simp [mc]
    rw [e]
    cases i with
    | zero =>
      simp at hi
      subst hi
      rw [List.getElem?_append_left (by rw [hq]; omega)]
      simpa using hj
    | succ i =>
      rw [List.getElem?_append_right (by rw [hq]; omega), hq]
      simp at hi
      rw [show (i + 1) * 9 + j - 9 = i * 9 + j by omega]
      exact ih hi
/-- the cells of a message in a row -/
theorem row_msg {w : World} {base : Nat} {out : Value} {l : List (Msg × Value)} (h : w.ownsRow base 34 9 out l.length (msgs l)) {i : Nat} {p : Msg × Value} (hi : l[i]? = some p) :
    ∃ k c, out = .slice (some ⟨k, 0, none⟩) l.length c ∧ l.length ≤ c ∧ base ≤ k ∧ k < w.heap.size ∧ w.rangeAt k (i * 9) (mc p.1 p.2).toList := by
  rcases h.2 with ⟨_, h0⟩ | ⟨k, cap, cur, hv, hk, hh, hc, hm, hs, ht⟩
  · have := (List.getElem?_eq_some_iff.1 hi).1; omega
  · refine ⟨k, cap, hv, hc, hk, (Array.getElem?_eq_some_iff.1 hh).1, fun j v hj => ?_⟩
    have hj9 : j < 9 := by have := (List.getElem?_eq_some_iff.1 hj).1; simpa [mc] using this
    have h1 := h.cells (g := k) (by rw [hv]; rfl) (i * 9 + j) v ?_
    · rw [Addr.add_mid, Nat.zero_add] at h1; exact h1
    · exact msgs_at hi hj
end Rf
end Go.Proofs.Ytdacdkidjgbdoaa
