/- Deeds of servers that are all new since a first world. -/
import Derived.Test.YtdacdkidjgbdoaaPb
set_option linter.unusedVariables false
set_option linter.unusedSimpArgs false
namespace Go.Proofs.Ytdacdkidjgbdoaa
open Go Go.RowKit
namespace Rf

/-- blocks of another kind than a server's stay -/
def Kp (w w' : World) : Prop := ∀ (k : Nat) (C : Array Value) (t : TypeId) (fr : Nat × Nat), w.heap[k]? = some (.cells C t fr) → t ≠ 74 → t ≠ 39 → w'.heap[k]? = some (.cells C t fr)
theorem Kp.of_below {w w' : World} (hB : Below w.heap.size w w') : Kp w w' := fun k C t fr h _ _ => (hB.block k (Array.getElem?_eq_some_iff.1 h).1).trans h
theorem Kp.trans {a b c : World} (h : Kp a b) (k : Kp b c) : Kp a c := fun j C t fr h1 h2 h3 => k j C t fr (h j C t fr h1 h2 h3) h2 h3
structure Kn (w wr : World) (S : List At) (M : List (Msg × Value)) : Prop where
  mem : Mem wr S M
  B : Below w.heap.size w wr
  fresh : ∀ a ∈ S, w.heap.size ≤ a.g ∧ ∀ k, a.v.ownBlock = some k → w.heap.size ≤ k
theorem Kn.start (w : World) : Kn w w [] [] := ⟨Mem.nil w, Below.refl _ _, by simp⟩
theorem Kn.below {w wr w' : World} {S : List At} {M : List (Msg × Value)} (h : Kn w wr S M) (hB : Below wr.heap.size wr w') : Kn w w' S M :=
  ⟨h.mem.below hB, h.B.trans (hB.mono h.B.size), h.fresh⟩
theorem Kn.only {w wr w' : World} {S : List At} {M : List (Msg × Value)} {a : At} (h : Kn w wr S M) (ha : a ∈ S) (hO : Only (Mine a.g a.v) wr w') : Below w.heap.size w w' ∧ Kp wr w' := by
  have hf := h.fresh a ha
  refine ⟨h.B.trans (hO.below h.B.size ?_), fun k C t fr hb h1 h2 => only_kind (h.mem.is a ha) hO hb h1 h2⟩
  rintro k (e | e)
  · rw [e]; exact hf.1
  · exact hf.2 k e
def KnDeed (w wr : World) (S : List At) (M : List (Msg × Value)) (i : Nat) (a : At) (s' : Srv) (ms : List Msg) (e : Ending) (w' : World) : Prop :=
  ∃ out v' l, e = .returned out ∧ Kn w w' (S.set i ⟨a.g, s', v'⟩) (M ++ l) ∧ l.map Prod.fst = ms ∧ w'.ownsRow wr.heap.size 34 9 out l.length (msgs l) ∧ Kp wr w'
theorem kn_did {w wr w' : World} {S : List At} {M : List (Msg × Value)} {i : Nat} {a : At} {s' : Srv} {ms : List Msg} {out : Value} (h : Kn w wr S M) (hi : S[i]? = some a) (hD : Did a.g a.v wr s' ms out w') : KnDeed w wr S M i a s' ms (.returned out) w' := by
  have ha := List.mem_of_getElem? hi
  obtain ⟨v', l, hM, h1, h2⟩ := h.mem.did hi hD
  obtain ⟨hB, hK⟩ := h.only ha hD.only
  refine ⟨out, v', l, rfl, ⟨hM, hB, ?_⟩, h1, h2, hK⟩
  intro b hb
  obtain ⟨j, hj⟩ := List.getElem?_of_mem hb
  rcases set_at hj with ⟨_, rfl⟩ | ⟨_, hj2⟩
  · refine ⟨(h.fresh a ha).1, fun k hk => ?_⟩
    obtain ⟨v2, base, i1, _, i3, i4, i5⟩ := hD.ex
    have e1 := (hM.is _ hb).blk
    rw [i1.blk] at e1
    injection e1 with e1
    injection e1 with e1 _
    have e2 : (rc s' v2)[4]? = (rc s' v')[4]? := by rw [e1]
    have e3 : v2 = v' := by simpa [rc] using e2
    subst e3
    rcases i5 k hk with e | e
    · exact (h.fresh a ha).2 k e
    · have := h.B.size; omega
  · exact h.fresh b (List.mem_of_getElem? hj2)
theorem kn_tick {w wr : World} {S : List At} {M : List (Msg × Value)} {i : Nat} {a : At} (h : Kn w wr S M) (hi : S[i]? = some a) (hk : Ok a.s) :
    Calls Try.prog 9 #[.pointer (some ⟨a.g, 0, none⟩)] wr (KnDeed w wr S M i a (tickS a.s) (tickM a.s)) :=
  (tick_is a.g a.s a.v hk wr (h.mem.is a (List.mem_of_getElem? hi))).mono fun e w' ⟨out, he, hD⟩ => by subst he; exact kn_did h hi hD
theorem kn_handle {w wr : World} {S : List At} {M : List (Msg × Value)} {i : Nat} {a : At} {p : Msg × Value} (h : Kn w wr S M) (hi : S[i]? = some a) (hk : Ok a.s) (hp : Lies wr p) (hl : p.1.entries.length ≤ 100000) :
    Calls Try.prog 10 #[.pointer (some ⟨a.g, 0, none⟩), .agg (mc p.1 p.2)] wr (KnDeed w wr S M i a (handleS a.s p.1) (handleM a.s p.1)) := by
  have hI := h.mem.is a (List.mem_of_getElem? hi)
  obtain ⟨b, c, hv, hd, hc, hag⟩ := lies_open hp
  rw [hv]
  exact (handle_is a.g a.s a.v p.1 b c hk hl wr hI hd (hag _ _ _ hI) hc).mono fun e w' ⟨out, he, hD⟩ => by subst he; exact kn_did h hi hD
def KnTurn (w wr : World) (S : List At) (M : List (Msg × Value)) (i : Nat) (a : At) (s' : Srv) (w' : World) : Prop := ∃ v', Kn w w' (S.set i ⟨a.g, s', v'⟩) M ∧ Kp wr w'
theorem kn_propose {w wr : World} {S : List At} {M : List (Msg × Value)} {i : Nat} {a : At} (d : ByteArray) (h : Kn w wr S M) (hi : S[i]? = some a) (hk : Ok a.s) :
    Calls Try.prog 14 #[.pointer (some ⟨a.g, 0, none⟩), .string d] wr fun e w' => e = .returned (.tuple #[.int .i64 (proposeN a.s d), .int .i64 (proposeE a.s d)]) ∧ KnTurn w wr S M i a (proposeS a.s d) w' := by
  have ha := List.mem_of_getElem? hi
  refine (propose_is a.g a.s a.v d hk wr (h.mem.is a ha)).mono fun e w' ⟨he, hT⟩ => ⟨he, ?_⟩
  obtain ⟨v', hM, hI⟩ := h.mem.turned hi hT
  obtain ⟨hB, hK⟩ := h.only ha hT.only
  refine ⟨v', ⟨hM, hB, ?_⟩, hK⟩
  intro b hb
  obtain ⟨j, hj⟩ := List.getElem?_of_mem hb
  rcases set_at hj with ⟨_, rfl⟩ | ⟨_, hj2⟩
  · refine ⟨(h.fresh a ha).1, fun k hk => ?_⟩
    obtain ⟨v2, i1, i5⟩ := hT.ex
    have e1 := hI.blk
    rw [i1.blk] at e1
    injection e1 with e1
    injection e1 with e1 _
    have e2 : (rc (proposeS a.s d) v2)[4]? = (rc (proposeS a.s d) v')[4]? := by rw [e1]
    have e3 : v2 = v' := by simpa [rc] using e2
    subst e3
    rcases i5 k hk with e | e
    · exact (h.fresh a ha).2 k e
    · have := h.B.size; omega
  · exact h.fresh b (List.mem_of_getElem? hj2)
theorem kn_new {w wr : World} {S : List At} {M : List (Msg × Value)} (h : Kn w wr S M) {s : Srv} {e : Ending} {w' : World} (hN : NewYes wr s e w') :
    ∃ g v, e = .returned (.tuple #[.pointer (some ⟨g, 0, none⟩), .int .i64 0]) ∧ Kn w w' (S ++ [⟨g, s, v⟩]) M ∧ Kp wr w' := by
  obtain ⟨g, v, he, hB, hg, hI, hv⟩ := hN
  have hs := h.B.size
  refine ⟨g, v, he, ⟨h.mem.new hB hg hI hv, h.B.trans (hB.mono hs), ?_⟩, Kp.of_below hB⟩
  intro a ha
  rcases List.mem_append.1 ha with ha | ha
  · exact h.fresh a ha
  · simp only [List.mem_singleton] at ha
    subst ha
    exact ⟨Nat.le_trans hs hg, fun k hk => Nat.le_trans hs (hv k hk)⟩
theorem Kp.range {w w' : World} (hK : Kp w w') {k o : Nat} {C : Array Value} {t : TypeId} {fr : Nat × Nat} (hb : w.heap[k]? = some (.cells C t fr)) (h1 : t ≠ 74) (h2 : t ≠ 39) {cs : List Value} (hr : w.rangeAt k o cs) : w'.rangeAt k o cs := by
  intro j v hj
  have := hr j v hj
  have hb2 := hK k C t fr hb h1 h2
  rw [← this]
  simp only [World.cell?, hb, hb2]
/-- a row of messages, as a block -/
theorem row_block {w : World} {base : Nat} {out : Value} {l : List (Msg × Value)} (h : w.ownsRow base 34 9 out l.length (msgs l)) (hl : 0 < l.length) :
    ∃ k c C, out = .slice (some ⟨k, 0, none⟩) l.length c ∧ l.length ≤ c ∧ base ≤ k ∧ k < w.heap.size ∧ w.heap[k]? = some (.cells C 34 (0, 0)) ∧ ∀ i p, l[i]? = some p → w.rangeAt k (i * 9) (mc p.1 p.2).toList := by
  rcases h.2 with ⟨_, h0⟩ | ⟨k, cap, cur, hv, hk, hh, hc, hm, hs, ht⟩
  · omega
  · refine ⟨k, cap, cur, hv, hc, hk, (Array.getElem?_eq_some_iff.1 hh).1, hh, fun i p hi => ?_⟩
    obtain ⟨k2, c2, hv2, _, _, _, hr⟩ := row_msg h hi
    rw [hv] at hv2
    injection hv2 with e1 _ _
    have : k = k2 := by injection e1 with e1; injection e1
    subst this
    exact hr
end Rf
end Go.Proofs.Ytdacdkidjgbdoaa
