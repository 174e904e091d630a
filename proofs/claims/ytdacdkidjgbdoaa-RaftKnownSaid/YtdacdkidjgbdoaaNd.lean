/- Three servers in an array: the contracts of their deeds. -/
import Derived.Test.YtdacdkidjgbdoaaNc
set_option linter.unusedVariables false
set_option linter.unusedSimpArgs false
namespace Go.Proofs.Ytdacdkidjgbdoaa
open Go Go.RowKit
namespace Rf

/-- blocks of other kinds may change -/
theorem Mem.other {T : Nat → Prop} {w w' : World} {S : List At} {M : List (Msg × Value)} (h : Mem w S M) (hO : Only T w w') (hT : ∀ k, T k → ∃ C t fr, w.heap[k]? = some (.cells C t fr) ∧ t ≠ 74 ∧ t ≠ 39) : Mem w' S M := by
  have hrow : ∀ {base t k n : Nat} {v : Value} {l : List Value}, w.ownsRow base t k v n l → t = 39 → ∀ j, v.ownBlock = some j → ¬ T j := by
    intro base t k n v l hr ht j hj hTj
    obtain ⟨C, t2, fr, hb, h1, h2⟩ := hT j hTj
    rcases hr.2 with ⟨rfl, _⟩ | ⟨q, cap, cur, rfl, _, hh, _⟩
    · cases hj
    · have : q = j := by injection hj
      subst this
      rw [hh] at hb
      injection hb with hb
      injection hb with _ h3
      exact h2 (h3.symm.trans ht)
  refine ⟨fun a ha => (h.is a ha).only hO (fun e => ?_) (fun k hk => hrow (h.is a ha).log rfl k hk), fun p hp => own_only (h.lies p hp) hO (fun k hk => hrow (h.lies p hp) rfl k hk), h.one, h.apart⟩
  obtain ⟨C, t2, fr, hb, h1, h2⟩ := hT _ e
  rw [(h.is a ha).blk] at hb
  injection hb with hb
  injection hb with _ h3
  exact h1 h3.symm
theorem Kn.other {T : Nat → Prop} {w wr w' : World} {S : List At} {M : List (Msg × Value)} (h : Kn w wr S M) (hO : Only T wr w') (hT : ∀ k, T k → w.heap.size ≤ k ∧ ∃ C t fr, wr.heap[k]? = some (.cells C t fr) ∧ t ≠ 74 ∧ t ≠ 39) : Kn w w' S M :=
  ⟨h.mem.other hO (fun k hk => (hT k hk).2), h.B.trans (hO.below h.B.size (fun k hk => (hT k hk).1)), h.fresh⟩

/-- a row of messages stands in a block -/
def Row (w : World) (k : Nat) (l : List (Msg × Value)) : Prop := ∃ C, w.heap[k]? = some (.cells C 34 (0, 0)) ∧ ∀ i p, l[i]? = some p → w.rangeAt k (i * 9) (mc p.1 p.2).toList
theorem Row.kp {w w' : World} {k : Nat} {l : List (Msg × Value)} (h : Row w k l) (hK : Kp w w') : Row w' k l := by
  obtain ⟨C, hb, hr⟩ := h
  exact ⟨C, hK _ _ _ _ hb (by decide) (by decide), fun i p hi => hK.range hb (by decide) (by decide) (hr i p hi)⟩
theorem Row.below {w w' : World} {k : Nat} {l : List (Msg × Value)} (h : Row w k l) (hB : Below w.heap.size w w') : Row w' k l := h.kp (Kp.of_below hB)
theorem Row.lt {w : World} {k : Nat} {l : List (Msg × Value)} (h : Row w k l) : k < w.heap.size := by
  obtain ⟨C, hb, _⟩ := h
  exact (Array.getElem?_eq_some_iff.1 hb).1
theorem Row.nine {w : World} {k : Nat} {l : List (Msg × Value)} (h : Row w k l) {i : Nat} {p : Msg × Value} (hi : l[i]? = some p) :
    w.cell? ⟨k, i * 9, none⟩ = some (.int .u8 p.1.kind) ∧ w.cell? ⟨k, i * 9 + 1, none⟩ = some (.int .i64 p.1.src) ∧ w.cell? ⟨k, i * 9 + 2, none⟩ = some (.int .i64 p.1.dst) ∧ w.cell? ⟨k, i * 9 + 3, none⟩ = some (.int .i64 p.1.term) ∧ w.cell? ⟨k, i * 9 + 4, none⟩ = some (.int .i64 p.1.index) ∧ w.cell? ⟨k, i * 9 + 5, none⟩ = some (.int .i64 p.1.logTerm) ∧ w.cell? ⟨k, i * 9 + 6, none⟩ = some p.2 ∧ w.cell? ⟨k, i * 9 + 7, none⟩ = some (.int .i64 p.1.commit) ∧ w.cell? ⟨k, i * 9 + 8, none⟩ = some (.bool p.1.ok) := by
  obtain ⟨C, hb, hr⟩ := h
  have hq := hr i p hi
  exact ⟨hq 0 _ rfl, hq 1 _ rfl, hq 2 _ rfl, hq 3 _ rfl, hq 4 _ rfl, hq 5 _ rfl, hq 6 _ rfl, hq 7 _ rfl, hq 8 _ rfl⟩

/-- three servers, their array -/
structure K3 (w wr : World) (g0 g1 g2 : Nat) (s0 s1 s2 : Srv) (M : List (Msg × Value)) : Prop where
  kn : ∃ v0 v1 v2, Kn w wr [⟨g0, s0, v0⟩, ⟨g1, s1, v1⟩, ⟨g2, s2, v2⟩] M
  arr : wr.heap[w.heap.size]? = some (.cells #[.pointer (some ⟨g0, 0, none⟩), .pointer (some ⟨g1, 0, none⟩), .pointer (some ⟨g2, 0, none⟩)] 23 (0, 0))
section
variable {w wr w' : World} {g0 g1 g2 : Nat} {s0 s1 s2 : Srv} {M : List (Msg × Value)}
theorem K3.cells (h : K3 w wr g0 g1 g2 s0 s1 s2 M) : wr.cell? ⟨w.heap.size, 0, none⟩ = some (.pointer (some ⟨g0, 0, none⟩)) ∧ wr.cell? ⟨w.heap.size, 1, none⟩ = some (.pointer (some ⟨g1, 0, none⟩)) ∧ wr.cell? ⟨w.heap.size, 2, none⟩ = some (.pointer (some ⟨g2, 0, none⟩)) := by
  have ha := h.arr
  simp only [World.cell?, ha]
  exact ⟨rfl, rfl, rfl⟩
theorem K3.size (h : K3 w wr g0 g1 g2 s0 s1 s2 M) : w.heap.size < wr.heap.size := (Array.getElem?_eq_some_iff.1 h.arr).1
theorem K3.B (h : K3 w wr g0 g1 g2 s0 s1 s2 M) : Below w.heap.size w wr := by
  obtain ⟨_, _, _, h1⟩ := h.kn
  exact h1.B
theorem K3.lies (h : K3 w wr g0 g1 g2 s0 s1 s2 M) {p : Msg × Value} (hp : p ∈ M) : Lies wr p := by
  obtain ⟨_, _, _, h1⟩ := h.kn
  exact h1.mem.lies p hp
theorem K3.below (h : K3 w wr g0 g1 g2 s0 s1 s2 M) (hB : Below wr.heap.size wr w') : K3 w w' g0 g1 g2 s0 s1 s2 M := by
  obtain ⟨v0, v1, v2, h1⟩ := h.kn
  exact ⟨⟨v0, v1, v2, h1.below hB⟩, (hB.block _ h.size).trans h.arr⟩
theorem K3.is0 (h : K3 w wr g0 g1 g2 s0 s1 s2 M) : ∃ v, Is wr g0 s0 v := by
  obtain ⟨v0, v1, v2, h1⟩ := h.kn
  exact ⟨v0, h1.mem.is ⟨g0, s0, v0⟩ (by simp)⟩
theorem K3.is1 (h : K3 w wr g0 g1 g2 s0 s1 s2 M) : ∃ v, Is wr g1 s1 v := by
  obtain ⟨v0, v1, v2, h1⟩ := h.kn
  exact ⟨v1, h1.mem.is ⟨g1, s1, v1⟩ (by simp)⟩
/-- behind a deed with messages -/
def K3Some (w wr : World) (g0 g1 g2 : Nat) (s0 s1 s2 : Srv) (M : List (Msg × Value)) (ms : List Msg) (e : Ending) (w' : World) : Prop :=
  ∃ k c l, e = .returned (.slice (some ⟨k, 0, none⟩) ms.length c) ∧ K3 w w' g0 g1 g2 s0 s1 s2 (M ++ l) ∧ l.map Prod.fst = ms ∧ Row w' k l ∧ Kp wr w'
def K3None (w wr : World) (g0 g1 g2 : Nat) (s0 s1 s2 : Srv) (M : List (Msg × Value)) (e : Ending) (w' : World) : Prop :=
  ∃ a c, e = .returned (.slice a 0 c) ∧ K3 w w' g0 g1 g2 s0 s1 s2 M ∧ Kp wr w'
theorem kn_some {S S' : List At} {i : Nat} {a : At} {s' : Srv} {ms : List Msg} {e : Ending} (h : KnDeed w wr S M i a s' ms e w') (hm : 0 < ms.length) :
    ∃ k c l v', e = .returned (.slice (some ⟨k, 0, none⟩) ms.length c) ∧ Kn w w' (S.set i ⟨a.g, s', v'⟩) (M ++ l) ∧ l.map Prod.fst = ms ∧ Row w' k l ∧ Kp wr w' := by
  obtain ⟨out, v', l, he, hK, hl, hr, hp⟩ := h
  have hll : l.length = ms.length := by rw [← hl, List.length_map]
  obtain ⟨k, c, C, h1, h2, h3, h4, h5, h6⟩ := row_block hr (by omega)
  refine ⟨k, c, l, v', ?_, hK, hl, ⟨C, h5, h6⟩, hp⟩
  rw [he, h1, hll]
theorem kn_none {S S' : List At} {i : Nat} {a : At} {s' : Srv} {e : Ending} (h : KnDeed w wr S M i a s' [] e w') :
    ∃ b c v', e = .returned (.slice b 0 c) ∧ Kn w w' (S.set i ⟨a.g, s', v'⟩) M ∧ Kp wr w' := by
  obtain ⟨out, v', l, he, hK, hl, hr, hp⟩ := h
  have : l = [] := by simpa using hl
  subst this
  obtain ⟨b, c, hv⟩ := own_slice hr
  refine ⟨b, c, v', ?_, by simpa using hK, hp⟩
  rw [he, hv]
  rfl

theorem k3_tick0 (h : K3 w wr g0 g1 g2 s0 s1 s2 M) (hk : Ok s0) (hm : 0 < (tickM s0).length) : Calls Try.prog 9 #[.pointer (some ⟨g0, 0, none⟩)] wr (K3Some w wr g0 g1 g2 (tickS s0) s1 s2 M (tickM s0)) := by
  obtain ⟨v0, v1, v2, h1⟩ := h.kn
  refine (kn_tick (i := 0) (a := ⟨g0, s0, v0⟩) h1 rfl hk).mono fun e w' hD => ?_
  obtain ⟨k, c, l, v', he, hK, hl, hR, hP⟩ := kn_some (S' := []) hD hm
  exact ⟨k, c, l, he, ⟨⟨v', v1, v2, hK⟩, hP _ _ _ _ h.arr (by decide) (by decide)⟩, hl, hR, hP⟩
theorem k3_handle0 {p : Msg × Value} (h : K3 w wr g0 g1 g2 s0 s1 s2 M) (hk : Ok s0) (hp : Lies wr p) (hl : p.1.entries.length ≤ 100000) (hm : 0 < (handleM s0 p.1).length) : Calls Try.prog 10 #[.pointer (some ⟨g0, 0, none⟩), .agg (mc p.1 p.2)] wr (K3Some w wr g0 g1 g2 (handleS s0 p.1) s1 s2 M (handleM s0 p.1)) := by
  obtain ⟨v0, v1, v2, h1⟩ := h.kn
  refine (kn_handle (i := 0) (a := ⟨g0, s0, v0⟩) h1 rfl hk hp hl).mono fun e w' hD => ?_
  obtain ⟨k, c, l, v', he, hK, hl, hR, hP⟩ := kn_some (S' := []) hD hm
  exact ⟨k, c, l, he, ⟨⟨v', v1, v2, hK⟩, hP _ _ _ _ h.arr (by decide) (by decide)⟩, hl, hR, hP⟩
theorem k3_deaf0 {p : Msg × Value} (h : K3 w wr g0 g1 g2 s0 s1 s2 M) (hk : Ok s0) (hp : Lies wr p) (hl : p.1.entries.length ≤ 100000) (hm : handleM s0 p.1 = []) : Calls Try.prog 10 #[.pointer (some ⟨g0, 0, none⟩), .agg (mc p.1 p.2)] wr (K3None w wr g0 g1 g2 (handleS s0 p.1) s1 s2 M) := by
  obtain ⟨v0, v1, v2, h1⟩ := h.kn
  refine (kn_handle (i := 0) (a := ⟨g0, s0, v0⟩) h1 rfl hk hp hl).mono fun e w' hD => ?_
  rw [hm] at hD
  obtain ⟨b, c, v', he, hK, hP⟩ := kn_none (S' := []) hD
  exact ⟨b, c, he, ⟨⟨v', v1, v2, hK⟩, hP _ _ _ _ h.arr (by decide) (by decide)⟩, hP⟩
theorem k3_propose0 (d : ByteArray) (h : K3 w wr g0 g1 g2 s0 s1 s2 M) (hk : Ok s0) : Calls Try.prog 14 #[.pointer (some ⟨g0, 0, none⟩), .string d] wr fun e w' => e = .returned (.tuple #[.int .i64 (proposeN s0 d), .int .i64 (proposeE s0 d)]) ∧ K3 w w' g0 g1 g2 (proposeS s0 d) s1 s2 M ∧ Kp wr w' := by
  obtain ⟨v0, v1, v2, h1⟩ := h.kn
  refine (kn_propose (i := 0) (a := ⟨g0, s0, v0⟩) d h1 rfl hk).mono ?_
  rintro e w' ⟨he, v', hK, hP⟩
  exact ⟨he, ⟨⟨v', v1, v2, hK⟩, hP _ _ _ _ h.arr (by decide) (by decide)⟩, hP⟩

theorem k3_tick1 (h : K3 w wr g0 g1 g2 s0 s1 s2 M) (hk : Ok s1) (hm : 0 < (tickM s1).length) : Calls Try.prog 9 #[.pointer (some ⟨g1, 0, none⟩)] wr (K3Some w wr g0 g1 g2 s0 (tickS s1) s2 M (tickM s1)) := by
  obtain ⟨v0, v1, v2, h1⟩ := h.kn
  refine (kn_tick (i := 1) (a := ⟨g1, s1, v1⟩) h1 rfl hk).mono fun e w' hD => ?_
  obtain ⟨k, c, l, v', he, hK, hl, hR, hP⟩ := kn_some (S' := []) hD hm
  exact ⟨k, c, l, he, ⟨⟨v0, v', v2, hK⟩, hP _ _ _ _ h.arr (by decide) (by decide)⟩, hl, hR, hP⟩
theorem k3_handle1 {p : Msg × Value} (h : K3 w wr g0 g1 g2 s0 s1 s2 M) (hk : Ok s1) (hp : Lies wr p) (hl : p.1.entries.length ≤ 100000) (hm : 0 < (handleM s1 p.1).length) : Calls Try.prog 10 #[.pointer (some ⟨g1, 0, none⟩), .agg (mc p.1 p.2)] wr (K3Some w wr g0 g1 g2 s0 (handleS s1 p.1) s2 M (handleM s1 p.1)) := by
  obtain ⟨v0, v1, v2, h1⟩ := h.kn
  refine (kn_handle (i := 1) (a := ⟨g1, s1, v1⟩) h1 rfl hk hp hl).mono fun e w' hD => ?_
  obtain ⟨k, c, l, v', he, hK, hl, hR, hP⟩ := kn_some (S' := []) hD hm
  exact ⟨k, c, l, he, ⟨⟨v0, v', v2, hK⟩, hP _ _ _ _ h.arr (by decide) (by decide)⟩, hl, hR, hP⟩
theorem k3_deaf1 {p : Msg × Value} (h : K3 w wr g0 g1 g2 s0 s1 s2 M) (hk : Ok s1) (hp : Lies wr p) (hl : p.1.entries.length ≤ 100000) (hm : handleM s1 p.1 = []) : Calls Try.prog 10 #[.pointer (some ⟨g1, 0, none⟩), .agg (mc p.1 p.2)] wr (K3None w wr g0 g1 g2 s0 (handleS s1 p.1) s2 M) := by
  obtain ⟨v0, v1, v2, h1⟩ := h.kn
  refine (kn_handle (i := 1) (a := ⟨g1, s1, v1⟩) h1 rfl hk hp hl).mono fun e w' hD => ?_
  rw [hm] at hD
  obtain ⟨b, c, v', he, hK, hP⟩ := kn_none (S' := []) hD
  exact ⟨b, c, he, ⟨⟨v0, v', v2, hK⟩, hP _ _ _ _ h.arr (by decide) (by decide)⟩, hP⟩
theorem k3_propose1 (d : ByteArray) (h : K3 w wr g0 g1 g2 s0 s1 s2 M) (hk : Ok s1) : Calls Try.prog 14 #[.pointer (some ⟨g1, 0, none⟩), .string d] wr fun e w' => e = .returned (.tuple #[.int .i64 (proposeN s1 d), .int .i64 (proposeE s1 d)]) ∧ K3 w w' g0 g1 g2 s0 (proposeS s1 d) s2 M ∧ Kp wr w' := by
  obtain ⟨v0, v1, v2, h1⟩ := h.kn
  refine (kn_propose (i := 1) (a := ⟨g1, s1, v1⟩) d h1 rfl hk).mono ?_
  rintro e w' ⟨he, v', hK, hP⟩
  exact ⟨he, ⟨⟨v0, v', v2, hK⟩, hP _ _ _ _ h.arr (by decide) (by decide)⟩, hP⟩

theorem k3_tick2 (h : K3 w wr g0 g1 g2 s0 s1 s2 M) (hk : Ok s2) (hm : 0 < (tickM s2).length) : Calls Try.prog 9 #[.pointer (some ⟨g2, 0, none⟩)] wr (K3Some w wr g0 g1 g2 s0 s1 (tickS s2) M (tickM s2)) := by
  obtain ⟨v0, v1, v2, h1⟩ := h.kn
  refine (kn_tick (i := 2) (a := ⟨g2, s2, v2⟩) h1 rfl hk).mono fun e w' hD => ?_
  obtain ⟨k, c, l, v', he, hK, hl, hR, hP⟩ := kn_some (S' := []) hD hm
  exact ⟨k, c, l, he, ⟨⟨v0, v1, v', hK⟩, hP _ _ _ _ h.arr (by decide) (by decide)⟩, hl, hR, hP⟩
theorem k3_handle2 {p : Msg × Value} (h : K3 w wr g0 g1 g2 s0 s1 s2 M) (hk : Ok s2) (hp : Lies wr p) (hl : p.1.entries.length ≤ 100000) (hm : 0 < (handleM s2 p.1).length) : Calls Try.prog 10 #[.pointer (some ⟨g2, 0, none⟩), .agg (mc p.1 p.2)] wr (K3Some w wr g0 g1 g2 s0 s1 (handleS s2 p.1) M (handleM s2 p.1)) := by
  obtain ⟨v0, v1, v2, h1⟩ := h.kn
  refine (kn_handle (i := 2) (a := ⟨g2, s2, v2⟩) h1 rfl hk hp hl).mono fun e w' hD => ?_
  obtain ⟨k, c, l, v', he, hK, hl, hR, hP⟩ := kn_some (S' := []) hD hm
  exact ⟨k, c, l, he, ⟨⟨v0, v1, v', hK⟩, hP _ _ _ _ h.arr (by decide) (by decide)⟩, hl, hR, hP⟩
theorem k3_deaf2 {p : Msg × Value} (h : K3 w wr g0 g1 g2 s0 s1 s2 M) (hk : Ok s2) (hp : Lies wr p) (hl : p.1.entries.length ≤ 100000) (hm : handleM s2 p.1 = []) : Calls Try.prog 10 #[.pointer (some ⟨g2, 0, none⟩), .agg (mc p.1 p.2)] wr (K3None w wr g0 g1 g2 s0 s1 (handleS s2 p.1) M) := by
  obtain ⟨v0, v1, v2, h1⟩ := h.kn
  refine (kn_handle (i := 2) (a := ⟨g2, s2, v2⟩) h1 rfl hk hp hl).mono fun e w' hD => ?_
  rw [hm] at hD
  obtain ⟨b, c, v', he, hK, hP⟩ := kn_none (S' := []) hD
  exact ⟨b, c, he, ⟨⟨v0, v1, v', hK⟩, hP _ _ _ _ h.arr (by decide) (by decide)⟩, hP⟩
theorem k3_propose2 (d : ByteArray) (h : K3 w wr g0 g1 g2 s0 s1 s2 M) (hk : Ok s2) : Calls Try.prog 14 #[.pointer (some ⟨g2, 0, none⟩), .string d] wr fun e w' => e = .returned (.tuple #[.int .i64 (proposeN s2 d), .int .i64 (proposeE s2 d)]) ∧ K3 w w' g0 g1 g2 s0 s1 (proposeS s2 d) M ∧ Kp wr w' := by
  obtain ⟨v0, v1, v2, h1⟩ := h.kn
  refine (kn_propose (i := 2) (a := ⟨g2, s2, v2⟩) d h1 rfl hk).mono ?_
  rintro e w' ⟨he, v', hK, hP⟩
  exact ⟨he, ⟨⟨v0, v1, v', hK⟩, hP _ _ _ _ h.arr (by decide) (by decide)⟩, hP⟩

theorem k3_one {m : Msg} {e : Ending} (n : Nat) (hn : m.entries.length = n) (h : K3Some w wr g0 g1 g2 s0 s1 s2 M [m] e w') : ∃ k c a q, e = .returned (.slice (some ⟨k, 0, none⟩) 1 c) ∧ K3 w w' g0 g1 g2 s0 s1 s2 (M ++ [(m, .slice a n q)]) ∧ Row w' k [(m, .slice a n q)] ∧ Kp wr w' := by
  obtain ⟨k, c, l, he, hK, hl, hR, hP⟩ := h
  rcases l with _ | ⟨⟨m1, x⟩, _ | ⟨b, r⟩⟩
  · simp at hl
  · simp at hl
    subst hl
    obtain ⟨a, q, hv, _⟩ := lies_open (hK.lies (p := (m1, x)) (by simp))
    dsimp only at hv
    subst hv
    rw [hn] at *
    exact ⟨k, c, a, q, he, hK, hR, hP⟩
  · simp at hl
theorem k3_two {m n : Msg} {e : Ending} (i j : Nat) (hi : m.entries.length = i) (hj : n.entries.length = j) (h : K3Some w wr g0 g1 g2 s0 s1 s2 M [m, n] e w') : ∃ k c a q b r, e = .returned (.slice (some ⟨k, 0, none⟩) 2 c) ∧ K3 w w' g0 g1 g2 s0 s1 s2 (M ++ [(m, .slice a i q), (n, .slice b j r)]) ∧ Row w' k [(m, .slice a i q), (n, .slice b j r)] ∧ Kp wr w' := by
  obtain ⟨k, c, l, he, hK, hl, hR, hP⟩ := h
  rcases l with _ | ⟨⟨m1, x⟩, _ | ⟨⟨m2, y⟩, _ | ⟨b, r⟩⟩⟩
  · simp at hl
  · simp at hl
  · simp at hl
    obtain ⟨rfl, rfl⟩ := hl
    obtain ⟨a, q, hv, _⟩ := lies_open (hK.lies (p := (m1, x)) (by simp))
    obtain ⟨b, r, hu, _⟩ := lies_open (hK.lies (p := (m2, y)) (by simp))
    dsimp only at hv hu
    subst hv hu
    rw [hi, hj] at *
    exact ⟨k, c, a, q, b, r, he, hK, hR, hP⟩
  · simp at hl
theorem K3.drew (h : K3 w wr g0 g1 g2 s0 s1 s2 M) : K3 w wr.drew g0 g1 g2 s0 s1 s2 M := h.below (Below.refl _ wr).drew
theorem Row.drew {k : Nat} {l : List (Msg × Value)} (h : Row wr k l) : Row wr.drew k l := h.below (Below.refl _ wr).drew
theorem Kp.drew (h : Kp wr.drew w') : Kp wr w' := h
theorem Row.slice {k : Nat} {l : List (Msg × Value)} (h : ∀ p ∈ l, Lies wr p) : ∀ p ∈ l, ∃ a c, p.2 = .slice a p.1.entries.length c := fun p hp => by
  obtain ⟨a, c, hv, _⟩ := lies_open (h p hp)
  exact ⟨a, c, hv⟩
end
end Rf
end Go.Proofs.Ytdacdkidjgbdoaa
