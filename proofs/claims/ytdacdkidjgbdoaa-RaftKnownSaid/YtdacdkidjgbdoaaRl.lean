/- The contracts of raft's rises, may. -/
import Derived.Test.YtdacdkidjgbdoaaRk
set_option linter.unusedVariables false
set_option linter.unusedSimpArgs false
namespace Go.Proofs.Ytdacdkidjgbdoaa
open Go Go.RowKit
namespace Rf
attribute [local go_sem ↓] Go.wp_at_zero Go.wp_at_succ

/-- entries that can be read, from the head of a block -/
structure Hd (w : World) (a : Option Addr) (l : List Ent) : Prop where
  none_ : a = none → l = []
  some_ : ∀ ad, a = some ad → ∃ k, ad = ⟨k, 0, none⟩ ∧ k < w.heap.size ∧ ∀ (i : Nat) (e : Ent), l[i]? = some e → w.cell? ⟨k, i * 2, none⟩ = some (.int .i64 e.term) ∧ w.cell? ⟨k, i * 2 + 1, none⟩ = some (.string e.data)
theorem Hd.below {w w' : World} {a : Option Addr} {l : List Ent} (h : Hd w a l) (hB : Below w.heap.size w w') : Hd w' a l := by
  refine ⟨h.none_, fun ad e => ?_⟩
  obtain ⟨k, h1, h2, h3⟩ := h.some_ ad e
  refine ⟨k, h1, Nat.lt_of_lt_of_le h2 hB.size, fun i e he => ?_⟩
  obtain ⟨x, y⟩ := h3 i e he
  exact ⟨(hB.cell (p := ⟨k, i * 2, none⟩) h2).trans x, (hB.cell (p := ⟨k, i * 2 + 1, none⟩) h2).trans y⟩
theorem cells_of_ents {w : World} {k : Nat} {l : List Ent} (h : ∀ j u, (ents l)[j]? = some u → w.cell? ((⟨k, 0, none⟩ : Addr).add j) = some u) (i : Nat) (e : Ent) (he : l[i]? = some e) :
    w.cell? ⟨k, i * 2, none⟩ = some (.int .i64 e.term) ∧ w.cell? ⟨k, i * 2 + 1, none⟩ = some (.string e.data) := by
  have h0 := h (2 * i + 0) _ (by rw [ents_at he (by omega)]; rfl)
  have h1 := h (2 * i + 1) _ (by rw [ents_at he (by omega)]; rfl)
  rw [Addr.add_mid] at h0 h1
  simp only [Nat.zero_add, Nat.add_zero] at h0 h1
  rw [Nat.mul_comm] at h0 h1
  exact ⟨h0, h1⟩
theorem Hd.of_own {w : World} {base n c : Nat} {a : Option Addr} {l : List Ent} (h : w.ownsRow base 39 2 (.slice a n c) n (ents l)) (hn : n = l.length) : Hd w a l := by
  have he := es_own h hn
  refine ⟨he.none_, fun ad e => ?_⟩
  rcases h.2 with ⟨hv, h0⟩ | ⟨g, cap, cur, hv, _, hh, _⟩
  · injection hv with h1; rw [h1] at e; cases e
  · injection hv with h1 h2 h3
    rw [h1] at e
    injection e with e
    refine ⟨g, e.symm, (Array.getElem?_eq_some_iff.1 hh).1, cells_of_ents (he.cell _ h1)⟩

/-- do entries rise? -/
def rises : List Ent → Int → Int → Bool
  | [], _, _ => true
  | e :: r, lo, hi => if e.term < lo ∨ hi < e.term ∨ 65536 < e.data.size then false else rises r e.term hi
theorem rises_drop {l : List Ent} {i : Nat} {e : Ent} (h : l[i]? = some e) (lo hi : Int) : rises (l.drop i) lo hi = if e.term < lo ∨ hi < e.term ∨ 65536 < e.data.size then false else rises (l.drop (i + 1)) e.term hi := by
  have : l.drop i = e :: l.drop (i + 1) := by
    obtain ⟨hlt, he⟩ := List.getElem?_eq_some_iff.1 h
    rw [List.drop_eq_getElem_cons hlt, he]
  rw [this, rises]
def RisesPost (b : Bool) (w : World) (e : Ending) (w' : World) : Prop := e = .returned (.bool b) ∧ Below w.heap.size w w'

set_option maxRecDepth 100000 in
set_option maxHeartbeats 2000000 in
theorem rises_is (a : Option Addr) (c : Nat) (l : List Ent) (lo hi : Int) (hl : l.length ≤ 100000) (w : World) (h : Hd w a l) :
    Calls Try.prog 63 #[.slice a l.length c, .int .i64 lo, .int .i64 hi] w (RisesPost (rises l lo hi) w) := by
  generalize hR : rises l lo hi = R
  have HR := Lib.hid hR
  clear hR
  go_enter Try.func63, Try.ntmps63
  go_wp2_with fail
  go_loopw [1, 8, 11] (fun lv _ cv wr => ∃ (i : Nat) (lo' : Int), i ≤ l.length ∧ cv = .int .i64 i ∧ lv = .int .i64 lo' ∧ Hid (rises (l.drop i) lo' hi = R) ∧ Below w.heap.size w wr) (fun _ _ cv _ => l.length - (intOf cv).toNat)
  case atStart => exact ⟨0, lo, by omega, rfl, rfl, HR, Below.refl _ _⟩
  case round =>
    obtain ⟨i, lo', hi7, rfl, rfl, HE, hB⟩ := hrel
    rcases Nat.lt_or_ge i l.length with hlt | hge
    · have b1 : (i : Int) < l.length := by omega
      obtain ⟨e, he⟩ : ∃ e, l[i]? = some e := ⟨_, List.getElem?_eq_getElem hlt⟩
      have hE2 := rises_drop he lo' hi
      rw [HE.out] at hE2
      cases a with
      | none => have := h.none_ rfl; rw [this] at hlt; simp at hlt
      | some ad =>
        obtain ⟨k, rfl, hk, hcell⟩ := (h.below hB).some_ ad rfl
        obtain ⟨x, y⟩ := hcell i e he
        have hB2 := hB.size
        have HE2 := Lib.hid hE2
        clear hE2 he hcell h
        by_cases t1 : e.term < lo'
        · have hR : R = false := by have := HE2.out; rw [if_pos (.inl t1)] at this; exact this
          have d1 : decide (e.term < lo') = true := by simp [t1]
          subst hR
          clear HE HE2 HR
          go_wp2_with fail
          go_ret
          exact ⟨rfl, hB.alloc hB2 _⟩
        · by_cases t2 : hi < e.term
          · have hR : R = false := by have := HE2.out; rw [if_pos (.inr (.inl t2))] at this; exact this
            have d1 : decide (e.term < lo') = false := by simp [t1]
            have d2 : decide (hi < e.term) = true := by simp [t2]
            subst hR
            clear HE HE2 HR
            go_wp2_with fail
            go_ret
            exact ⟨rfl, hB.alloc hB2 _⟩
          · by_cases t3 : 65536 < e.data.size
            · have hR : R = false := by have := HE2.out; rw [if_pos (.inr (.inr t3))] at this; exact this
              have d1 : decide (e.term < lo') = false := by simp [t1]
              have d2 : decide (hi < e.term) = false := by simp [t2]
              have d3 : decide ((65536 : Int) < e.data.size) = true := by simp; omega
              subst hR
              clear HE HE2 HR
              go_wp2_with fail
              trace_state
              go_ret
              exact ⟨rfl, hB.alloc hB2 _⟩
            · have HE3 : Hid (rises (l.drop (i + 1)) e.term hi = R) := by have := HE2.out; rw [if_neg (by rintro (x | x | x); exact t1 x; exact t2 x; exact t3 x)] at this; exact Lib.hid this.symm
              have d1 : decide (e.term < lo') = false := by simp [t1]
              have d2 : decide (hi < e.term) = false := by simp [t2]
              have d3 : decide ((65536 : Int) < e.data.size) = false := by simp; omega
              have d3' : (e.data.size : Int) ≤ 65536 := by omega
              clear HE HE2
              go_wp2_with fail
              go_roundw
              case rel => exact ⟨i + 1, e.term, by omega, by go_num, rfl, HE3, hB.alloc hB2 _⟩
              case measure => simp [intOf]; omega
    · have b1 : ¬ (i : Int) < l.length := by omega
      obtain rfl : i = l.length := by omega
      have hE2 := HE.out
      rw [List.drop_of_length_le (Nat.le_refl _)] at hE2
      clear HE HR
      have : R = true := hE2.symm
      subst this
      go_wp2_with fail
      go_ret
      exact ⟨rfl, hB⟩
end Rf
end Go.Proofs.Ytdacdkidjgbdoaa
