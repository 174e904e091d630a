/- The contracts of raft's differs, slices.Clip. -/
import Derived.Test.YtdacdkidjgbdoaaTh
set_option linter.unusedVariables false
set_option linter.unusedSimpArgs false
namespace Go.Proofs.Ytdacdkidjgbdoaa
open Go Go.RowKit
namespace Rf
attribute [local go_sem ↓] Go.wp_at_zero Go.wp_at_succ

/-- how many entries behind number ix are as those in the log l -/
def diffN (l : List Ent) : Nat → List Ent → Nat
  | _, [] => 0
  | ix, e :: r => if l.length < ix + 1 ∨ tat l (ix + 1) ≠ e.term then 0 else 1 + diffN l (ix + 1) r
theorem diffN_drop {l es : List Ent} {ix i : Nat} {e : Ent} (h : es[i]? = some e) : diffN l (ix + i) (es.drop i) = if l.length < ix + i + 1 ∨ tat l (ix + i + 1) ≠ e.term then 0 else 1 + diffN l (ix + (i + 1)) (es.drop (i + 1)) := by
  have : es.drop i = e :: es.drop (i + 1) := by
    obtain ⟨hlt, he⟩ := List.getElem?_eq_some_iff.1 h
    rw [List.drop_eq_getElem_cons hlt, he]
  rw [this, diffN]
  rfl
theorem diffN_le (l : List Ent) (ix : Nat) (es : List Ent) : diffN l ix es ≤ es.length := by
  induction es generalizing ix with
  | nil => simp [diffN]
  | cons e r ih => unfold diffN; split
                   · omega
                   · have := ih (ix + 1); simp only [List.length_cons]; omega
def IntPost (x : Int) (w : World) (e : Ending) (w' : World) : Prop := e = .returned (.int .i64 x) ∧ Below w.heap.size w w'

set_option maxRecDepth 100000 in
set_option maxHeartbeats 2000000 in
theorem differs_is (g : Nat) (s : Srv) (v : Value) (k : Nat) (src dst tm lt cm : Int) (ix L : Nat) (es : List Ent) (ok : Bool) (a : Option Addr) (c : Nat) (hL : s.log.length = L) (hL2 : L ≤ 4096) (hix : ix ≤ 4096) (hes : es.length ≤ 4096) (w : World) (h : Is w g s v) (hd : Hd w a es) :
    Calls Try.prog 67 #[.pointer (some ⟨g, 0, none⟩), .agg #[.int .u8 k, .int .i64 src, .int .i64 dst, .int .i64 tm, .int .i64 ix, .int .i64 lt, .slice a es.length c, .int .i64 cm, .bool ok]] w (IntPost (diffN s.log ix es) w) := by
  have hB0 := (Below.refl _ w).alloc (Nat.le_refl _) (.cells #[.int .u8 k, .int .i64 src, .int .i64 dst, .int .i64 tm, .int .i64 ix, .int .i64 lt, .slice a es.length c, .int .i64 cm, .bool ok] 34)
  have hbx := heap_alloc_new w (.cells #[.int .u8 k, .int .i64 src, .int .i64 dst, .int .i64 tm, .int .i64 ix, .int .i64 lt, .slice a es.length c, .int .i64 cm, .bool ok] 34)
  have hsz0 := World.size_alloc w (.cells #[.int .u8 k, .int .i64 src, .int .i64 dst, .int .i64 tm, .int .i64 ix, .int .i64 lt, .slice a es.length c, .int .i64 cm, .bool ok] 34)
  have cl := fun W (hW : Is W g s v) => last_is g s v W hW
  have ct := fun W n (hW : Is W g s v) (hn : n ≤ s.log.length) => term_is g s v n hn (by omega) W hW
  rw [hL] at cl
  generalize hR : diffN s.log ix es = R
  have HR : Hid (0 + diffN s.log (ix + 0) (es.drop 0) = R) := Lib.hid (by simpa using hR)
  clear hR
  go_enter Try.func67, Try.ntmps67
  go_wp2_with fail
  generalize (w.alloc (.cells #[.int .u8 k, .int .i64 src, .int .i64 dst, .int .i64 tm, .int .i64 ix, .int .i64 lt, .slice a es.length c, .int .i64 cm, .bool ok] 34)) = W0 at *
  have hlt0 : w.heap.size < W0.heap.size := by omega
  clear hsz0
  go_loopw [5, 6, 7, 11] (fun _ _ _ cv wr => ∃ i : Nat, i ≤ es.length ∧ cv = .int .i64 i ∧ Hid (i + diffN s.log (ix + i) (es.drop i) = R) ∧ Below W0.heap.size W0 wr) (fun _ _ _ cv _ => es.length - (intOf cv).toNat)
  case atStart => exact ⟨0, by omega, rfl, HR, Below.refl _ _⟩
  case round =>
    obtain ⟨i, hi7, rfl, HE, hB⟩ := hrel
    clear HR
    have hBw := hB0.trans (hB.mono hB0.size)
    have hs := h.below hBw
    have hbx2 := (hB.block _ hlt0).trans hbx
    have hsz := hB.size
    rcases Nat.lt_or_ge i es.length with hlt | hge
    · have b1 : (i : Int) < es.length := by omega
      obtain ⟨e, he⟩ : ∃ e, es[i]? = some e := ⟨_, List.getElem?_eq_getElem hlt⟩
      have hE2 := diffN_drop (l := s.log) (ix := ix) he
      rw [hL] at hE2
      cases a with
      | none => have := hd.none_ rfl; rw [this] at hlt; simp at hlt
      | some ad =>
        obtain ⟨kk, rfl, hkk, hcell⟩ := (hd.below hBw).some_ ad rfl
        obtain ⟨x, y⟩ := hcell i e he
        have m4 : wr.cell? ⟨w.heap.size, 4, none⟩ = some (.int .i64 ix) := by simp [World.cell?, hbx2]
        have HE2 := Lib.hid hE2
        have hltb : w.heap.size < wr.heap.size := by omega
        have hBn := (Below.refl wr.heap.size wr).alloc (Nat.le_refl _) (.cells #[.int .i64 e.term, .string e.data] 39)
        have hs2 := hs.below hBn
        have hBx := hB.trans (hBn.mono hsz)
        clear hE2 he hcell hd hbx2 hbx
        by_cases t1 : L < ix + i + 1
        · have hR : R = (i : Nat) := by have h1 := HE.out; have h2 := HE2.out; rw [if_pos (.inl t1)] at h2; omega
          have d1 : decide ((L : Int) < (ix : Int) + 1 + i) = true := by simp; omega
          subst hR
          clear HE HE2 t1
          go_wp2_with fail
          go_quiet ((go_at_call 40; exact Calls.quiet_of_same ((cl _ (by first | exact hs2.drewN _ | exact hs2)).mono (fun e w' he => ⟨he.1, he.2.symm⟩))))
          go_wp2_with fail
          go_ret
          exact ⟨rfl, belowN (hB0.trans (hBx.mono hB0.size))⟩
        · obtain ⟨T, hT⟩ : ∃ T, tat s.log (ix + i + 1) = T := ⟨_, rfl⟩
          have ct2 : ∀ W, Is W g s v → Calls Try.prog 41 #[.pointer (some ⟨g, 0, none⟩), .int .i64 ((ix : Int) + 1 + i)] W fun e w' => e = .returned (.int .i64 T) ∧ W = w' := fun W hW => by
            have := ct W (ix + i + 1) hW (by omega)
            rw [hT] at this
            rw [show ((ix : Int) + 1 + i) = ((ix + i + 1 : Nat) : Int) by omega]
            exact this
          by_cases t2 : T = e.term
          · have HE3 : Hid ((i + 1 : Nat) + diffN s.log (ix + (i + 1)) (es.drop (i + 1)) = R) := Lib.hid (by have h1 := HE.out; have h2 := HE2.out; rw [if_neg (by rw [hT]; rintro (x | x); exact t1 x; exact x t2)] at h2; omega)
            have d1 : decide ((L : Int) < (ix : Int) + 1 + i) = false := by simp; omega
            have d2 : (T != e.term) = false := by simp [t2]
            clear HE HE2 t1 t2 hT ct
            go_wp2_with fail
            go_quiet ((first | (go_at_call 40; exact Calls.quiet_of_same ((cl _ (by first | exact hs2.drewN _ | exact hs2)).mono (fun e w' he => ⟨he.1, he.2.symm⟩))) | (go_at_call 41; exact Calls.quiet_of_same ((ct2 _ (by first | exact hs2.drewN _ | exact hs2)).mono (fun e w' he => ⟨he.1, he.2.symm⟩)))))
            go_wp2_with fail
            go_roundw
            case rel => exact ⟨i + 1, by omega, by go_num, HE3, belowN hBx⟩
            case measure => simp [intOf]; omega
          · have hR : R = (i : Nat) := by have h1 := HE.out; have h2 := HE2.out; rw [if_pos (.inr (by rw [hT]; exact t2))] at h2; omega
            have d1 : decide ((L : Int) < (ix : Int) + 1 + i) = false := by simp; omega
            have d2 : (T != e.term) = true := by simp [t2]
            subst hR
            clear HE HE2 t1 t2 hT ct
            go_wp2_with fail
            go_quiet ((first | (go_at_call 40; exact Calls.quiet_of_same ((cl _ (by first | exact hs2.drewN _ | exact hs2)).mono (fun e w' he => ⟨he.1, he.2.symm⟩))) | (go_at_call 41; exact Calls.quiet_of_same ((ct2 _ (by first | exact hs2.drewN _ | exact hs2)).mono (fun e w' he => ⟨he.1, he.2.symm⟩)))))
            go_wp2_with fail
            go_ret
            exact ⟨rfl, belowN (hB0.trans (hBx.mono hB0.size))⟩
    · have b1 : ¬ (i : Int) < es.length := by omega
      obtain rfl : i = es.length := by omega
      have hE2 := HE.out
      rw [List.drop_of_length_le (Nat.le_refl _)] at hE2
      simp only [diffN, Nat.add_zero] at hE2
      have : R = es.length := hE2.symm
      subst this
      have m6 : wr.cell? ⟨w.heap.size, 6, none⟩ = some (.slice a es.length c) := by simp [World.cell?, hbx2]
      clear HE hE2
      go_wp2_with fail
      go_ret
      exact ⟨rfl, hBw⟩

theorem clip_is (a : Option Addr) (n c : Nat) (hc : n ≤ c) (hm : c ≤ maxLen) (w : World) :
    Calls Try.prog 68 #[.slice a n c] w fun e w' => e = .returned (.slice a n n) ∧ w = w' := by
  unfold maxLen at hm
  have h1 : (n : Int) ≤ c := by omega
  have h2 : (0 : Int) ≤ n := by omega
  go_enter Try.func68, Try.ntmps68
  go_wp2_with fail
  go_ret
  exact ⟨rfl, rfl⟩
end Rf
end Go.Proofs.Ytdacdkidjgbdoaa
