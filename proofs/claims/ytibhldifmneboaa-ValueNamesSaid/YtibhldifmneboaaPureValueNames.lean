/- For every string of at most 140737488351232 bytes the printed form of ValueNames answers true: the program's Name and the reference's Name agree, and the two closed calls answer as they must. -/
import Derived.Test.YtibhldifmneboaaPValueNamesx2
namespace Go.Proofs.Ytibhldifmneboaa.Pure
set_option linter.unusedSimpArgs false
open Go.RowKit Go.Proofs.Ytibhldifmneboaa.PValueNames Go.Proofs.YtibhldifmneboaaW.PrintWords Go.Proofs.YtibhldifmneboaaW.PrintLast

/-- a byte of a name behind the first one -/
def okc (c : Int) : Bool := (decide (97 ≤ c) && decide (c ≤ 122)) || (decide (48 ≤ c) && decide (c ≤ 57)) || decide (c = 95)
def goes (s : ByteArray) : Nat → Int → Bool
  | 0, _ => true
  | d + 1, i => if okc (bt s i) = true then goes s d (i + 1) else false

theorem wrap_up {i : Int} {n : Nat} (h0 : 0 ≤ i) (h : i < (n : Int)) (hn : n ≤ 140737488351232) : wrap64 (i + 1) = i + 1 := by
  unfold wrap64
  omega

theorem prog_goes (s : ByteArray) (hn : s.size ≤ 140737488351232) (d : Nat) : ∀ (k : Nat) (i : Int), 0 ≤ i → i ≤ s.size → (s.size : Int) - i = d → d < k →
    value_Name.l0 k s (s.size : Int) i = some (goes s d i) := by
  induction d with
  | zero =>
    intro k i h0 h1 hd hk
    obtain ⟨k, rfl⟩ : ∃ m, k = m + 1 := ⟨k - 1, by omega⟩
    simp only [value_Name.l0, goes]
    rw [if_neg (by omega)]
  | succ d ih =>
    intro k i h0 h1 hd hk
    obtain ⟨k, rfl⟩ : ∃ m, k = m + 1 := ⟨k - 1, by omega⟩
    have hlt : i < (s.size : Int) := by omega
    have hi := ih k (i + 1) (by omega) (by omega) (by omega) (by omega)
    simp only [value_Name.l0, goes]
    rw [if_pos hlt, if_pos h0, wrap_up h0 hlt hn, hi]
    generalize bt s i = c
    generalize goes s d (i + 1) = g
    unfold okc
    by_cases a1 : c < 97 <;> by_cases a2 : c > 122 <;> by_cases a3 : c < 48 <;> by_cases a4 : c > 57 <;> by_cases a5 : c = 95 <;>
      first
      | omega
      | (have e1 : decide (97 ≤ c) = !decide (c < 97) := by by_cases h : c < 97 <;> simp [h] <;> omega
         have e2 : decide (c ≤ 122) = !decide (c > 122) := by by_cases h : c > 122 <;> simp [h] <;> omega
         have e3 : decide (48 ≤ c) = !decide (c < 48) := by by_cases h : c < 48 <;> simp [h] <;> omega
         have e4 : decide (c ≤ 57) = !decide (c > 57) := by by_cases h : c > 57 <;> simp [h] <;> omega
         rw [e1, e2, e3, e4]
         simp [a1, a2, a3, a4, a5, hlt])

theorem ref_step (s : ByteArray) (hn : s.size ≤ 140737488351232) (k : Nat) (i : Int) (h0 : 0 ≤ i) (hlt : i < (s.size : Int)) (g : Bool) (hi : prompterref04_Name.l0 k s (i + 1) = some g) :
    prompterref04_Name.l0 (k + 1) s i = some (if 97 ≤ bt s i ∧ bt s i ≤ 122 then g else if i = 0 then false else if okc (bt s i) = true then g else false) := by
  simp only [prompterref04_Name.l0]
  rw [if_pos hlt, if_pos h0, wrap_up h0 hlt hn, hi]
  generalize bt s i = c
  unfold okc
  by_cases a1 : c ≥ 97 <;> by_cases a2 : c ≤ 122 <;> by_cases a3 : c ≥ 48 <;> by_cases a4 : c ≤ 57 <;> by_cases a5 : c = 95 <;> by_cases a6 : i = 0 <;>
    first
    | omega
    | simp [a1, a2, a3, a4, a5, a6]
    | (simp [a1, a2, a3, a4, a5, a6]; done)

theorem ref_goes (s : ByteArray) (hn : s.size ≤ 140737488351232) (d : Nat) : ∀ (k : Nat) (i : Int), 1 ≤ i → i ≤ s.size → (s.size : Int) - i = d → d < k →
    prompterref04_Name.l0 k s i = some (goes s d i) := by
  induction d with
  | zero =>
    intro k i h0 h1 hd hk
    obtain ⟨k, rfl⟩ : ∃ m, k = m + 1 := ⟨k - 1, by omega⟩
    simp only [prompterref04_Name.l0, goes]
    rw [if_neg (by omega)]
  | succ d ih =>
    intro k i h0 h1 hd hk
    obtain ⟨k, rfl⟩ : ∃ m, k = m + 1 := ⟨k - 1, by omega⟩
    have hlt : i < (s.size : Int) := by omega
    rw [ref_step s hn k i (by omega) hlt _ (ih k (i + 1) (by omega) (by omega) (by omega) (by omega))]
    simp only [goes]
    by_cases a : 97 ≤ bt s i ∧ bt s i ≤ 122
    · rw [if_pos a, if_pos (by simp [okc, a])]
    · rw [if_neg a, if_neg (by omega)]

/-- what both tell -/
def isName (s : ByteArray) : Bool := if 1 ≤ s.size ∧ s.size ≤ 24 ∧ 97 ≤ bt s 0 ∧ bt s 0 ≤ 122 then goes s (s.size - 1) 1 else false

theorem prog_is (s : ByteArray) (hn : s.size ≤ 140737488351232) (k : Nat) (hk : s.size + 2 ≤ k) : value_Name.f k s = some (isName s) := by
  obtain ⟨k, rfl⟩ : ∃ m, k = m + 1 := ⟨k - 1, by omega⟩
  unfold value_Name.f isName
  have hz : s.toList.length = s.size := by rw [ByteArray.toList_eq, Array.length_toList]; rfl
  by_cases a : s.size = 0
  · rw [if_pos (List.eq_nil_of_length_eq_zero (by omega)), if_neg (by omega)]
    simp [value_Name.j0]
  · rw [if_neg (by intro h; rw [h] at hz; simp at hz; omega)]
    by_cases b : (s.size : Int) > 24
    · rw [if_pos b, if_neg (by omega)]
      simp [value_Name.j0]
    · rw [if_neg b, if_pos (by omega)]
      by_cases c : bt s 0 < 97
      · rw [if_pos c, if_neg (by omega)]
        simp [value_Name.j0]
      · rw [if_neg c]
        by_cases d : bt s 0 > 122
        · rw [if_neg (by omega)]
          simp [value_Name.j0, d]
        · rw [if_pos (by omega)]
          simp only [value_Name.j0, d, decide_false, Bool.false_eq_true, if_false]
          rw [prog_goes s hn s.size k 0 (by omega) (by omega) (by omega) (by omega)]
          obtain ⟨m, hm⟩ : ∃ m, s.size = m + 1 := ⟨s.size - 1, by omega⟩
          have e : okc (bt s 0) = true := by simp [okc]; omega
          rw [hm]
          simp [goes, e]

theorem ref_is (s : ByteArray) (hn : s.size ≤ 140737488351232) (k : Nat) (hk : s.size + 2 ≤ k) : prompterref04_Name.f k s = some (isName s) := by
  obtain ⟨k, rfl⟩ : ∃ m, k = m + 1 := ⟨k - 1, by omega⟩
  unfold prompterref04_Name.f isName
  by_cases a : (s.size : Int) < 1
  · rw [if_pos a, if_neg (by omega)]
    simp [prompterref04_Name.j0]
  · rw [if_neg a]
    by_cases b : (s.size : Int) > 24
    · rw [if_neg (by omega)]
      simp [prompterref04_Name.j0, b]
    · simp only [prompterref04_Name.j0, b, decide_false, Bool.false_eq_true, if_false]
      obtain ⟨j, rfl⟩ : ∃ m, k = m + 1 := ⟨k - 1, by omega⟩
      rw [ref_step s hn j 0 (by omega) (by omega) _ (ref_goes s hn (s.size - 1) j (0 + 1) (by omega) (by omega) (by omega) (by omega))]
      by_cases c : 97 ≤ bt s 0 ∧ bt s 0 ≤ 122
      · rw [if_pos c, if_pos (by omega)]; rfl
      · rw [if_neg c, if_pos rfl, if_neg (by omega)]

theorem ValueNames : prompterlaw04_ValueNames.Pure := by
  intro s hn
  refine ⟨s.size + 40, ?_⟩
  unfold prompterlaw04_ValueNames.f
  rw [prog_is s hn _ (by omega), ref_is s hn _ (by omega)]
  simp only [Option.bind_some]
  rw [prog_is ⟨#[97, 95, 49]⟩ (by decide) _ (by show 3 + 2 ≤ _; omega), prog_is ⟨#[49, 97]⟩ (by decide) _ (by show 2 + 2 ≤ _; omega)]
  simp only [Option.bind_some]
  have e1 : isName ⟨#[97, 95, 49]⟩ = true := by decide +kernel
  have e2 : isName ⟨#[49, 97]⟩ = false := by decide +kernel
  rw [e1, e2]
  simp

end Go.Proofs.Ytibhldifmneboaa.Pure
