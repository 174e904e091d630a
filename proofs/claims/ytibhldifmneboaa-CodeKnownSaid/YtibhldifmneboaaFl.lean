/- Plain facts on the bits of a float64: which bits are finite, what x - x gives, when a number equals nought, when it lies between the greatest float and its opposite. Nothing of the program. -/
import Ieee.Arith
namespace Go.Proofs.Ytibhldifmneboaa.Fl
open Ieee

def fin (b : Nat) : Bool := decide (b % 9223372036854775808 < 9218868437227405312)
def nanB (b : Nat) : Bool := decide (9218868437227405312 < b % 9223372036854775808)

theorem cmp_lt {a b : Int} (h : a < b) : compare a b = .lt := by
  show compareOfLessAndEq a b = _
  unfold compareOfLessAndEq
  rw [if_pos h]
theorem cmp_eq {a b : Int} (h : a = b) : compare a b = .eq := by
  show compareOfLessAndEq a b = _
  unfold compareOfLessAndEq
  rw [if_neg (by omega), if_pos h]
theorem cmp_gt {a b : Int} (h : b < a) : compare a b = .gt := by
  show compareOfLessAndEq a b = _
  unfold compareOfLessAndEq
  rw [if_neg (by omega), if_neg (by omega)]
theorem eq_of_cmp {a b : Int} (h : compare a b = .eq) : a = b := by
  rcases Int.lt_trichotomy a b with k | k | k
  · rw [cmp_lt k] at h; cases h
  · exact k
  · rw [cmp_gt k] at h; cases h

theorem sw : double.signWeight = 9223372036854775808 := by decide
theorem ir : double.infRung = 9218868437227405312 := by decide
theorem bi : double.binade = 4503599627370496 := by decide
theorem lp : double.leastPlace = -1074 := by decide

def sgn (b : Nat) : Bool := b / 9223372036854775808 % 2 == 1

theorem read_fin {b : Nat} (h : fin b = true) : ∃ m i, double.read b = .number (sgn b) m i ∧ m < 9007199254740992 ∧ -1074 ≤ i ∧ i ≤ 971 ∧ (m = 0 ↔ b % 9223372036854775808 = 0) := by
  unfold Format.read
  simp only [sw, ir, bi, lp]
  have h' : b % 9223372036854775808 < 9218868437227405312 := by simpa [fin] using h
  by_cases c : b % 9223372036854775808 < 4503599627370496
  · rw [if_pos c]
    exact ⟨_, _, rfl, by omega, by omega, by omega, Iff.rfl⟩
  · rw [if_neg c, if_pos h']
    refine ⟨_, _, rfl, by omega, by omega, ?_, by omega⟩
    have : b % 9223372036854775808 / 4503599627370496 ≤ 2046 := by omega
    omega

theorem read_inf {b : Nat} (h : fin b = false) (h2 : nanB b = false) : double.read b = .infinity (sgn b) := by
  unfold Format.read
  simp only [sw, ir, bi, lp]
  have h' : ¬ b % 9223372036854775808 < 9218868437227405312 := by simpa [fin] using h
  have h2' : ¬ 9218868437227405312 < b % 9223372036854775808 := by simpa [nanB] using h2
  rw [if_neg (by omega), if_neg h', if_pos (by omega)]
  rfl

theorem read_nan {b : Nat} (h : nanB b = true) : ∃ f, double.read b = .nan (sgn b) f := by
  unfold Format.read
  simp only [sw, ir, bi, lp]
  have h2' : 9218868437227405312 < b % 9223372036854775808 := by simpa [nanB] using h
  rw [if_neg (by omega), if_neg (by omega), if_neg (by omega)]
  exact ⟨_, rfl⟩

theorem nan_not_fin {b : Nat} (h : nanB b = true) : fin b = false := by
  have h2' : 9218868437227405312 < b % 9223372036854775808 := by simpa [nanB] using h
  simp only [fin, decide_eq_false_iff_not]; omega

theorem sub_self_fin {b : Nat} (h : fin b = true) : double.sub b b = some 0 := by
  obtain ⟨m, i, hr, _⟩ := read_fin h
  unfold Format.sub
  rw [hr]
  simp only [Datum.opposite, Datum.sum, Option.map_some]
  congr 1
  have e : signed (sgn b) m (i - min i i).toNat + signed (!sgn b) m (i - min i i).toNat = 0 := by
    cases sgn b <;> simp [signed] <;> omega
  rw [e]
  cases sgn b <;> rfl

theorem sub_self_inf {b : Nat} (h : fin b = false) : double.sub b b = none := by
  unfold Format.sub
  cases h2 : nanB b with
  | false => rw [read_inf h h2]; cases sgn b <;> rfl
  | true =>
    obtain ⟨f, hr⟩ := read_nan h2
    rw [hr]
    rfl

theorem order_nan {b : Nat} (h : nanB b = true) (c : Nat) : double.order b c = none := by
  obtain ⟨f, hr⟩ := read_nan h
  unfold Format.order
  rw [hr]
  rfl

theorem order_nan_r {b : Nat} (h : nanB b = true) (c : Nat) : double.order c b = none := by
  obtain ⟨f, hr⟩ := read_nan h
  unfold Format.order
  rw [hr]
  cases double.read c <;> rfl

theorem order_self {b : Nat} (h : nanB b = false) : double.order b b = some .eq := by
  unfold Format.order
  cases h2 : fin b with
  | false => rw [read_inf h2 h]; cases sgn b <;> rfl
  | true =>
    obtain ⟨m, i, hr, _⟩ := read_fin h2
    rw [hr]
    simp only [Datum.order]
    congr 1
    exact cmp_eq rfl

theorem read_zero : double.read 0 = .number false 0 (-1074) := by decide

theorem fin_zero {b : Nat} (h : b % 9223372036854775808 = 0) : fin b = true := by simp [fin, h]

theorem order_zero_eq (b : Nat) : (double.order b 0 == some .eq) = decide (b % 9223372036854775808 = 0) := by
  cases h2 : nanB b with
  | true =>
    rw [order_nan h2]
    have h2' : 9218868437227405312 < b % 9223372036854775808 := by simpa [nanB] using h2
    have : ¬ b % 9223372036854775808 = 0 := by omega
    simp [this]
  | false =>
    cases h : fin b with
    | false =>
      unfold Format.order
      rw [read_inf h h2, read_zero]
      have : ¬ b % 9223372036854775808 = 0 := fun e => by rw [fin_zero e] at h; cases h
      simp only [Datum.order]
      cases sgn b <;> simp [this]
    | true =>
      obtain ⟨m, i, hr, _, hi, _, hz⟩ := read_fin h
      unfold Format.order
      rw [hr, read_zero]
      simp only [Datum.order]
      by_cases e : m = 0
      · have e1 := hz.1 e
        subst e
        have : signed (sgn b) 0 (i - min i (-1074)).toNat = signed false 0 (-1074 - min i (-1074)).toNat := by cases sgn b <;> simp [signed]
        rw [this, cmp_eq rfl]
        simp [e1]
      · have e1 : ¬ b % 9223372036854775808 = 0 := fun k => e (hz.2 k)
        have hp : 0 < m <<< (i - min i (-1074)).toNat := by
          rw [Nat.shiftLeft_eq]
          exact Nat.mul_pos (by omega) (Nat.two_pow_pos _)
        have h0 : (0 <<< (-1074 - min i (-1074)).toNat : Nat) = 0 := by simp
        have : signed (sgn b) m (i - min i (-1074)).toNat ≠ signed false 0 (-1074 - min i (-1074)).toNat := by
          cases sgn b <;> simp only [signed] <;> simp <;> omega
        have hne : compare (signed (sgn b) m (i - min i (-1074)).toNat) (signed false 0 (-1074 - min i (-1074)).toNat) ≠ .eq := fun k => this (eq_of_cmp k)
        simp [e1, hne]

theorem read_max : double.read 9218868437227405311 = .number false 9007199254740991 971 := by decide
theorem read_min : double.read 18442240474082181119 = .number true 9007199254740991 971 := by decide

theorem cmp_le {a b : Int} (h : a ≤ b) : (some (compare a b) == some .lt || some (compare a b) == some .eq) = true := by
  rcases Int.lt_or_eq_of_le h with h | h
  · rw [cmp_lt h]; rfl
  · rw [cmp_eq h]; rfl
theorem cmp_ge {a b : Int} (h : b ≤ a) : (some (compare a b) == some .gt || some (compare a b) == some .eq) = true := by
  rcases Int.lt_or_eq_of_le h with h | h
  · rw [cmp_gt h]; rfl
  · rw [cmp_eq h.symm]; rfl

theorem mag_le {m : Nat} (i : Int) (hm : m < 9007199254740992) (hi : i ≤ 971) : m <<< (i - min i 971).toNat ≤ 9007199254740991 <<< (971 - min i 971).toNat := by
  rw [show min i 971 = i by omega, show (i - i).toNat = 0 by omega, Nat.shiftLeft_eq, Nat.shiftLeft_eq, Nat.pow_zero, Nat.mul_one]
  have : 0 < 2 ^ (971 - i).toNat := Nat.two_pow_pos _
  exact Nat.le_trans (by omega) (Nat.le_mul_of_pos_right _ this)

theorem sg_le (s : Bool) {m n a c : Nat} (h : m <<< a ≤ n <<< c) : signed s m a ≤ signed false n c ∧ signed true n c ≤ signed s m a := by
  unfold signed
  generalize m <<< a = A at *
  generalize n <<< c = B at *
  cases s <;> simp only [Bool.false_eq_true, if_false, if_true] <;> omega

theorem le_max (b : Nat) (hn : nanB b = false) : (double.order b 9218868437227405311 == some .lt || double.order b 9218868437227405311 == some .eq) = (fin b || sgn b) := by
  cases h : fin b with
  | false =>
    unfold Format.order
    rw [read_inf h hn, read_max]
    simp only [Datum.order]
    cases sgn b <;> rfl
  | true =>
    obtain ⟨m, i, hr, hm, hi, hi2, hz⟩ := read_fin h
    unfold Format.order
    rw [hr, read_max]
    simp only [Datum.order]
    rw [cmp_le ?_]
    · rfl
    · have := mag_le i hm hi2
      exact (sg_le (sgn b) this).1

theorem ge_min (b : Nat) (hn : nanB b = false) : (double.order b 18442240474082181119 == some .gt || double.order b 18442240474082181119 == some .eq) = (fin b || !sgn b) := by
  cases h : fin b with
  | false =>
    unfold Format.order
    rw [read_inf h hn, read_min]
    simp only [Datum.order]
    cases sgn b <;> rfl
  | true =>
    obtain ⟨m, i, hr, hm, hi, hi2, hz⟩ := read_fin h
    unfold Format.order
    rw [hr, read_min]
    simp only [Datum.order]
    rw [cmp_ge ?_]
    · rfl
    · have := mag_le i hm hi2
      exact (sg_le (sgn b) this).2

/-- what the two together say -/
theorem ended_fin (b : Nat) : (nanB b = false ∧ (double.order b 9218868437227405311 == some .lt || double.order b 9218868437227405311 == some .eq) = true ∧ (double.order b 18442240474082181119 == some .gt || double.order b 18442240474082181119 == some .eq) = true) ↔ fin b = true := by
  constructor
  · rintro ⟨h1, h2, h3⟩
    rw [le_max b h1] at h2
    rw [ge_min b h1] at h3
    cases h : fin b with
    | true => rfl
    | false => rw [h] at h2 h3; cases hs : sgn b <;> simp [hs] at h2 h3
  · intro h
    have hn : nanB b = false := by
      cases hn : nanB b with
      | false => rfl
      | true => rw [nan_not_fin hn] at h; cases h
    rw [le_max b hn, ge_min b hn, h]
    exact ⟨hn, rfl, rfl⟩

/-- any answer to the question 'which NaN' is a NaN -/
theorem nan_of_tape (t : Nat) : nanB ((t % 2) * 2 ^ 63 + 0x7ff0000000000000 + 1 + (t / 2) % (2 ^ 52 - 1)) = true := by
  simp only [nanB, decide_eq_true_eq]
  have h1 : t % 2 < 2 := Nat.mod_lt _ (by omega)
  have h2 : (t / 2) % (2 ^ 52 - 1) < 2 ^ 52 - 1 := Nat.mod_lt _ (by omega)
  generalize (t / 2) % (2 ^ 52 - 1) = q at *
  rcases (by omega : t % 2 = 0 ∨ t % 2 = 1) with h | h <;> rw [h] <;> omega

theorem neg_bits {b : Nat} (h : b < 18446744073709551616) : sgn b = decide (9223372036854775808 ≤ b) := by
  unfold sgn
  by_cases c : 9223372036854775808 ≤ b
  · have : b / 9223372036854775808 = 1 := by omega
    simp [this, c]
  · have : b / 9223372036854775808 = 0 := by omega
    simp [this, c]

end Go.Proofs.Ytibhldifmneboaa.Fl
