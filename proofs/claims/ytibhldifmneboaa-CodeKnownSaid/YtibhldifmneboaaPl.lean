/- Contracts of plane's and prompterref02's small functions on floats and complex numbers: what each answers at any bits; the world is the old one, but for answers drawn. -/
import Derived.Test.YtibhldifmneboaaProg
import Derived.Test.YtibhldifmneboaaFl
import Derived.WalkKit
import Derived.WalkLawsBesides
import Derived.KernelRfl
import Derived.Below
import Derived.Deep.Draws
import Derived.Deep.QuietTactic
import Derived.BigQuiet
import Derived.Lib.Hide
import Derived.Laws.Externs
namespace Go.Proofs.Ytibhldifmneboaa
open Go.RowKit
namespace Pl
open Fl

/-- x - x on floats -/
theorem run_sub_self (P : Program) (t : TypeId) (b : Nat) (w : World) :
    ∃ r w', (∃ n, w' = w.drewN n) ∧ (binOp .sub t (.float .f64 b) (.float .f64 b)).run P w = .ok (.float .f64 r) w' ∧ (Ieee.double.order r 0 == some .eq) = fin b := by
  cases h : fin b with
  | true =>
    refine ⟨0, w, ⟨0, rfl⟩, run_float_arith w .sub t .f64 b b 0 (sub_self_fin h), ?_⟩
    rw [order_zero_eq]; rfl
  | false =>
    refine ⟨Question.cut (.nanBits .f64 b b) (w.tape w.drawn (.nanBits .f64 b b)), w.drew, ⟨1, rfl⟩, ?_, ?_⟩
    · have hs : FloatKind.f64.format.sub b b = none := sub_self_inf h
      simp [binOp, Op.floatArith, hs, Question.forced]
    · have hn : nanB (Question.cut (.nanBits .f64 b b) (w.tape w.drawn (.nanBits .f64 b b))) = true := nan_of_tape _
      rw [order_nan hn]; rfl

theorem finite_any (b : Nat) (w : World) : Calls Try.prog 96 #[.float .f64 b] w fun e w' => e = .returned (.bool (fin b)) ∧ ∃ n, w' = w.drewN n := by
  obtain ⟨r, w1, ⟨n, hn⟩, hrun, hr⟩ := run_sub_self Try.prog 23 b w
  have hr' : (FloatKind.f64.format.order r 0 == some .eq) = fin b := hr
  subst hn
  clear hr
  go_enter Try.func96, Try.ntmps96
  go_wp2
  go_ret
  exact ⟨rfl, n, rfl⟩

theorem ends_any (a b : Nat) (w : World) : Calls Try.prog 85 #[.complex .f64 a b] w fun e w' => e = .returned (.bool (fin a && fin b)) ∧ ∃ n, w' = w.drewN n := by
  cases ha : fin a with
  | true =>
    have ca := fun w => finite_any a w
    rw [ha] at ca
    go_enter Try.func85, Try.ntmps85
    go_wp2_with fail
    refine (ca _).mono ?_
    rintro e w1 ⟨rfl, n, rfl⟩
    go_wp2_with fail
    refine (finite_any b _).mono ?_
    rintro e w1 ⟨rfl, m, rfl⟩
    go_wp2
    go_ret
    exact ⟨rfl, n + m, rfl⟩
  | false =>
    have ca := fun w => finite_any a w
    rw [ha] at ca
    go_enter Try.func85, Try.ntmps85
    go_wp2_with fail
    refine (ca _).mono ?_
    rintro e w1 ⟨rfl, n, rfl⟩
    go_wp2
    go_ret
    exact ⟨rfl, n, rfl⟩


theorem run_bits (b : Nat) (w : World) : (callFunc 87 #[.float .f64 b]).run Try.prog w = .ok (.value (.int .u64 b)) w :=
  (run_callFunc_extern (e := Extern.MathFloatBits.float64bits) Try.func87 (by kernel_rfl) (by kernel_rfl) (by kernel_rfl) (by kernel_rfl) _ _).trans rfl
theorem run_frombits (b : Nat) (w : World) : (callFunc 72 #[.int .u64 b]).run Try.prog w = .ok (.value (.float .f64 b)) w :=
  (run_callFunc_extern (e := Extern.MathFloatBits.float64frombits) Try.func72 (by kernel_rfl) (by kernel_rfl) (by kernel_rfl) (by kernel_rfl) _ _).trans rfl

theorem signbit_any (b : Nat) (hb : b < 18446744073709551616) (w : World) : Calls Try.prog 86 #[.float .f64 b] w fun e w' => e = .returned (.bool (decide (9223372036854775808 ≤ b))) ∧ w = w' := by
  have hr := fun w => run_bits b w
  have hd : decide (9223372036854775808 ≤ b) = decide (wrap64 (b : Int) < 0) := by
    unfold wrap64
    by_cases h : 9223372036854775808 ≤ b
    · rw [decide_eq_true h, decide_eq_true (by omega)]
    · rw [decide_eq_false h, decide_eq_false (by omega)]
  have HD := Lib.hid hd
  clear hd hb
  go_enter Try.func86, Try.ntmps86
  go_wp2
  go_ret
  exact ⟨by rw [HD.out]; rfl, rfl⟩

/-- fine, of the bits of both parts -/
def fineB (a b : Nat) : Bool := fin a && fin b && !decide (a = 9223372036854775808) && !decide (b = 9223372036854775808)

theorem zero_sign {b : Nat} (hb : b < 18446744073709551616) : (decide (b % 9223372036854775808 = 0) && decide (9223372036854775808 ≤ b)) = decide (b = 9223372036854775808) := by
  by_cases h : b = 9223372036854775808
  · subst h; rfl
  · rw [decide_eq_false h]
    by_cases h1 : b % 9223372036854775808 = 0
    · have : ¬ 9223372036854775808 ≤ b := by omega
      simp [this]
    · simp [h1]

/-- Fine of package plane: one way for each test. -/
theorem fine_any (a b : Nat) (ha : a < 18446744073709551616) (hb : b < 18446744073709551616) (w : World) :
    Calls Try.prog 50 #[.complex .f64 a b] w fun e w' => e = .returned (.bool (fineB a b)) ∧ ∃ n, w' = w.drewN n := by
  have za := zero_sign ha
  have zb := zero_sign hb
  have oa : (FloatKind.f64.format.order a 0 == some .eq) = decide (a % 9223372036854775808 = 0) := order_zero_eq a
  have ob : (FloatKind.f64.format.order b 0 == some .eq) = decide (b % 9223372036854775808 = 0) := order_zero_eq b
  have sa := fun w => signbit_any a ha w
  have sb := fun w => signbit_any b hb w
  have ce := fun w => ends_any a b w
  have hf : fineB a b = ((fin a && fin b) && !(decide (a % 9223372036854775808 = 0) && decide (9223372036854775808 ≤ a)) && !(decide (b % 9223372036854775808 = 0) && decide (9223372036854775808 ≤ b))) := by rw [za, zb]; rfl
  rw [hf]
  generalize (fin a && fin b) = E at ce ⊢
  generalize decide (a % 9223372036854775808 = 0) = A at oa ⊢
  generalize decide (b % 9223372036854775808 = 0) = B at ob ⊢
  generalize decide (9223372036854775808 ≤ a) = SA at sa ⊢
  generalize decide (9223372036854775808 ≤ b) = SB at sb ⊢
  clear za zb hf ha hb
  cases E with
  | false =>
    go_enter Try.func50, Try.ntmps50
    go_wp2_with fail
    refine (ce _).mono ?_
    rintro e w1 ⟨rfl, n, rfl⟩
    go_wp2
    go_ret
    exact ⟨rfl, n, rfl⟩
  | true =>
    cases A with
    | true =>
      cases SA with
      | true =>
        go_enter Try.func50, Try.ntmps50
        go_wp2_with fail
        refine (ce _).mono ?_
        rintro e w1 ⟨rfl, n, rfl⟩
        go_wp2_with fail
        refine (sa _).mono ?_
        rintro e w1 ⟨rfl, rfl⟩
        go_wp2
        go_ret
        exact ⟨rfl, n, rfl⟩
      | false =>
        cases B with
        | true =>
          go_enter Try.func50, Try.ntmps50
          go_wp2_with fail
          refine (ce _).mono ?_
          rintro e w1 ⟨rfl, n, rfl⟩
          go_wp2_with fail
          refine (sa _).mono ?_
          rintro e w1 ⟨rfl, rfl⟩
          go_wp2_with fail
          refine (sb _).mono ?_
          rintro e w1 ⟨rfl, rfl⟩
          go_wp2
          go_ret
          exact ⟨by cases SB <;> rfl, n, rfl⟩
        | false =>
          go_enter Try.func50, Try.ntmps50
          go_wp2_with fail
          refine (ce _).mono ?_
          rintro e w1 ⟨rfl, n, rfl⟩
          go_wp2_with fail
          refine (sa _).mono ?_
          rintro e w1 ⟨rfl, rfl⟩
          go_wp2
          go_ret
          exact ⟨rfl, n, rfl⟩
    | false =>
      cases B with
      | true =>
        go_enter Try.func50, Try.ntmps50
        go_wp2_with fail
        refine (ce _).mono ?_
        rintro e w1 ⟨rfl, n, rfl⟩
        go_wp2_with fail
        refine (sb _).mono ?_
        rintro e w1 ⟨rfl, rfl⟩
        go_wp2
        go_ret
        exact ⟨by cases SB <;> rfl, n, rfl⟩
      | false =>
        go_enter Try.func50, Try.ntmps50
        go_wp2_with fail
        refine (ce _).mono ?_
        rintro e w1 ⟨rfl, n, rfl⟩
        go_wp2
        go_ret
        exact ⟨rfl, n, rfl⟩

/-! ### prompterref02 -/
theorem nan_any (b : Nat) (w : World) : Calls Try.prog 88 #[.float .f64 b] w fun e w' => e = .returned (.bool (nanB b)) ∧ w = w' := by
  have h : (FloatKind.f64.format.order b b != some .eq) = nanB b := by
    cases hn : nanB b with
    | true => have := order_nan hn b; show (Ieee.double.order b b != some .eq) = true; rw [this]; rfl
    | false => have := order_self hn; show (Ieee.double.order b b != some .eq) = false; rw [this]; rfl
  go_enter Try.func88, Try.ntmps88
  go_wp2
  go_ret
  exact ⟨rfl, rfl⟩

theorem ended_any (b : Nat) (w : World) : Calls Try.prog 55 #[.float .f64 b] w fun e w' => e = .returned (.bool (fin b)) ∧ w = w' := by
  have hn := fun w => nan_any b w
  have l : (FloatKind.f64.format.order b 9218868437227405311 == some .lt || FloatKind.f64.format.order b 9218868437227405311 == some .eq) = (Ieee.double.order b 9218868437227405311 == some .lt || Ieee.double.order b 9218868437227405311 == some .eq) := rfl
  have g : (FloatKind.f64.format.order b 18442240474082181119 == some .gt || FloatKind.f64.format.order b 18442240474082181119 == some .eq) = (Ieee.double.order b 18442240474082181119 == some .gt || Ieee.double.order b 18442240474082181119 == some .eq) := rfl
  have he := ended_fin b
  generalize (Ieee.double.order b 9218868437227405311 == some .lt || Ieee.double.order b 9218868437227405311 == some .eq) = L at l he
  generalize (Ieee.double.order b 18442240474082181119 == some .gt || Ieee.double.order b 18442240474082181119 == some .eq) = G at g he
  generalize nanB b = N at hn he
  have hE : fin b = (!N && L && G) := by
    rw [Bool.eq_iff_iff, ← he]
    cases N <;> cases L <;> cases G <;> simp
  rw [hE]
  clear he hE
  cases N with
  | true =>
    go_enter Try.func55, Try.ntmps55
    go_wp2_with fail
    refine (hn _).mono ?_
    rintro e w1 ⟨rfl, rfl⟩
    go_wp2
    go_ret
    exact ⟨rfl, rfl⟩
  | false =>
    cases L with
    | true =>
      go_enter Try.func55, Try.ntmps55
      go_wp2_with fail
      refine (hn _).mono ?_
      rintro e w1 ⟨rfl, rfl⟩
      go_wp2
      go_ret
      exact ⟨by cases G <;> rfl, rfl⟩
    | false =>
      go_enter Try.func55, Try.ntmps55
      go_wp2_with fail
      refine (hn _).mono ?_
      rintro e w1 ⟨rfl, rfl⟩
      go_wp2
      go_ret
      exact ⟨rfl, rfl⟩

theorem minus_any (b : Nat) (w : World) : Calls Try.prog 54 #[.float .f64 b] w fun e w' => e = .returned (.bool (decide (b = 9223372036854775808))) ∧ w = w' := by
  have hr := fun w => run_bits b w
  have hd : ((b : Int) == 9223372036854775808) = decide (b = 9223372036854775808) := by
    by_cases h : b = 9223372036854775808
    · subst h; rfl
    · rw [decide_eq_false h]
      simp only [beq_eq_false_iff_ne, ne_eq]
      omega
  have HD := Lib.hid hd
  clear hd
  go_enter Try.func54, Try.ntmps54
  go_wp2
  go_ret
  exact ⟨by rw [← HD.out]; rfl, rfl⟩

theorem fine2_any (a b : Nat) (w : World) : Calls Try.prog 17 #[.complex .f64 a b] w fun e w' => e = .returned (.bool (fineB a b)) ∧ w = w' := by
  have ea := fun w => ended_any a w
  have eb := fun w => ended_any b w
  have ma := fun w => minus_any a w
  have mb := fun w => minus_any b w
  unfold fineB
  generalize fin a = A at ea ⊢
  generalize fin b = B at eb ⊢
  generalize decide (a = 9223372036854775808) = MA at ma ⊢
  generalize decide (b = 9223372036854775808) = MB at mb ⊢
  cases A with
  | false =>
    go_enter Try.func17, Try.ntmps17
    go_wp2_with fail
    refine (ea _).mono ?_
    rintro e w1 ⟨rfl, rfl⟩
    go_wp2
    go_ret
    exact ⟨rfl, rfl⟩
  | true =>
    cases B with
    | false =>
      go_enter Try.func17, Try.ntmps17
      go_wp2_with fail
      refine (ea _).mono ?_
      rintro e w1 ⟨rfl, rfl⟩
      go_wp2_with fail
      refine (eb _).mono ?_
      rintro e w1 ⟨rfl, rfl⟩
      go_wp2
      go_ret
      exact ⟨rfl, rfl⟩
    | true =>
      cases MA with
      | true =>
        go_enter Try.func17, Try.ntmps17
        go_wp2_with fail
        refine (ea _).mono ?_
        rintro e w1 ⟨rfl, rfl⟩
        go_wp2_with fail
        refine (eb _).mono ?_
        rintro e w1 ⟨rfl, rfl⟩
        go_wp2_with fail
        refine (ma _).mono ?_
        rintro e w1 ⟨rfl, rfl⟩
        go_wp2
        go_ret
        exact ⟨rfl, rfl⟩
      | false =>
        go_enter Try.func17, Try.ntmps17
        go_wp2_with fail
        refine (ea _).mono ?_
        rintro e w1 ⟨rfl, rfl⟩
        go_wp2_with fail
        refine (eb _).mono ?_
        rintro e w1 ⟨rfl, rfl⟩
        go_wp2_with fail
        refine (ma _).mono ?_
        rintro e w1 ⟨rfl, rfl⟩
        go_wp2_with fail
        refine (mb _).mono ?_
        rintro e w1 ⟨rfl, rfl⟩
        go_wp2
        go_ret
        exact ⟨by cases MB <;> rfl, rfl⟩

end Pl
end Go.Proofs.Ytibhldifmneboaa
