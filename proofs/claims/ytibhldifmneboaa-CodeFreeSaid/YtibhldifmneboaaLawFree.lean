/- CodeFree: for every two numbers, whole numbers and texts the call returns true and every argument reads as it did. No condition. -/
import Derived.Test.YtibhldifmneboaaRows
import Derived.Test.YtibhldifmneboaaCf
import Derived.WalkKit
import Derived.ProofKit
import Derived.OpenShut
import Derived.ShutString
import Derived.ChangeOld
import Derived.Below
import Derived.SizedLaws
import Derived.WalkLawsBesides
namespace Go.Proofs.Ytibhldifmneboaa.codeFree
open Go.ChangeShapes Go.WideShapes Go.ChangeAt Go.RowKit
open Go.ChangeMaps (open_string shut_string)
set_option linter.unusedVariables false
theorem own : ownKnob Try.prog.godebug = none := by kernel_rfl

theorem u64_wf {a : Int} (h : (Lit.int IntKind.u64 a).wf = true) : 0 ≤ a ∧ a < 18446744073709551616 := by
  simp only [Lit.wf, Bool.and_eq_true, decide_eq_true_eq] at h
  have e1 : IntKind.u64.min = 0 := rfl
  have e2 : IntKind.u64.max = 18446744073709551615 := rfl
  omega
theorem i64_wf {a : Int} (h : (Lit.int IntKind.i64 a).wf = true) : -9223372036854775808 ≤ a ∧ a < 9223372036854775808 := by
  simp only [Lit.wf, Bool.and_eq_true, decide_eq_true_eq] at h
  have e1 : IntKind.i64.min = -9223372036854775808 := rfl
  have e2 : IntKind.i64.max = 9223372036854775807 := rfl
  omega
set_option maxRecDepth 100000 in
theorem lifted (os : Os) (started : os.Started) (H : Type) (enc : TypeId × Value → H) :
    ReturnsInHanded {} Try.checked os 5 .any (Rows.codeFreeSpec.pre6 enc Try.prog Try.f5 Rows.codeFreeRow.domain false) (Rows.codeFreeSpec.post enc Try.prog Try.f5 false true false false) := by
  refine returnsInHanded_of_change_sized (C := Try.checked) own started (by kernel_rfl) Try.func5
    (ChangeSpec.witness6 (enc := enc) (C := Try.checked) false ⟨#[], #[.int .u64 0, .int .u64 0, .int .i64 0, .int .i64 0, .string ByteArray.empty, .string ByteArray.empty], []⟩ 8 (by kernel_rfl) (by kernel_rfl) (by kernel_rfl) (by kernel_rfl)) ?_
  intro W base args ds gs before hval0 hW hcnd hsz0 _
  have hval : ∀ (j : Nat) t v, Try.f5.params[j]? = some t → args[j]? = some v → Value.okWide Try.prog W .any base t v := hval0
  have hW' := hW
  obtain ⟨p, q, hA0, hV, rfl, hfz, hnd⟩ := hW
  have hA : DataW.TrodAll enc Try.prog W 0 (fun _ => true) true Try.f5.params.toList args.toList ds p := hA0
  rw [Try.params5] at hA hval
  obtain ⟨v0, vs0, d0, ds0, p0, q0, hargs, rfl, rfl, h0, r0⟩ := trodAll_cons hA
  obtain ⟨v1, vs1, d1, ds1, p1, q1, rfl, rfl, rfl, h1, r1⟩ := trodAll_cons r0
  obtain ⟨v2, vs2, d2, ds2, p2, q2, rfl, rfl, rfl, h2, r2⟩ := trodAll_cons r1
  obtain ⟨v3, vs3, d3, ds3, p3, q3, rfl, rfl, rfl, h3, r3⟩ := trodAll_cons r2
  obtain ⟨v4, vs4, d4, ds4, p4, q4, rfl, rfl, rfl, h4, r4⟩ := trodAll_cons r3
  obtain ⟨v5, vs5, d5, ds5, p5, q5, rfl, rfl, rfl, h5, r5⟩ := trodAll_cons r4
  obtain ⟨rfl, rfl, rfl⟩ := trodAll_nil r5
  obtain rfl : args = #[v0, v1, v2, v3, v4, v5] := by cases args; simp_all
  obtain ⟨rfl, rfl⟩ := trodVars_none hV
  obtain ⟨a, rfl, rfl, rfl, wa⟩ := open_int Try.underlying42 (hval 0 42 v0 rfl rfl) h0
  obtain ⟨b, rfl, rfl, rfl, wb⟩ := open_int Try.underlying42 (hval 1 42 v1 rfl rfl) h1
  obtain ⟨i, rfl, rfl, rfl, wi⟩ := open_int Try.underlying2 (hval 2 2 v2 rfl rfl) h2
  obtain ⟨k, rfl, rfl, rfl, wk⟩ := open_int Try.underlying2 (hval 3 2 v3 rfl rfl) h3
  obtain ⟨s, rfl, rfl, rfl, ys⟩ := open_string Try.underlying9 (hval 4 9 v4 rfl rfl) h4
  obtain ⟨t, rfl, rfl, rfl, yt⟩ := open_string Try.underlying9 (hval 5 9 v5 rfl rfl) h5
  have na : 0 ≤ a ∧ a < 18446744073709551616 := by have := u64_wf wa; omega
  have nb : 0 ≤ b ∧ b < 18446744073709551616 := by have := u64_wf wb; omega
  have ni : -9223372036854775808 ≤ i ∧ i < 9223372036854775808 := by have := i64_wf wi; omega
  have nk : -9223372036854775808 ≤ k ∧ k < 9223372036854775808 := by have := i64_wf wk; omega
  have key : Calls Try.prog 5 #[.int .u64 a, .int .u64 b, .int .i64 i, .int .i64 k, .string s, .string t] W (Pu.Tr W) := by
    have h := Pu.codeFree_any a.toNat b.toNat i k s t (by omega) (by omega) ni.1 ni.2 nk.1 nk.2 (by unfold maxLen at ys; omega) (by unfold maxLen at yt; omega) W
    rw [Int.toNat_of_nonneg na.1, Int.toNat_of_nonneg nb.1] at h
    exact h
  clear hA0 hval0 hsz0
  refine key.mono fun e W' ⟨he, bel⟩ => ?_
  subst he
  exact ⟨_, rfl, _, _, _, [], _, [], hW', trodAll_mk1 (shut_bool Try.underlying4 _),
    (trodAll_cons_mk (shut_int Try.underlying42 wa) (trodAll_cons_mk (shut_int Try.underlying42 wb) (trodAll_cons_mk (shut_int Try.underlying2 wi) (trodAll_cons_mk (shut_int Try.underlying2 wk) (trodAll_cons_mk (shut_string Try.underlying9 ys) (trodAll_cons_mk (shut_string Try.underlying9 yt) trodAll_mk0)))))), rfl, bel.frame _, fun h => by cases h⟩
theorem over : Rows.codeFreeRow.holds Try.pinned (OpenSpec.ofChange Rows.codeFreeSpec) :=
  OpenClaim.holds_of_wide 5 Try.f5 rfl rfl rfl rfl rfl rfl rfl ⟨rfl, rfl, rfl, rfl, rfl⟩ rfl rfl rfl rfl rfl (by kernel_rfl) Try.func5 (by kernel_rfl)
    (of_decide_eq_true (by kernel_rfl)) (by unfold Func.isWrapper; first | (rw [if_pos (by decide +kernel)]; kernel_rfl) | (rw [if_neg (by decide +kernel)]; exact ⟨rfl, rfl⟩))
    (fun os started H enc _ => lifted os started H enc)
theorem proved : Rows.CodeFreeSaid := over
#print axioms proved
end Go.Proofs.Ytibhldifmneboaa.codeFree
namespace Go.Proofs.Ytibhldifmneboaa
/-- The row, under a short name, for the claim. -/
theorem codeFree_holds : Rows.CodeFreeSaid := codeFree.proved
end Go.Proofs.Ytibhldifmneboaa
