/- ValueMakes: for every whole number, every text and every two floats the call returns true and every argument reads as it did. No condition. -/
import Derived.Test.YtibhldifmneboaaRows
import Derived.Test.YtibhldifmneboaaVm
import Derived.WalkKit
import Derived.ProofKit
import Derived.OpenShut
import Derived.ShutString
import Derived.ChangeOld
import Derived.Below
import Derived.SizedLaws
import Derived.WalkLawsBesides
namespace Go.Proofs.Ytibhldifmneboaa.valueMakes
open Go.ChangeShapes Go.WideShapes Go.ChangeAt Go.RowKit
open Go.ChangeMaps (open_string shut_string)
set_option linter.unusedVariables false
theorem own : ownKnob Try.prog.godebug = none := by kernel_rfl

theorem walk (x : Int) (s : ByteArray) (a b : Nat) (ha : a < 18446744073709551616) (hb : b < 18446744073709551616) (w : World) :
    Calls Try.prog 4 #[.int .i64 x, .string s, .float .f64 a, .float .f64 b] w (Mk.Done w) := by
  cases hf : Pl.fineB (Mk.pz a) (Mk.pz b) with
  | true =>
    rcases Nat.lt_or_ge 4095 s.size with h | h
    · exact Mk.vm_f x s a b ha hb h hf w
    · exact Mk.vm_tf x s a b ha hb h hf w
  | false =>
    rcases Nat.lt_or_ge 4095 s.size with h | h
    · exact Mk.vm_ x s a b ha hb h hf w
    · exact Mk.vm_t x s a b ha hb h hf w

set_option maxRecDepth 100000 in
theorem lifted (os : Os) (started : os.Started) (H : Type) (enc : TypeId × Value → H) :
    ReturnsInHanded {} Try.checked os 4 .any (Rows.valueMakesSpec.pre6 enc Try.prog Try.f4 Rows.valueMakesRow.domain false) (Rows.valueMakesSpec.post enc Try.prog Try.f4 false true false false) := by
  refine returnsInHanded_of_change_sized (C := Try.checked) own started (by kernel_rfl) Try.func4
    (ChangeSpec.witness6 (enc := enc) (C := Try.checked) false ⟨#[], #[.int .i64 0, .string ByteArray.empty, .float .f64 0, .float .f64 0], []⟩ 8 (by kernel_rfl) (by kernel_rfl) (by kernel_rfl) (by kernel_rfl)) ?_
  intro W base args ds gs before hval0 hW hcnd hsz0 _
  have hval : ∀ (j : Nat) t v, Try.f4.params[j]? = some t → args[j]? = some v → Value.okWide Try.prog W .any base t v := hval0
  have hW' := hW
  obtain ⟨p, q, hA0, hV, rfl, hfz, hnd⟩ := hW
  have hA : DataW.TrodAll enc Try.prog W 0 (fun _ => true) true Try.f4.params.toList args.toList ds p := hA0
  rw [Try.params4] at hA hval
  obtain ⟨v0, vs0, d0, ds0, p0, q0, hargs, rfl, rfl, h0, r0⟩ := trodAll_cons hA
  obtain ⟨v1, vs1, d1, ds1, p1, q1, rfl, rfl, rfl, h1, r1⟩ := trodAll_cons r0
  obtain ⟨v2, vs2, d2, ds2, p2, q2, rfl, rfl, rfl, h2, r2⟩ := trodAll_cons r1
  obtain ⟨v3, vs3, d3, ds3, p3, q3, rfl, rfl, rfl, h3, r3⟩ := trodAll_cons r2
  obtain ⟨rfl, rfl, rfl⟩ := trodAll_nil r3
  obtain rfl : args = #[v0, v1, v2, v3] := by cases args; simp_all
  obtain ⟨rfl, rfl⟩ := trodVars_none hV
  obtain ⟨x, rfl, rfl, rfl, wx⟩ := open_int Try.underlying2 (hval 0 2 v0 rfl rfl) h0
  obtain ⟨s, rfl, rfl, rfl, ys⟩ := open_string Try.underlying9 (hval 1 9 v1 rfl rfl) h1
  obtain ⟨a, rfl, rfl, rfl, wa⟩ := open_float Try.underlying23 (hval 2 23 v2 rfl rfl) h2
  obtain ⟨b, rfl, rfl, rfl, wb⟩ := open_float Try.underlying23 (hval 3 23 v3 rfl rfl) h3
  have ha : a < 18446744073709551616 := by simpa [Lit.wf] using wa
  have hb : b < 18446744073709551616 := by simpa [Lit.wf] using wb
  clear hA0 hval0 hsz0
  refine (walk x s a b ha hb W).mono fun e W' ⟨he, bel⟩ => ?_
  subst he
  exact ⟨_, rfl, _, _, _, [], _, [], hW', trodAll_mk1 (shut_bool Try.underlying4 _),
    (trodAll_cons_mk (shut_int Try.underlying2 wx) (trodAll_cons_mk (shut_string Try.underlying9 ys) (trodAll_cons_mk (shut_float Try.underlying23 wa) (trodAll_cons_mk (shut_float Try.underlying23 wb) trodAll_mk0)))), rfl, bel.frame _, fun h => by cases h⟩
theorem over : Rows.valueMakesRow.holds Try.pinned (OpenSpec.ofChange Rows.valueMakesSpec) :=
  OpenClaim.holds_of_wide 4 Try.f4 rfl rfl rfl rfl rfl rfl rfl ⟨rfl, rfl, rfl, rfl, rfl⟩ rfl rfl rfl rfl rfl (by kernel_rfl) Try.func4 (by kernel_rfl)
    (of_decide_eq_true (by kernel_rfl)) (by unfold Func.isWrapper; first | (rw [if_pos (by decide +kernel)]; kernel_rfl) | (rw [if_neg (by decide +kernel)]; exact ⟨rfl, rfl⟩))
    (fun os started H enc _ => lifted os started H enc)
theorem proved : Rows.ValueMakesSaid := over
#print axioms proved
end Go.Proofs.Ytibhldifmneboaa.valueMakes
namespace Go.Proofs.Ytibhldifmneboaa
/-- The row, under a short name, for the claim. -/
theorem valueMakes_holds : Rows.ValueMakesSaid := valueMakes.proved
end Go.Proofs.Ytibhldifmneboaa
