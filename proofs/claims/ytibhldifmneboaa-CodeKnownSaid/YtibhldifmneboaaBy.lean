/- An argument of bytes, opened as a row that is read. -/
import Derived.Test.YtibhldifmneboaaRe
import Derived.ChangeSlices
import Derived.WideShapes
import Derived.OpenShut
set_option linter.unusedVariables false
namespace Go.Proofs.Ytibhldifmneboaa.By
open Go Go.ChangeShapes Go.WideShapes Go.RowKit

set_option linter.constructorNameAsVariable false
set_option maxRecDepth 100000 in
theorem bytes_open {H : Type} {enc : TypeId × Value → H} {W : World} {base : Nat} {v : Value} {d : DataW H} {ps : List MemPlace}
    (hv : Value.okWide Try.prog W .any base 44 v) (h : DataW.Trod enc Try.prog W 0 (fun _ => true) true 44 v d ps) :
    ∃ A n c xs, v = .slice A n c ∧ List.length xs = n ∧ n ≤ c ∧ c ≤ maxLen ∧ Rd.Bs W A xs := by
  obtain ⟨a0, len0, cap0, rfl⟩ := okWide_slice Try.underlying44 hv
  obtain ⟨fuel, hf⟩ := h
  have hc : Try.prog.cellsOf 5 = 1 := by kernel_rfl
  rcases open_ints Try.underlying44 Try.underlying5 hc hf with ⟨hcs, hx⟩ | ⟨a, len, cap, zs, hcs, _, hle, hmax, hall, hx, hcell, hwf⟩
  · simp [Value.cells] at hcs
    obtain ⟨rfl, rfl, rfl⟩ := hcs
    exact ⟨none, 0, 0, [], rfl, rfl, Nat.le_refl _, by unfold maxLen; omega, fun h => by simp at h⟩
  · simp [Value.cells] at hcs
    obtain ⟨rfl, rfl, rfl⟩ := hcs
    rw [if_pos rfl] at hall
    refine ⟨some a, len0, cap0, (zs.take len0).map fun z => UInt8.ofNat z.toNat, rfl, by rw [List.length_map, List.length_take]; omega, hle, hmax, fun _ => ⟨a, rfl, fun j u hu => ?_⟩⟩
    rw [List.getElem?_map, Option.map_eq_some_iff] at hu
    obtain ⟨z, hz, rfl⟩ := hu
    have hj : j < len0 := by
      have := (List.getElem?_eq_some_iff.1 hz).1
      rw [List.length_take] at this
      omega
    rw [List.getElem?_take_of_lt hj] at hz
    have hm : z ∈ zs := List.mem_of_getElem? hz
    have hw := hwf z hm
    simp only [Lit.wf, Bool.and_eq_true, decide_eq_true_eq] at hw
    have e1 : IntKind.u8.min = 0 := rfl
    have e2 : IntKind.u8.max = 255 := rfl
    rw [hcell j (by omega), List.getD_eq_getElem?_getD, hz]
    have : (UInt8.ofNat z.toNat).toNat = z.toNat := Cd.toNat_of (by omega)
    rw [this, Int.toNat_of_nonneg (by omega)]
    rfl
end Go.Proofs.Ytibhldifmneboaa.By
