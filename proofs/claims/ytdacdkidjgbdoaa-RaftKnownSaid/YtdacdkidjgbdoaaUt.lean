/- Small laws on blocks, stores of many cells, results that lie in a cell. -/
import Derived.Test.YtdacdkidjgbdoaaRx
import Derived.Deep.RegionHeldLaw
set_option linter.unusedVariables false
set_option linter.unusedSimpArgs false
namespace Go.Proofs.Ytdacdkidjgbdoaa
open Go Go.RowKit
namespace Rf

theorem below_setCells {B : Nat} {a : World} (b : Nat) (hb : B ≤ b) : ∀ (vs : List Value) (o : Nat) {w : World}, Below B a w → Below B a (w.setCells b o vs)
  | [], _, _, h => h
  | v :: r, o, w, h => by rw [World.setCells]; exact below_setCells b hb r (o + 1) (h.setCell hb v)
theorem only_setCells {S : Nat → Prop} {a : World} (b : Nat) (hb : S b ∨ a.heap.size ≤ b) : ∀ (vs : List Value) (o : Nat) {w : World}, Only S a w → Only S a (w.setCells b o vs)
  | [], _, _, h => h
  | v :: r, o, w, h => by rw [World.setCells]; exact only_setCells b hb r (o + 1) (h.set hb v)
theorem there_of_block {w : World} {b : Nat} {C : Array Value} {t : TypeId} (h : w.heap[b]? = some (.cells C t (0, 0))) (o n : Nat) (hn : o + n ≤ C.size) : w.there b o n := by
  intro j hj
  refine ⟨?_, by simp [World.frozen?, h]⟩
  simp only [World.cell?, h]
  rw [Array.getElem?_eq_getElem (by omega)]; rfl
theorem range_of_block {w : World} {b : Nat} {cs : List Value} {t : TypeId} {fr : Nat × Nat} (h : w.heap[b]? = some (.cells cs.toArray t fr)) : w.rangeAt b 0 cs := by
  intro j v hv
  simp only [World.cell?, h]
  simpa using hv
theorem block_setCell {w : World} {b o : Nat} {C : Array Value} {t : TypeId} {fr : Nat × Nat} (h : w.heap[b]? = some (.cells C t fr)) (v : Value) : (w.setCell ⟨b, o, none⟩ v).heap[b]? = some (.cells (C.setIfInBounds o v) t fr) := by
  simp only [World.setCell, Array.getElem?_modify, h]
  simp
theorem block_setCells {b : Nat} {t : TypeId} {fr : Nat × Nat} : ∀ (vs pre : List Value) (C : List Value) {w : World}, C.length = vs.length → w.heap[b]? = some (.cells (pre ++ C).toArray t fr) →
    (w.setCells b pre.length vs).heap[b]? = some (.cells (pre ++ vs).toArray t fr)
  | [], pre, C, w, hl, h => by
    have : C = [] := List.eq_nil_of_length_eq_zero hl
    subst this
    exact h
  | v :: r, pre, [], w, hl, h => by simp at hl
  | v :: r, pre, c :: C, w, hl, h => by
    rw [World.setCells]
    have h1 := block_setCell (o := pre.length) h v
    have e1 : ((pre ++ c :: C).toArray.setIfInBounds pre.length v) = ((pre ++ [v]) ++ C).toArray := by
      simp
    rw [e1] at h1
    have h2 := block_setCells r (pre ++ [v]) C (by simpa using hl) h1
    simpa using h2
theorem block_setAll {w : World} {b : Nat} {t : TypeId} {fr : Nat × Nat} {C vs : List Value} (h : w.heap[b]? = some (.cells C.toArray t fr)) (hl : C.length = vs.length) : (w.setCells b 0 vs).heap[b]? = some (.cells vs.toArray t fr) := by
  have := block_setCells (b := b) vs [] C (w := w) hl (by simpa using h)
  simpa using this
/-- a result that lies in a variable -/
theorem results_cell {fn : Func} {p : Tmp} {ty : TypeId} (h : fn.results = #[.cell p ty]) (tmps : Array Value) (P : Program) (w : World) (b : Nat) (cs : List Value) (d : TypeDesc)
    (hp : tmps.getD p undef = .pointer (some ⟨b, 0, none⟩)) (hc : w.rangeAt b 0 cs) (hu : P.underlying ty = some d) (hd : d.isRow = true) (hi : (P.info? ty).map (·.size) = some cs.length) :
    (results fn tmps).run P w = .ok (.agg cs.toArray) w := by
  rw [Array.getD_eq_getD_getElem?] at hp
  simp only [results, h]
  simp [asAddr, hp, run_loadVar_mid w b 0 ty cs d hc hu hd hi, Sem.run_bind, Result.andThen]
theorem info34 : (Try.prog.info? 34).map (·.size) = some 9 := by kernel_rfl
theorem info29 : (Try.prog.info? 29).map (·.size) = some 3 := by kernel_rfl
theorem info74 : (Try.prog.info? 74).map (·.size) = some 23 := by kernel_rfl
end Rf
end Go.Proofs.Ytdacdkidjgbdoaa
