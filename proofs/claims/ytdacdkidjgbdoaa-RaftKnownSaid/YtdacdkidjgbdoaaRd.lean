/- The contract of slices.Clone at entries. -/
import Derived.Test.YtdacdkidjgbdoaaRc
import Derived.Lib.SliceRun
set_option linter.unusedVariables false
set_option linter.unusedSimpArgs false
namespace Go.Proofs.Ytdacdkidjgbdoaa
open Go Go.RowKit
namespace Rf

/-- entries that can be read -/
structure Es (w : World) (a : Option Addr) (l : List Ent) : Prop where
  none_ : a = none → l = []
  cell : ∀ ad, a = some ad → ∀ j u, (ents l)[j]? = some u → w.cell? (ad.add j) = some u
theorem ents_one (l : List Ent) : ∀ u ∈ ents l, u.oneCell' = true := by
  intro u hu
  unfold ents at hu
  rw [List.mem_flatMap] at hu
  obtain ⟨e, _, h⟩ := hu
  exact ent_one e u h
theorem nil_row (w : World) : (w.alloc (.cells #[] 39)).ownsRow w.heap.size 39 2 (.slice (some ⟨w.heap.size, 0, none⟩) 0 0) 0 [] :=
  ⟨rfl, .inr ⟨w.heap.size, 0, #[], rfl, Nat.le_refl _, heap_alloc_new w _, Nat.le_refl _, by unfold maxLen; omega, rfl, rfl⟩⟩

set_option maxRecDepth 100000 in
theorem clone_is (a : Option Addr) (c : Nat) (l : List Ent) (hl : l.length ≤ 100000) (w : World) (h : Es w a l) :
    Calls Try.prog 34 #[.slice a l.length c] w fun e w' => ∃ v, e = .returned v ∧ w'.ownsRow w.heap.size 39 2 v l.length (ents l) ∧ Below w.heap.size w w' := by
  obtain ⟨i0, hi, hz0, hz1, hz2⟩ := info_parts info39
  have hnil := fun W => Lib.run_eql_slice_nil (P := Try.prog) W 27 39 a l.length c 0 0 Try.underlying27
  cases a with
  | none =>
    obtain rfl := h.none_ rfl
    simp only [List.length_nil] at hnil ⊢
    go_enter Try.func34, Try.ntmps34
    go_wp2
    go_ret
    exact ⟨_, rfl, World.ownsRow_nil _ _ 39 2, Below.refl _ _⟩
  | some ad =>
    have hc := h.cell ad rfl
    have hc2 : ∀ o, ∀ j u, (ents l)[j]? = some u → (w.alloc o).cell? (ad.add j) = some u := fun o j u hu => by
      have h1 := hc j u hu
      have hb := World.block_lt_of_cell? w _ h1
      exact (World.cell?_of_block (w := w) (Below.heap_alloc w o _ hb)).trans h1
    clear hc h
    go_enter Try.func34, Try.ntmps34
    go_wp2_with (at_builtin; refine wpList_append_own _ rfl _ _ 27 rfl w.heap.size 39 i0 _ 2 24 Try.underlying27 hi hz0 hz1 hz2 rfl (by decide) _ 0 [] rfl (nil_row w) ad l.length c (ents l) rfl (ents_len l) (hc2 _) (ents_one l) (by unfold maxLen; omega) (by omega) (by simp) ?_)
    intro v w1 hown hgrow _
    go_wp2
    go_ret
    refine ⟨v, rfl, by simpa using hown, ((Below.refl _ w).alloc (Nat.le_refl _) _).grown hgrow (by simp) (fun k hk => ?_)⟩
    have : w.heap.size = k := by injection hk
    omega
theorem es_own {w : World} {base n c : Nat} {a : Option Addr} {l : List Ent} (h : w.ownsRow base 39 2 (.slice a n c) n (ents l)) (hn : n = l.length) : Es w a l := by
  refine ⟨fun e => ?_, fun ad e j u hu => ?_⟩
  · subst e
    rcases h.2 with ⟨_, h0⟩ | ⟨g, cap, cur, hv, _⟩
    · exact List.eq_nil_of_length_eq_zero (by omega)
    · cases hv
  · subst e
    rcases h.2 with ⟨hv, h0⟩ | ⟨g, cap, cur, hv, _⟩
    · cases hv
    · injection hv with h1 h2 h3
      have : ad = ⟨g, 0, none⟩ := by injection h1
      subst this
      exact h.cells (g := g) rfl j u hu
end Rf
end Go.Proofs.Ytdacdkidjgbdoaa
