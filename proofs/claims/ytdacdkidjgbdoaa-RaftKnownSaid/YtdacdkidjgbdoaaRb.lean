/- Contracts of raft's put. -/
import Derived.Test.YtdacdkidjgbdoaaRa
import Derived.Deep.RegionHeldLaw
import Derived.Deep.AppendLies
import Derived.Deep.DrawnRows
import Derived.Deep.RegionLaw
import Derived.OneCell
set_option linter.unusedVariables false
set_option linter.unusedSimpArgs false
namespace Go.Proofs.Ytdacdkidjgbdoaa
open Go Go.RowKit
namespace Rf
attribute [local go_sem ↓] Go.wp_at_zero Go.wp_at_succ
theorem info39 : (Try.prog.info? 39).map (fun i => (i.zero, i.size, i.bytes)) = some (some (.agg #[.int .i64 0, .string ⟨#[]⟩]), 2, 24) := by kernel_rfl

/-- what a server's deed may turn: its block, its log's row -/
def Mine (g : Nat) (v : Value) (k : Nat) : Prop := k = g ∨ v.ownBlock = some k
theorem ent_one (e : Ent) : ∀ u ∈ entc e, u.oneCell' = true := by
  intro u hu
  simp only [entc, List.mem_cons, List.not_mem_nil, or_false] at hu
  rcases hu with rfl | rfl <;> rfl
theorem ent_lit (W : World) (e : Ent) {b : Nat} (hb : W.heap.size = b) : ∀ j u, (entc e)[j]? = some u → (W.alloc (.cells #[.int .i64 e.term, .string e.data] 39)).cell? ((⟨b, 0, none⟩ : Addr).add j) = some u := by
  subst hb
  exact World.news_of_block (heap_alloc_new W _)

theorem keep3 {w w1 : World} {g : Nat} {o : Obj} {v x y : Value} (hg : (w.drew.alloc o).grownBy w1 v.ownBlock) (hlt : g < w.heap.size) (hne : v.ownBlock ≠ some g) (h2 : w.cell? ⟨g, 2, none⟩ = some x) (h4 : w.cell? ⟨g, 4, none⟩ = some y) (f4 : w.frozen? ⟨g, 4, none⟩ = false) :
    w1.cell? ⟨g, 2, none⟩ = some x ∧ w1.cell? ⟨g, 4, none⟩ = some y ∧ w1.frozen? ⟨g, 4, none⟩ = false := by
  have hb : (w.drew.alloc o).heap[g]? = w.heap[g]? := Below.heap_alloc w.drew o g hlt
  have hs : g < (w.drew.alloc o).heap.size := by simp; omega
  refine ⟨?_, ?_, ?_⟩
  · exact ((hg.cell_far ⟨g, 2, none⟩ hs hne.symm).trans (World.cell?_of_block (w := w) hb)).trans h2
  · exact ((hg.cell_far ⟨g, 4, none⟩ hs hne.symm).trans (World.cell?_of_block (w := w) hb)).trans h4
  · exact ((hg.frozen_far ⟨g, 4, none⟩ hs hne.symm).trans (World.frozen?_of_block (w := w) hb)).trans f4

theorem keepA {w : World} {g : Nat} {o : Obj} {x y : Value} (hlt : g < w.heap.size) (h2 : w.cell? ⟨g, 2, none⟩ = some x) (h4 : w.cell? ⟨g, 4, none⟩ = some y) (f4 : w.frozen? ⟨g, 4, none⟩ = false) :
    (w.alloc o).drew.cell? ⟨g, 2, none⟩ = some x ∧ (w.alloc o).drew.cell? ⟨g, 4, none⟩ = some y ∧ (w.alloc o).drew.frozen? ⟨g, 4, none⟩ = false := by
  have hb : (w.alloc o).drew.heap[g]? = w.heap[g]? := Below.heap_alloc w o g hlt
  exact ⟨(World.cell?_of_block (w := w) hb).trans h2, (World.cell?_of_block (w := w) hb).trans h4, (World.frozen?_of_block (w := w) hb).trans f4⟩

theorem put_end {w w1 : World} {g : Nat} {s : Srv} {v : Value} {o : Obj} {k cap : Nat} {e : Ent} (h : Is w g s v) (hown : w1.ownsRow 0 39 2 (.slice (some ⟨k, 0, none⟩) (s.log.length + 1) cap) (s.log.length + 1) (ents s.log ++ entc e))
    (hgrow : (w.drew.alloc o).grownBy w1 v.ownBlock) (hat : v.ownBlock = some k ∨ k = w.heap.size + 1) :
    ∃ v', Is (w1.setCell ⟨g, 4, none⟩ (.slice (some ⟨k, 0, none⟩) (s.log.length + 1) cap)) g { s with log := s.log ++ [e] } v' ∧ Only (Mine g v) w (w1.setCell ⟨g, 4, none⟩ (.slice (some ⟨k, 0, none⟩) (s.log.length + 1) cap)) ∧ (∀ j, v'.ownBlock = some j → v.ownBlock = some j ∨ w.heap.size ≤ j) := by
  have hlt := h.lt
  have hkg : k ≠ g := by
    rcases hat with e | e
    · intro e2; exact h.ne (by rw [e, e2])
    · omega
  have hb : w1.heap[g]? = some (.cells (rc s v) 74 (0, 0)) := by
    rw [hgrow.block g (by simp; omega) (fun e => h.ne e.symm), Below.heap_alloc w.drew o g hlt]
    exact h.blk
  refine ⟨.slice (some ⟨k, 0, none⟩) (s.log.length + 1) cap, ⟨?_, ?_⟩, ?_, ?_⟩
  · simp only [World.setCell, Array.getElem?_modify, hb]
    simp [rc]
  · simp only [List.length_append, List.length_singleton, ents_snoc]
    exact ownsRow_setCell_other hown (fun e => hkg (by injection e)) _
  · exact (((Only.refl (Mine g v) w).drew.alloc o).grown hgrow (fun j hj => .inl (.inr hj))).set (.inl (.inl rfl)) _
  · intro j hj
    have : k = j := by injection hj
    subst this
    rcases hat with e | e
    · exact .inl e
    · exact .inr (by omega)

set_option maxRecDepth 100000 in
set_option maxHeartbeats 1000000 in
theorem put_is (g : Nat) (s : Srv) (v : Value) (d : ByteArray) (hl : s.log.length ≤ 100000) (w : World) (h : Is w g s v) :
    Calls Try.prog 47 #[.pointer (some ⟨g, 0, none⟩), .string d] w fun e w' => e = .returned (.tuple #[]) ∧ ∃ v', Is w' g { s with log := s.log ++ [⟨s.term, d⟩] } v' ∧ Only (Mine g v) w w' ∧ (∀ k, v'.ownBlock = some k → v.ownBlock = some k ∨ w.heap.size ≤ k) := by
  obtain ⟨i0, hi, hz0, hz1, hz2⟩ := info_parts info39
  obtain ⟨a, c, rfl, hc, hm⟩ := h.slice
  obtain ⟨c2, f2⟩ := h.term
  obtain ⟨c4, f4⟩ := h.slog
  have hlt := h.lt
  have hne := h.ne
  have hlog := h.log
  go_enter Try.func47, Try.ntmps47
  go_wp2_with fail
  go_region_law
    ((refine step_append_lies _ (by rfl) _ _ _ (by rfl) 0 39 i0 _ 2 24 Try.underlying27 hi hz0 hz1 hz2 (by rfl) (by decide) (.slice a s.log.length c) s.log.length (ents s.log) (by rfl) (World.ownsRow.alloc (w := w.drew) hlog _) ⟨w.heap.size, 0, none⟩ 1 1 (entc ⟨s.term, d⟩) (by rfl) (by rfl) (ent_lit w.drew ⟨s.term, d⟩ rfl) (ent_one _) (by omega) (by unfold maxLen; omega) (by omega) (Nat.zero_le _) (w.heap.size + 1) (by simp) ?_; intro k cap w1 hown hgrow hat hlt1; obtain ⟨d2, d4, e4⟩ := keep3 hgrow hlt hne c2 c4 f4))
  all_goals
    go_end0
    exact ⟨rfl, put_end h hown hgrow hat⟩
end Rf
end Go.Proofs.Ytdacdkidjgbdoaa
