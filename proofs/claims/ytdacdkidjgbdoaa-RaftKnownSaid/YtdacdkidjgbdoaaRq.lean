/- The contract of raft's Twin. -/
import Derived.Test.YtdacdkidjgbdoaaRp
set_option linter.unusedVariables false
set_option linter.unusedSimpArgs false
namespace Go.Proofs.Ytdacdkidjgbdoaa
open Go Go.RowKit
namespace Rf
attribute [local go_sem ↓] Go.wp_at_zero Go.wp_at_succ

theorem twin_nil (w : World) : Calls Try.prog 28 #[.pointer none] w fun e w' => e = .returned (.pointer none) ∧ w = w' := by
  go_enter Try.func28, Try.ntmps28
  go_wp2_with fail
  refine (made0 _).mono ?_
  rintro e w1 ⟨rfl, rfl⟩
  go_wp2_with fail
  go_ret
  exact ⟨rfl, rfl⟩
theorem twin_zero (g : Nat) (s : Srv) (v : Value) (w : World) (h : Is w g s v) (h0 : s.nodes = 0) : Calls Try.prog 28 #[.pointer (some ⟨g, 0, none⟩)] w fun e w' => e = .returned (.pointer none) ∧ w = w' := by
  go_enter Try.func28, Try.ntmps28
  go_wp2_with fail
  refine (made1 g s v false _ h (by simp [h0])).mono ?_
  rintro e w1 ⟨rfl, rfl⟩
  go_wp2_with fail
  go_ret
  exact ⟨rfl, rfl⟩

theorem Is.cells {w : World} {g : Nat} {s : Srv} {v : Value} (h : Is w g s v) : w.cell? ⟨g, 0, none⟩ = some (.int .i64 s.id) ∧ w.cell? ⟨g, 1, none⟩ = some (.int .i64 s.nodes) ∧ w.cell? ⟨g, 2, none⟩ = some (.int .i64 s.term) ∧ w.cell? ⟨g, 3, none⟩ = some (.int .i64 s.vote) ∧ w.cell? ⟨g, 4, none⟩ = some (v) ∧ w.cell? ⟨g, 5, none⟩ = some (.int .u8 s.role) ∧ w.cell? ⟨g, 6, none⟩ = some (.int .i64 s.leader) ∧ w.cell? ⟨g, 7, none⟩ = some (.int .i64 s.commit) ∧ w.cell? ⟨g, 8, none⟩ = some (.int .u64 s.voters) ∧ w.cell? ⟨g, 9, none⟩ = some (.int .i64 (s.next 0)) ∧ w.cell? ⟨g, 10, none⟩ = some (.int .i64 (s.next 1)) ∧ w.cell? ⟨g, 11, none⟩ = some (.int .i64 (s.next 2)) ∧ w.cell? ⟨g, 12, none⟩ = some (.int .i64 (s.next 3)) ∧ w.cell? ⟨g, 13, none⟩ = some (.int .i64 (s.next 4)) ∧ w.cell? ⟨g, 14, none⟩ = some (.int .i64 (s.next 5)) ∧ w.cell? ⟨g, 15, none⟩ = some (.int .i64 (s.next 6)) ∧ w.cell? ⟨g, 16, none⟩ = some (.int .i64 (s.mat 0)) ∧ w.cell? ⟨g, 17, none⟩ = some (.int .i64 (s.mat 1)) ∧ w.cell? ⟨g, 18, none⟩ = some (.int .i64 (s.mat 2)) ∧ w.cell? ⟨g, 19, none⟩ = some (.int .i64 (s.mat 3)) ∧ w.cell? ⟨g, 20, none⟩ = some (.int .i64 (s.mat 4)) ∧ w.cell? ⟨g, 21, none⟩ = some (.int .i64 (s.mat 5)) ∧ w.cell? ⟨g, 22, none⟩ = some (.int .i64 (s.mat 6)) :=
  ⟨(h.cell 0 _ rfl).1, (h.cell 1 _ rfl).1, (h.cell 2 _ rfl).1, (h.cell 3 _ rfl).1, (h.cell 4 _ rfl).1, (h.cell 5 _ rfl).1, (h.cell 6 _ rfl).1, (h.cell 7 _ rfl).1, (h.cell 8 _ rfl).1, (h.cell 9 _ rfl).1, (h.cell 10 _ rfl).1, (h.cell 11 _ rfl).1, (h.cell 12 _ rfl).1, (h.cell 13 _ rfl).1, (h.cell 14 _ rfl).1, (h.cell 15 _ rfl).1, (h.cell 16 _ rfl).1, (h.cell 17 _ rfl).1, (h.cell 18 _ rfl).1, (h.cell 19 _ rfl).1, (h.cell 20 _ rfl).1, (h.cell 21 _ rfl).1, (h.cell 22 _ rfl).1⟩

theorem run_storeRow (w : World) (b : Nat) (cells : Array Value) (ht : w.there b 0 cells.size) (h1 : cells.all (·.oneCell') = true) :
    (storeCells ⟨b, 0, none⟩ cells.toList).run Try.prog w = .ok () (w.setCells b 0 cells.toList) := by
  have := run_storeCells_cells (P := Try.prog) b 0 cells.toList 0 w (fun j hj => by simpa using (ht j (by simpa using hj)).1) (fun j hj => by simpa using (ht j (by simpa using hj)).2) (fun v hv => (Array.all_eq_true_iff_forall_mem.1 h1) v (by simpa using hv))
  simpa using this
theorem twin_store (w : World) (C : Array Value) (hs : C.size = 23) (h1 : C.all (·.oneCell') = true) : ∃ W, Sem.run Try.prog (storeCells ⟨w.heap.size, 0, none⟩ C.toList) (w.alloc (.cells #[.int .i64 0, .int .i64 0, .int .i64 0, .int .i64 0, .slice none 0 0, .int .u8 0, .int .i64 0, .int .i64 0, .int .u64 0, .int .i64 0, .int .i64 0, .int .i64 0, .int .i64 0, .int .i64 0, .int .i64 0, .int .i64 0, .int .i64 0, .int .i64 0, .int .i64 0, .int .i64 0, .int .i64 0, .int .i64 0, .int .i64 0] 74)) = .ok () W ∧ Below w.heap.size w W ∧ W.heap[w.heap.size]? = some (.cells C 74 (0, 0)) := by
  have hnb := heap_alloc_new w (.cells #[.int .i64 0, .int .i64 0, .int .i64 0, .int .i64 0, .slice none 0 0, .int .u8 0, .int .i64 0, .int .i64 0, .int .u64 0, .int .i64 0, .int .i64 0, .int .i64 0, .int .i64 0, .int .i64 0, .int .i64 0, .int .i64 0, .int .i64 0, .int .i64 0, .int .i64 0, .int .i64 0, .int .i64 0, .int .i64 0, .int .i64 0] 74)
  refine ⟨_, run_storeRow _ _ _ (there_of_block hnb 0 _ (by rw [hs]; exact Nat.le_refl _)) h1, below_setCells _ (Nat.le_refl _) _ 0 ((Below.refl _ w).alloc (Nat.le_refl _) _), ?_⟩
  have := block_setAll (C := [.int .i64 0, .int .i64 0, .int .i64 0, .int .i64 0, .slice none 0 0, .int .u8 0, .int .i64 0, .int .i64 0, .int .u64 0, .int .i64 0, .int .i64 0, .int .i64 0, .int .i64 0, .int .i64 0, .int .i64 0, .int .i64 0, .int .i64 0, .int .i64 0, .int .i64 0, .int .i64 0, .int .i64 0, .int .i64 0, .int .i64 0]) (vs := C.toList) hnb (by simp [hs])
  simpa using this

def TwinPost (w : World) (s : Srv) (e : Ending) (w' : World) : Prop := ∃ g v, e = .returned (.pointer (some ⟨g, 0, none⟩)) ∧ Below w.heap.size w w' ∧ w.heap.size ≤ g ∧ Is w' g s v ∧ (∀ k, v.ownBlock = some k → w.heap.size ≤ k)
set_option maxRecDepth 100000 in
set_option maxHeartbeats 1000000 in
theorem twin_is (g : Nat) (s : Srv) (v : Value) (w : World) (h : Is w g s v) (h0 : 1 ≤ s.nodes) (hl : s.log.length ≤ 100000) : Calls Try.prog 28 #[.pointer (some ⟨g, 0, none⟩)] w (TwinPost w s) := by
  obtain ⟨a, c, rfl, hc, hm⟩ := h.slice
  have hr := range_of_block (cs := (rc s (.slice a s.log.length c)).toList) (by simpa using h.blk)
  go_enter Try.func28, Try.ntmps28
  go_wp2_with fail
  refine (made1 g s _ true _ h (by simp; omega)).mono ?_
  rintro e w1 ⟨rfl, rfl⟩
  have hone : (rc s (.slice a s.log.length c)).all (·.oneCell') = true := by simp [rc, Value.oneCell']
  obtain ⟨W, hst, hB, hblk⟩ := twin_store w (rc s (.slice a s.log.length c)) rfl hone
  have hIs := h.below hB
  obtain ⟨c4, -⟩ := hIs.slog
  clear hone h
  go_wp2_with (refine wpList_load_mid (op := ⟨some 9, _, _, _, _, _⟩) rfl 74 (.tmp 8) rfl g 0 rfl (rc s (.slice a s.log.length c)).toList _ hr Try.underlying74 rfl info74 ?_)
  refine (clone_is a c s.log hl _ (es_is hIs)).mono ?_
  rintro e w3 ⟨v3, rfl, hown, hB3⟩
  obtain ⟨a3, c3, rfl⟩ := own_slice hown
  have hblt : w.heap.size < W.heap.size := (Array.getElem?_eq_some_iff.1 hblk).1
  have hblk3 := (hB3.block w.heap.size hblt).trans hblk
  have hI3 : Is w3 w.heap.size s (.slice a s.log.length c) := ⟨hblk3, (hIs.below hB3).log⟩
  obtain ⟨x4, f4⟩ := hI3.slog
  have hB4 := (hB.trans (hB3.mono hB.size)).setCell (p := ⟨w.heap.size, 4, none⟩) (Nat.le_refl _) (.slice a3 s.log.length c3)
  have hown2 : (w3.setCell ⟨w.heap.size, 4, none⟩ (.slice a3 s.log.length c3)).ownsRow W.heap.size 39 2 (.slice a3 s.log.length c3) s.log.length (ents s.log) :=
    ownsRow_setCell_other (a := ⟨w.heap.size, 4, none⟩) hown (fun e => absurd (own_ge hown e) (by show ¬ W.heap.size ≤ w.heap.size; omega)) _
  have hblk4 := block_setCell (o := 4) hblk3 (.slice a3 s.log.length c3)
  clear hst hr hIs hblk hblk3 hI3 c4
  go_wp2_with fail
  go_ret
  exact ⟨w.heap.size, .slice a3 s.log.length c3, rfl, hB4, Nat.le_refl _, ⟨hblk4, own_base hown2 (Nat.zero_le _)⟩, fun k hk => by have := own_ge hown hk; omega⟩
end Rf
end Go.Proofs.Ytdacdkidjgbdoaa
