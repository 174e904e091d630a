/- The contract of raft's New. -/
import Derived.Test.YtdacdkidjgbdoaaRm
set_option linter.unusedVariables false
set_option linter.unusedSimpArgs false
namespace Go.Proofs.Ytdacdkidjgbdoaa
open Go Go.RowKit
namespace Rf
attribute [local go_sem ↓] Go.wp_at_zero Go.wp_at_succ

theorem Hd.es {w : World} {a : Option Addr} {l : List Ent} (h : Hd w a l) : Es w a l := by
  refine ⟨h.none_, fun ad e j u hu => ?_⟩
  obtain ⟨k, rfl, h2, h3⟩ := h.some_ ad e
  have hj : j < l.length * 2 := by have := (List.getElem?_eq_some_iff.1 hu).1; rwa [ents_len] at this
  obtain ⟨e2, he⟩ : ∃ e2, l[j / 2]? = some e2 := ⟨_, List.getElem?_eq_getElem (by omega)⟩
  obtain ⟨x, y⟩ := h3 _ _ he
  rw [Addr.add_mid, Nat.zero_add]
  have h4 : (ents l)[2 * (j / 2) + j % 2]? = (entc e2)[j % 2]? := ents_at he (Nat.mod_lt _ (by omega))
  rw [show 2 * (j / 2) + j % 2 = j from by omega, hu] at h4
  rcases (by omega : j % 2 = 0 ∨ j % 2 = 1) with e0 | e0
  · rw [e0] at h4
    rw [show j = j / 2 * 2 from by omega, x]
    exact h4.symm
  · rw [e0] at h4
    rw [show j = j / 2 * 2 + 1 from by omega, y]
    exact h4.symm

def newS (id nodes : Nat) (t v : Int) (l : List Ent) : Srv := { id, nodes, term := t, vote := v, log := l, role := 0, leader := -1, commit := 0, voters := 0, next := fun _ => 0, mat := fun _ => 0 }
def NewNo (w : World) (x : Int) (e : Ending) (w' : World) : Prop := e = .returned (.tuple #[.pointer none, .int .i64 x]) ∧ Below w.heap.size w w'
def NewYes (w : World) (s : Srv) (e : Ending) (w' : World) : Prop := ∃ g v, e = .returned (.tuple #[.pointer (some ⟨g, 0, none⟩), .int .i64 0]) ∧ Below w.heap.size w w' ∧ w.heap.size ≤ g ∧ Is w' g s v ∧ (∀ k, v.ownBlock = some k → w.heap.size ≤ k)

set_option maxRecDepth 100000 in
set_option maxHeartbeats 2000000 in
theorem new_arg (id nodes t v : Int) (a : Option Addr) (n c : Nat) (w : World) (h : nodes < 1 ∨ 7 < nodes ∨ id < 0 ∨ nodes ≤ id) :
    Calls Try.prog 8 #[.int .i64 id, .int .i64 nodes, .agg #[.int .i64 t, .int .i64 v, .slice a n c]] w (NewNo w 1) := by
  by_cases p0 : nodes < 1
  · have d0 : decide (nodes < 1) = true := by simp; omega
    clear h
    go_enter Try.func8, Try.ntmps8
    go_wp2_with fail
    go_ret2
    exact ⟨rfl, (Below.refl _ w).alloc (Nat.le_refl _) _⟩
  by_cases p1 : 7 < nodes
  · have d1 : decide (7 < nodes) = true := by simp; omega
    have d0 : decide (nodes < 1) = false := by simp; omega
    clear h
    go_enter Try.func8, Try.ntmps8
    go_wp2_with fail
    go_ret2
    exact ⟨rfl, (Below.refl _ w).alloc (Nat.le_refl _) _⟩
  by_cases p2 : id < 0
  · have d2 : decide (id < 0) = true := by simp; omega
    have d0 : decide (nodes < 1) = false := by simp; omega
    have d1 : decide (7 < nodes) = false := by simp; omega
    clear h
    go_enter Try.func8, Try.ntmps8
    go_wp2_with fail
    go_ret2
    exact ⟨rfl, (Below.refl _ w).alloc (Nat.le_refl _) _⟩
  by_cases p3 : nodes ≤ id
  · have d3 : decide (nodes ≤ id) = true := by simp; omega
    have d0 : decide (nodes < 1) = false := by simp; omega
    have d1 : decide (7 < nodes) = false := by simp; omega
    have d2 : decide (id < 0) = false := by simp; omega
    clear h
    go_enter Try.func8, Try.ntmps8
    go_wp2_with fail
    go_ret2
    exact ⟨rfl, (Below.refl _ w).alloc (Nat.le_refl _) _⟩
  omega

set_option maxRecDepth 100000 in
set_option maxHeartbeats 2000000 in
theorem new_shape (id nodes t v : Int) (a : Option Addr) (c : Nat) (l : List Ent) (hl : l.length ≤ 100000) (w : World) (h : Hd w a l) (h1 : ¬ nodes < 1) (h2 : ¬ 7 < nodes) (h3 : ¬ id < 0) (h4 : ¬ nodes ≤ id) (hm : mayB t v l nodes = false) :
    Calls Try.prog 8 #[.int .i64 id, .int .i64 nodes, .agg #[.int .i64 t, .int .i64 v, .slice a l.length c]] w (NewNo w 3) := by
  have d0 : decide (nodes < 1) = false := by simp; omega
  have d1 : decide (7 < nodes) = false := by simp; omega
  have d2 : decide (id < 0) = false := by simp; omega
  have d3 : decide (nodes ≤ id) = false := by simp; omega
  have hB := (Below.refl _ w).alloc (Nat.le_refl _) (.cells #[.int .i64 t, .int .i64 v, .slice a l.length c] 29)
  have cm := may_is t v a c l nodes hl _ (h.below hB)
  rw [hm] at cm
  clear h1 h2 h3 h4 hm
  go_enter Try.func8, Try.ntmps8
  go_wp2_with fail
  refine cm.mono ?_
  rintro e w2 ⟨rfl, hB2⟩
  go_wp2_with fail
  go_ret2
  exact ⟨rfl, hB.trans (hB2.mono hB.size)⟩

set_option maxRecDepth 100000 in
set_option maxHeartbeats 2000000 in
theorem new_ok (id nodes : Nat) (t v : Int) (a : Option Addr) (c : Nat) (l : List Ent) (hl : l.length ≤ 100000) (w : World) (h : Hd w a l) (h1 : 1 ≤ nodes) (h2 : nodes ≤ 7) (h4 : id < nodes) (hm : mayB t v l nodes = true) :
    Calls Try.prog 8 #[.int .i64 id, .int .i64 nodes, .agg #[.int .i64 t, .int .i64 v, .slice a l.length c]] w (NewYes w (newS id nodes t v l)) := by
  have d0 : decide ((nodes : Int) < 1) = false := by simp; omega
  have d1 : decide (7 < (nodes : Int)) = false := by simp; omega
  have d2 : decide ((id : Int) < 0) = false := by simp
  have d3 : decide ((nodes : Int) ≤ id) = false := by simp; omega
  have hB := (Below.refl _ w).alloc (Nat.le_refl _) (.cells #[.int .i64 t, .int .i64 v, .slice a l.length c] 29)
  have hbx := heap_alloc_new w (.cells #[.int .i64 t, .int .i64 v, .slice a l.length c] 29)
  have hsz := World.size_alloc w (.cells #[.int .i64 t, .int .i64 v, .slice a l.length c] 29)
  have cm := may_is t v a c l nodes hl _ (h.below hB)
  rw [hm] at cm
  clear h1 hm
  go_enter Try.func8, Try.ntmps8
  go_wp2_with fail
  refine cm.mono ?_
  rintro e w2 ⟨rfl, hB2⟩
  have hbx2 := (hB2.block w.heap.size (by omega)).trans hbx
  have hB3 : Below w.heap.size w w2 := hB.trans (hB2.mono hB.size)
  have hsz2 := hB2.size
  have h3 := h.below hB3
  have x0 : w2.cell? ⟨w.heap.size, 0, none⟩ = some (.int .i64 t) := by simp [World.cell?, hbx2]
  have x1 : w2.cell? ⟨w.heap.size, 1, none⟩ = some (.int .i64 v) := by simp [World.cell?, hbx2]
  have x2 : w2.cell? ⟨w.heap.size, 2, none⟩ = some (.slice a l.length c) := by simp [World.cell?, hbx2]
  clear hB hbx hB2 h cm
  go_wp2_with fail
  refine (clone_is a c l hl _ h3.es).mono ?_
  rintro e w3 ⟨v3, rfl, hown, hB4⟩
  obtain ⟨a3, c3, rfl⟩ := own_slice hown
  have hbx3 := (hB4.block w.heap.size (by omega)).trans hbx2
  have x0 : w3.cell? ⟨w.heap.size, 0, none⟩ = some (.int .i64 t) := by simp [World.cell?, hbx3]
  have x1 : w3.cell? ⟨w.heap.size, 1, none⟩ = some (.int .i64 v) := by simp [World.cell?, hbx3]
  have x2 : w3.cell? ⟨w.heap.size, 2, none⟩ = some (.slice a l.length c) := by simp [World.cell?, hbx3]
  have f2 : w3.frozen? ⟨w.heap.size, 2, none⟩ = false := by simp [World.frozen?, hbx3]
  have hsz3 := hB4.size
  have hB5 : Below w.heap.size w w3 := hB3.trans (hB4.mono hB3.size)
  clear hbx2 h3
  go_wp2_with fail
  have hsetsz : (w3.setCell ⟨w.heap.size, 2, none⟩ (.slice a3 l.length c3)).heap.size = w3.heap.size := by simp [World.setCell]
  have hBs := hB5.setCell (p := ⟨w.heap.size, 2, none⟩) (Nat.le_refl _) (.slice a3 l.length c3)
  have hown1 : (w3.setCell ⟨w.heap.size, 2, none⟩ (.slice a3 l.length c3)).ownsRow w2.heap.size 39 2 (.slice a3 l.length c3) l.length (ents l) :=
    ownsRow_setCell_other (a := ⟨w.heap.size, 2, none⟩) hown (fun e => absurd (own_ge hown e) (by show ¬ w2.heap.size ≤ w.heap.size; omega)) (.slice a3 l.length c3)
  have hown2 := World.ownsRow.alloc hown1 (.cells (rc (newS id nodes t v l) (.slice a3 l.length c3)) 74)
  go_ret2
  refine ⟨w3.heap.size, .slice a3 l.length c3, rfl, hBs.alloc (by rw [hsetsz]; omega) _, by omega, ⟨?_, own_base hown2 (Nat.zero_le _)⟩, fun k hk => by have := own_ge hown hk; omega⟩
  have := heap_alloc_new (w3.setCell ⟨w.heap.size, 2, none⟩ (.slice a3 l.length c3)) (.cells (rc (newS id nodes t v l) (.slice a3 l.length c3)) 74)
  rw [hsetsz] at this
  exact this
end Rf
end Go.Proofs.Ytdacdkidjgbdoaa
