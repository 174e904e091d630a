/- The contracts of raft's may, New. -/
import Derived.Test.YtdacdkidjgbdoaaRl
set_option linter.unusedVariables false
set_option linter.unusedSimpArgs false
namespace Go.Proofs.Ytdacdkidjgbdoaa
open Go Go.RowKit
namespace Rf
attribute [local go_sem ↓] Go.wp_at_zero Go.wp_at_succ

def mayB (t v : Int) (l : List Ent) (nodes : Int) : Bool := decide (0 ≤ t) && decide (t ≤ 1152921504606846976) && decide (-1 ≤ v) && decide (v < nodes) && decide (l.length ≤ 4096) && rises l 1 t

set_option maxRecDepth 100000 in
set_option maxHeartbeats 2000000 in
theorem may_is (t v : Int) (a : Option Addr) (c : Nat) (l : List Ent) (nodes : Int) (hl : l.length ≤ 100000) (w : World) (h : Hd w a l) :
    Calls Try.prog 33 #[.agg #[.int .i64 t, .int .i64 v, .slice a l.length c], .int .i64 nodes] w (RisesPost (mayB t v l nodes) w) := by
  generalize hR : mayB t v l nodes = R
  unfold mayB at hR
  by_cases p0 : 0 ≤ t
  rotate_left
  · have R0 : R = false := by rw [← hR]; simp [p0]
    have d0 : decide (0 ≤ t) = false := by simp; omega
    subst R0
    clear hR
    go_enter Try.func33, Try.ntmps33
    go_wp2_with fail
    go_ret
    exact ⟨rfl, (Below.refl _ w).alloc (Nat.le_refl _) _⟩
  by_cases p1 : t ≤ 1152921504606846976
  rotate_left
  · have R0 : R = false := by rw [← hR]; simp [p1]
    have d0 : decide (0 ≤ t) = true := by simp; omega
    have d1 : decide (t ≤ 1152921504606846976) = false := by simp; omega
    subst R0
    clear hR
    go_enter Try.func33, Try.ntmps33
    go_wp2_with fail
    go_ret
    exact ⟨rfl, (Below.refl _ w).alloc (Nat.le_refl _) _⟩
  by_cases p2 : -1 ≤ v
  rotate_left
  · have R0 : R = false := by rw [← hR]; simp [p2]
    have d0 : decide (0 ≤ t) = true := by simp; omega
    have d1 : decide (t ≤ 1152921504606846976) = true := by simp; omega
    have d2 : decide (-1 ≤ v) = false := by simp; omega
    subst R0
    clear hR
    go_enter Try.func33, Try.ntmps33
    go_wp2_with fail
    go_ret
    exact ⟨rfl, (Below.refl _ w).alloc (Nat.le_refl _) _⟩
  by_cases p3 : v < nodes
  rotate_left
  · have R0 : R = false := by rw [← hR]; simp [p3]
    have d0 : decide (0 ≤ t) = true := by simp; omega
    have d1 : decide (t ≤ 1152921504606846976) = true := by simp; omega
    have d2 : decide (-1 ≤ v) = true := by simp; omega
    have d3 : decide (v < nodes) = false := by simp; omega
    subst R0
    clear hR
    go_enter Try.func33, Try.ntmps33
    go_wp2_with fail
    go_ret
    exact ⟨rfl, (Below.refl _ w).alloc (Nat.le_refl _) _⟩
  by_cases p4 : l.length ≤ 4096
  rotate_left
  · have R0 : R = false := by rw [← hR]; simp [p4]
    have d0 : decide (0 ≤ t) = true := by simp; omega
    have d1 : decide (t ≤ 1152921504606846976) = true := by simp; omega
    have d2 : decide (-1 ≤ v) = true := by simp; omega
    have d3 : decide (v < nodes) = true := by simp; omega
    have d4 : decide ((l.length : Int) ≤ 4096) = false := by simp; omega
    subst R0
    clear hR
    go_enter Try.func33, Try.ntmps33
    go_wp2_with fail
    go_ret
    exact ⟨rfl, (Below.refl _ w).alloc (Nat.le_refl _) _⟩
  have hRR : rises l 1 t = R := by rw [← hR]; simp [p0, p1, p2, p3, p4]
  have d0 : decide (0 ≤ t) = true := by simp; omega
  have d1 : decide (t ≤ 1152921504606846976) = true := by simp; omega
  have d2 : decide (-1 ≤ v) = true := by simp; omega
  have d3 : decide (v < nodes) = true := by simp; omega
  have d4 : decide ((l.length : Int) ≤ 4096) = true := by simp; omega
  have hB := (Below.refl _ w).alloc (Nat.le_refl _) (.cells #[.int .i64 t, .int .i64 v, .slice a l.length c] 29)
  have cr := rises_is a c l 1 t hl _ (h.below hB)
  rw [hRR] at cr
  clear hR hRR
  go_enter Try.func33, Try.ntmps33
  go_wp2_with fail
  refine cr.mono ?_
  rintro e w2 ⟨rfl, hB2⟩
  go_wp2_with fail
  go_ret
  exact ⟨rfl, hB.trans (hB2.mono hB.size)⟩
end Rf
end Go.Proofs.Ytdacdkidjgbdoaa
