/- The contract of raft's hears. -/
import Derived.Test.YtdacdkidjgbdoaaTa
set_option linter.unusedVariables false
set_option linter.unusedSimpArgs false
namespace Go.Proofs.Ytdacdkidjgbdoaa
open Go Go.RowKit
namespace Rf
attribute [local go_sem ↓] Go.wp_at_zero Go.wp_at_succ

/-- is a message heard? -/
def hearsB (s : Srv) (m : Msg) : Bool :=
  decide (m.dst = s.id) && (decide (0 ≤ m.src) && (decide (m.src < s.nodes) && (decide (m.src ≠ s.id) && (decide (1 ≤ m.term) && (decide (m.term ≤ 1152921504606846976) &&
  (decide (0 ≤ m.index) && (decide (m.index ≤ 4096) && (decide (0 ≤ m.logTerm) && (decide (m.logTerm ≤ m.term) && (decide (0 ≤ m.commit) && (decide ((m.entries.length : Int) ≤ 4096 - m.index) &&
  (plainB m && rises m.entries (max 1 m.logTerm) m.term))))))))))))

theorem plain_is' (k : Nat) (src dst tm ix lt cm : Int) (ok : Bool) (a : Option Addr) (n c : Nat) (w : World) :
    Calls Try.prog 64 #[.agg #[.int .u8 k, .int .i64 src, .int .i64 dst, .int .i64 tm, .int .i64 ix, .int .i64 lt, .slice a n c, .int .i64 cm, .bool ok]] w (PlainPost (plainK k ix lt n cm ok) w) := by
  by_cases k1 : k = 1
  · subst k1; exact plain_1 _ _ _ _ _ _ _ _ _ _ w
  by_cases k2 : k = 2
  · subst k2; exact plain_2 _ _ _ _ _ _ _ _ _ _ w
  by_cases k3 : k = 3
  · subst k3; exact plain_3 _ _ _ _ _ _ _ _ _ _ w
  by_cases k4 : k = 4
  · subst k4; exact plain_4 _ _ _ _ _ _ _ _ _ _ w
  exact plain_no k _ _ _ _ _ _ _ _ _ _ ⟨k1, k2, k3, k4⟩ w
theorem msg_cells {w w1 w2 : World} {b : Nat} {c0 c1 c2 c3 c4 c5 c6 c7 c8 : Value} {t : TypeId} {fr : Nat × Nat} (hB : Below w1.heap.size w1 w2) (hs : w1.heap = w.heap) (h : w.heap[b]? = some (.cells #[c0, c1, c2, c3, c4, c5, c6, c7, c8] t fr)) :
    w2.cell? ⟨b, 0, none⟩ = some c0 ∧ w2.cell? ⟨b, 1, none⟩ = some c1 ∧ w2.cell? ⟨b, 2, none⟩ = some c2 ∧ w2.cell? ⟨b, 3, none⟩ = some c3 ∧ w2.cell? ⟨b, 4, none⟩ = some c4 ∧ w2.cell? ⟨b, 5, none⟩ = some c5 ∧ w2.cell? ⟨b, 6, none⟩ = some c6 ∧ w2.cell? ⟨b, 7, none⟩ = some c7 ∧ w2.cell? ⟨b, 8, none⟩ = some c8 := by
  rw [← hs] at h
  have h2 := (hB.block b (Array.getElem?_eq_some_iff.1 h).1).trans h
  simp only [World.cell?, h2]
  exact ⟨rfl, rfl, rfl, rfl, rfl, rfl, rfl, rfl, rfl⟩

set_option maxRecDepth 100000 in
set_option maxHeartbeats 2000000 in
theorem hears_0 (g : Nat) (s : Srv) (v : Value) (id nd : Nat) (hid : s.id = id) (hnd : s.nodes = nd) (k : Nat) (src dst tm ix lt cm : Int) (ok : Bool) (a : Option Addr) (n c : Nat) (w : World) (h : Is w g s v) (p0 : ¬ (dst = (id : Int))) :
    Calls Try.prog 42 #[.pointer (some ⟨g, 0, none⟩), .agg #[.int .u8 k, .int .i64 src, .int .i64 dst, .int .i64 tm, .int .i64 ix, .int .i64 lt, .slice a n c, .int .i64 cm, .bool ok]] w (PlainPost false w) := by
  have hlt := h.lt
  have hB := (Below.refl _ w).alloc (Nat.le_refl _) (.cells #[.int .u8 k, .int .i64 src, .int .i64 dst, .int .i64 tm, .int .i64 ix, .int .i64 lt, .slice a n c, .int .i64 cm, .bool ok] 34)
  have h1 := h.below hB
  obtain ⟨x0, -⟩ := h.id
  obtain ⟨x1, -⟩ := h.nodes
  rw [hid] at x0
  rw [hnd] at x1
  clear hid hnd
  have d0 : ((dst : Int) != (id : Int)) = true := by simp; omega
  clear p0
  go_enter Try.func42, Try.ntmps42
  go_wp2_with fail
  go_quiet (fail)
  go_wp2_with fail
  go_ret
  exact ⟨rfl, by first | exact belowN hB | exact belowN (belowN hB)⟩
set_option maxRecDepth 100000 in
set_option maxHeartbeats 2000000 in
theorem hears_1 (g : Nat) (s : Srv) (v : Value) (id nd : Nat) (hid : s.id = id) (hnd : s.nodes = nd) (k : Nat) (src dst tm ix lt cm : Int) (ok : Bool) (a : Option Addr) (n c : Nat) (w : World) (h : Is w g s v) (p0 : dst = (id : Int)) (p1 : ¬ (0 ≤ src)) :
    Calls Try.prog 42 #[.pointer (some ⟨g, 0, none⟩), .agg #[.int .u8 k, .int .i64 src, .int .i64 dst, .int .i64 tm, .int .i64 ix, .int .i64 lt, .slice a n c, .int .i64 cm, .bool ok]] w (PlainPost false w) := by
  have hlt := h.lt
  have hB := (Below.refl _ w).alloc (Nat.le_refl _) (.cells #[.int .u8 k, .int .i64 src, .int .i64 dst, .int .i64 tm, .int .i64 ix, .int .i64 lt, .slice a n c, .int .i64 cm, .bool ok] 34)
  have h1 := h.below hB
  obtain ⟨x0, -⟩ := h.id
  obtain ⟨x1, -⟩ := h.nodes
  rw [hid] at x0
  rw [hnd] at x1
  clear hid hnd
  have d0 : ((dst : Int) != (id : Int)) = false := by simp; omega
  have d1 : decide (src < 0) = true := by simp; omega
  clear p0
  go_enter Try.func42, Try.ntmps42
  go_wp2_with fail
  go_quiet (fail)
  go_wp2_with fail
  go_quiet (fail)
  go_wp2_with fail
  go_ret
  exact ⟨rfl, by first | exact belowN hB | exact belowN (belowN hB)⟩
set_option maxRecDepth 100000 in
set_option maxHeartbeats 2000000 in
theorem hears_2 (g : Nat) (s : Srv) (v : Value) (id nd : Nat) (hid : s.id = id) (hnd : s.nodes = nd) (k : Nat) (src dst tm ix lt cm : Int) (ok : Bool) (a : Option Addr) (n c : Nat) (w : World) (h : Is w g s v) (p0 : dst = (id : Int)) (p1 : 0 ≤ src) (p2 : ¬ (src < (nd : Int))) :
    Calls Try.prog 42 #[.pointer (some ⟨g, 0, none⟩), .agg #[.int .u8 k, .int .i64 src, .int .i64 dst, .int .i64 tm, .int .i64 ix, .int .i64 lt, .slice a n c, .int .i64 cm, .bool ok]] w (PlainPost false w) := by
  have hlt := h.lt
  have hB := (Below.refl _ w).alloc (Nat.le_refl _) (.cells #[.int .u8 k, .int .i64 src, .int .i64 dst, .int .i64 tm, .int .i64 ix, .int .i64 lt, .slice a n c, .int .i64 cm, .bool ok] 34)
  have h1 := h.below hB
  obtain ⟨x0, -⟩ := h.id
  obtain ⟨x1, -⟩ := h.nodes
  rw [hid] at x0
  rw [hnd] at x1
  clear hid hnd
  have d0 : ((dst : Int) != (id : Int)) = false := by simp; omega
  have d1 : decide (src < 0) = false := by simp; omega
  have d2 : decide ((nd : Int) ≤ src) = true := by simp; omega
  clear p0
  go_enter Try.func42, Try.ntmps42
  go_wp2_with fail
  go_quiet (fail)
  go_wp2_with fail
  go_quiet (fail)
  go_wp2_with fail
  go_ret
  exact ⟨rfl, by first | exact belowN hB | exact belowN (belowN hB)⟩
set_option maxRecDepth 100000 in
set_option maxHeartbeats 2000000 in
theorem hears_3 (g : Nat) (s : Srv) (v : Value) (id nd : Nat) (hid : s.id = id) (hnd : s.nodes = nd) (k : Nat) (src dst tm ix lt cm : Int) (ok : Bool) (a : Option Addr) (n c : Nat) (w : World) (h : Is w g s v) (p0 : dst = (id : Int)) (p1 : 0 ≤ src) (p2 : src < (nd : Int)) (p3 : ¬ (src ≠ (id : Int))) :
    Calls Try.prog 42 #[.pointer (some ⟨g, 0, none⟩), .agg #[.int .u8 k, .int .i64 src, .int .i64 dst, .int .i64 tm, .int .i64 ix, .int .i64 lt, .slice a n c, .int .i64 cm, .bool ok]] w (PlainPost false w) := by
  have hlt := h.lt
  have hB := (Below.refl _ w).alloc (Nat.le_refl _) (.cells #[.int .u8 k, .int .i64 src, .int .i64 dst, .int .i64 tm, .int .i64 ix, .int .i64 lt, .slice a n c, .int .i64 cm, .bool ok] 34)
  have h1 := h.below hB
  obtain ⟨x0, -⟩ := h.id
  obtain ⟨x1, -⟩ := h.nodes
  rw [hid] at x0
  rw [hnd] at x1
  clear hid hnd
  have d0 : ((dst : Int) != (id : Int)) = false := by simp; omega
  have d1 : decide (src < 0) = false := by simp; omega
  have d2 : decide ((nd : Int) ≤ src) = false := by simp; omega
  have d3 : (src == (id : Int)) = true := by simp; omega
  clear p0
  clear p3
  go_enter Try.func42, Try.ntmps42
  go_wp2_with fail
  go_quiet (fail)
  go_wp2_with fail
  go_quiet (fail)
  go_wp2_with fail
  go_ret
  exact ⟨rfl, by first | exact belowN hB | exact belowN (belowN hB)⟩
set_option maxRecDepth 100000 in
set_option maxHeartbeats 2000000 in
theorem hears_4 (g : Nat) (s : Srv) (v : Value) (id nd : Nat) (hid : s.id = id) (hnd : s.nodes = nd) (k : Nat) (src dst tm ix lt cm : Int) (ok : Bool) (a : Option Addr) (n c : Nat) (w : World) (h : Is w g s v) (p0 : dst = (id : Int)) (p1 : 0 ≤ src) (p2 : src < (nd : Int)) (p3 : src ≠ (id : Int)) (p4 : ¬ (1 ≤ tm)) :
    Calls Try.prog 42 #[.pointer (some ⟨g, 0, none⟩), .agg #[.int .u8 k, .int .i64 src, .int .i64 dst, .int .i64 tm, .int .i64 ix, .int .i64 lt, .slice a n c, .int .i64 cm, .bool ok]] w (PlainPost false w) := by
  have hlt := h.lt
  have hB := (Below.refl _ w).alloc (Nat.le_refl _) (.cells #[.int .u8 k, .int .i64 src, .int .i64 dst, .int .i64 tm, .int .i64 ix, .int .i64 lt, .slice a n c, .int .i64 cm, .bool ok] 34)
  have h1 := h.below hB
  obtain ⟨x0, -⟩ := h.id
  obtain ⟨x1, -⟩ := h.nodes
  rw [hid] at x0
  rw [hnd] at x1
  clear hid hnd
  have d0 : ((dst : Int) != (id : Int)) = false := by simp; omega
  have d1 : decide (src < 0) = false := by simp; omega
  have d2 : decide ((nd : Int) ≤ src) = false := by simp; omega
  have d3 : (src == (id : Int)) = false := by simp; omega
  have d4 : decide (tm < 1) = true := by simp; omega
  clear p0
  clear p3
  go_enter Try.func42, Try.ntmps42
  go_wp2_with fail
  go_quiet (fail)
  go_wp2_with fail
  go_quiet (fail)
  go_wp2_with fail
  go_ret
  exact ⟨rfl, by first | exact belowN hB | exact belowN (belowN hB)⟩
set_option maxRecDepth 100000 in
set_option maxHeartbeats 2000000 in
theorem hears_5 (g : Nat) (s : Srv) (v : Value) (id nd : Nat) (hid : s.id = id) (hnd : s.nodes = nd) (k : Nat) (src dst tm ix lt cm : Int) (ok : Bool) (a : Option Addr) (n c : Nat) (w : World) (h : Is w g s v) (p0 : dst = (id : Int)) (p1 : 0 ≤ src) (p2 : src < (nd : Int)) (p3 : src ≠ (id : Int)) (p4 : 1 ≤ tm) (p5 : ¬ (tm ≤ 1152921504606846976)) :
    Calls Try.prog 42 #[.pointer (some ⟨g, 0, none⟩), .agg #[.int .u8 k, .int .i64 src, .int .i64 dst, .int .i64 tm, .int .i64 ix, .int .i64 lt, .slice a n c, .int .i64 cm, .bool ok]] w (PlainPost false w) := by
  have hlt := h.lt
  have hB := (Below.refl _ w).alloc (Nat.le_refl _) (.cells #[.int .u8 k, .int .i64 src, .int .i64 dst, .int .i64 tm, .int .i64 ix, .int .i64 lt, .slice a n c, .int .i64 cm, .bool ok] 34)
  have h1 := h.below hB
  obtain ⟨x0, -⟩ := h.id
  obtain ⟨x1, -⟩ := h.nodes
  rw [hid] at x0
  rw [hnd] at x1
  clear hid hnd
  have d0 : ((dst : Int) != (id : Int)) = false := by simp; omega
  have d1 : decide (src < 0) = false := by simp; omega
  have d2 : decide ((nd : Int) ≤ src) = false := by simp; omega
  have d3 : (src == (id : Int)) = false := by simp; omega
  have d4 : decide (tm < 1) = false := by simp; omega
  have d5 : decide (1152921504606846976 < tm) = true := by simp; omega
  clear p0
  clear p3
  go_enter Try.func42, Try.ntmps42
  go_wp2_with fail
  go_quiet (fail)
  go_wp2_with fail
  go_quiet (fail)
  go_wp2_with fail
  go_ret
  exact ⟨rfl, by first | exact belowN hB | exact belowN (belowN hB)⟩
set_option maxRecDepth 100000 in
set_option maxHeartbeats 2000000 in
theorem hears_6 (g : Nat) (s : Srv) (v : Value) (id nd : Nat) (hid : s.id = id) (hnd : s.nodes = nd) (k : Nat) (src dst tm ix lt cm : Int) (ok : Bool) (a : Option Addr) (n c : Nat) (w : World) (h : Is w g s v) (p0 : dst = (id : Int)) (p1 : 0 ≤ src) (p2 : src < (nd : Int)) (p3 : src ≠ (id : Int)) (p4 : 1 ≤ tm) (p5 : tm ≤ 1152921504606846976) (p6 : ¬ (0 ≤ ix)) :
    Calls Try.prog 42 #[.pointer (some ⟨g, 0, none⟩), .agg #[.int .u8 k, .int .i64 src, .int .i64 dst, .int .i64 tm, .int .i64 ix, .int .i64 lt, .slice a n c, .int .i64 cm, .bool ok]] w (PlainPost false w) := by
  have hlt := h.lt
  have hB := (Below.refl _ w).alloc (Nat.le_refl _) (.cells #[.int .u8 k, .int .i64 src, .int .i64 dst, .int .i64 tm, .int .i64 ix, .int .i64 lt, .slice a n c, .int .i64 cm, .bool ok] 34)
  have h1 := h.below hB
  obtain ⟨x0, -⟩ := h.id
  obtain ⟨x1, -⟩ := h.nodes
  rw [hid] at x0
  rw [hnd] at x1
  clear hid hnd
  have d0 : ((dst : Int) != (id : Int)) = false := by simp; omega
  have d1 : decide (src < 0) = false := by simp; omega
  have d2 : decide ((nd : Int) ≤ src) = false := by simp; omega
  have d3 : (src == (id : Int)) = false := by simp; omega
  have d4 : decide (tm < 1) = false := by simp; omega
  have d5 : decide (1152921504606846976 < tm) = false := by simp; omega
  have d6 : decide (ix < 0) = true := by simp; omega
  clear p0
  clear p3
  go_enter Try.func42, Try.ntmps42
  go_wp2_with fail
  go_quiet (fail)
  go_wp2_with fail
  go_quiet (fail)
  go_wp2_with fail
  go_ret
  exact ⟨rfl, by first | exact belowN hB | exact belowN (belowN hB)⟩
set_option maxRecDepth 100000 in
set_option maxHeartbeats 2000000 in
theorem hears_7 (g : Nat) (s : Srv) (v : Value) (id nd : Nat) (hid : s.id = id) (hnd : s.nodes = nd) (k : Nat) (src dst tm ix lt cm : Int) (ok : Bool) (a : Option Addr) (n c : Nat) (w : World) (h : Is w g s v) (p0 : dst = (id : Int)) (p1 : 0 ≤ src) (p2 : src < (nd : Int)) (p3 : src ≠ (id : Int)) (p4 : 1 ≤ tm) (p5 : tm ≤ 1152921504606846976) (p6 : 0 ≤ ix) (p7 : ¬ (ix ≤ 4096)) :
    Calls Try.prog 42 #[.pointer (some ⟨g, 0, none⟩), .agg #[.int .u8 k, .int .i64 src, .int .i64 dst, .int .i64 tm, .int .i64 ix, .int .i64 lt, .slice a n c, .int .i64 cm, .bool ok]] w (PlainPost false w) := by
  have hlt := h.lt
  have hB := (Below.refl _ w).alloc (Nat.le_refl _) (.cells #[.int .u8 k, .int .i64 src, .int .i64 dst, .int .i64 tm, .int .i64 ix, .int .i64 lt, .slice a n c, .int .i64 cm, .bool ok] 34)
  have h1 := h.below hB
  obtain ⟨x0, -⟩ := h.id
  obtain ⟨x1, -⟩ := h.nodes
  rw [hid] at x0
  rw [hnd] at x1
  clear hid hnd
  have d0 : ((dst : Int) != (id : Int)) = false := by simp; omega
  have d1 : decide (src < 0) = false := by simp; omega
  have d2 : decide ((nd : Int) ≤ src) = false := by simp; omega
  have d3 : (src == (id : Int)) = false := by simp; omega
  have d4 : decide (tm < 1) = false := by simp; omega
  have d5 : decide (1152921504606846976 < tm) = false := by simp; omega
  have d6 : decide (ix < 0) = false := by simp; omega
  have d7 : decide (4096 < ix) = true := by simp; omega
  clear p0
  clear p3
  go_enter Try.func42, Try.ntmps42
  go_wp2_with fail
  go_quiet (fail)
  go_wp2_with fail
  go_quiet (fail)
  go_wp2_with fail
  go_ret
  exact ⟨rfl, by first | exact belowN hB | exact belowN (belowN hB)⟩
set_option maxRecDepth 100000 in
set_option maxHeartbeats 2000000 in
theorem hears_8 (g : Nat) (s : Srv) (v : Value) (id nd : Nat) (hid : s.id = id) (hnd : s.nodes = nd) (k : Nat) (src dst tm ix lt cm : Int) (ok : Bool) (a : Option Addr) (n c : Nat) (w : World) (h : Is w g s v) (p0 : dst = (id : Int)) (p1 : 0 ≤ src) (p2 : src < (nd : Int)) (p3 : src ≠ (id : Int)) (p4 : 1 ≤ tm) (p5 : tm ≤ 1152921504606846976) (p6 : 0 ≤ ix) (p7 : ix ≤ 4096) (p8 : ¬ (0 ≤ lt)) :
    Calls Try.prog 42 #[.pointer (some ⟨g, 0, none⟩), .agg #[.int .u8 k, .int .i64 src, .int .i64 dst, .int .i64 tm, .int .i64 ix, .int .i64 lt, .slice a n c, .int .i64 cm, .bool ok]] w (PlainPost false w) := by
  have hlt := h.lt
  have hB := (Below.refl _ w).alloc (Nat.le_refl _) (.cells #[.int .u8 k, .int .i64 src, .int .i64 dst, .int .i64 tm, .int .i64 ix, .int .i64 lt, .slice a n c, .int .i64 cm, .bool ok] 34)
  have h1 := h.below hB
  obtain ⟨x0, -⟩ := h.id
  obtain ⟨x1, -⟩ := h.nodes
  rw [hid] at x0
  rw [hnd] at x1
  clear hid hnd
  have d0 : ((dst : Int) != (id : Int)) = false := by simp; omega
  have d1 : decide (src < 0) = false := by simp; omega
  have d2 : decide ((nd : Int) ≤ src) = false := by simp; omega
  have d3 : (src == (id : Int)) = false := by simp; omega
  have d4 : decide (tm < 1) = false := by simp; omega
  have d5 : decide (1152921504606846976 < tm) = false := by simp; omega
  have d6 : decide (ix < 0) = false := by simp; omega
  have d7 : decide (4096 < ix) = false := by simp; omega
  have d8 : decide (lt < 0) = true := by simp; omega
  clear p0
  clear p3
  go_enter Try.func42, Try.ntmps42
  go_wp2_with fail
  go_quiet (fail)
  go_wp2_with fail
  go_quiet (fail)
  go_wp2_with fail
  go_ret
  exact ⟨rfl, by first | exact belowN hB | exact belowN (belowN hB)⟩
set_option maxRecDepth 100000 in
set_option maxHeartbeats 2000000 in
theorem hears_9 (g : Nat) (s : Srv) (v : Value) (id nd : Nat) (hid : s.id = id) (hnd : s.nodes = nd) (k : Nat) (src dst tm ix lt cm : Int) (ok : Bool) (a : Option Addr) (n c : Nat) (w : World) (h : Is w g s v) (p0 : dst = (id : Int)) (p1 : 0 ≤ src) (p2 : src < (nd : Int)) (p3 : src ≠ (id : Int)) (p4 : 1 ≤ tm) (p5 : tm ≤ 1152921504606846976) (p6 : 0 ≤ ix) (p7 : ix ≤ 4096) (p8 : 0 ≤ lt) (p9 : ¬ (lt ≤ tm)) :
    Calls Try.prog 42 #[.pointer (some ⟨g, 0, none⟩), .agg #[.int .u8 k, .int .i64 src, .int .i64 dst, .int .i64 tm, .int .i64 ix, .int .i64 lt, .slice a n c, .int .i64 cm, .bool ok]] w (PlainPost false w) := by
  have hlt := h.lt
  have hB := (Below.refl _ w).alloc (Nat.le_refl _) (.cells #[.int .u8 k, .int .i64 src, .int .i64 dst, .int .i64 tm, .int .i64 ix, .int .i64 lt, .slice a n c, .int .i64 cm, .bool ok] 34)
  have h1 := h.below hB
  obtain ⟨x0, -⟩ := h.id
  obtain ⟨x1, -⟩ := h.nodes
  rw [hid] at x0
  rw [hnd] at x1
  clear hid hnd
  have d0 : ((dst : Int) != (id : Int)) = false := by simp; omega
  have d1 : decide (src < 0) = false := by simp; omega
  have d2 : decide ((nd : Int) ≤ src) = false := by simp; omega
  have d3 : (src == (id : Int)) = false := by simp; omega
  have d4 : decide (tm < 1) = false := by simp; omega
  have d5 : decide (1152921504606846976 < tm) = false := by simp; omega
  have d6 : decide (ix < 0) = false := by simp; omega
  have d7 : decide (4096 < ix) = false := by simp; omega
  have d8 : decide (lt < 0) = false := by simp; omega
  have d9 : decide (tm < lt) = true := by simp; omega
  clear p0
  clear p3
  go_enter Try.func42, Try.ntmps42
  go_wp2_with fail
  go_quiet (fail)
  go_wp2_with fail
  go_quiet (fail)
  go_wp2_with fail
  go_ret
  exact ⟨rfl, by first | exact belowN hB | exact belowN (belowN hB)⟩
set_option maxRecDepth 100000 in
set_option maxHeartbeats 2000000 in
theorem hears_10 (g : Nat) (s : Srv) (v : Value) (id nd : Nat) (hid : s.id = id) (hnd : s.nodes = nd) (k : Nat) (src dst tm ix lt cm : Int) (ok : Bool) (a : Option Addr) (n c : Nat) (w : World) (h : Is w g s v) (p0 : dst = (id : Int)) (p1 : 0 ≤ src) (p2 : src < (nd : Int)) (p3 : src ≠ (id : Int)) (p4 : 1 ≤ tm) (p5 : tm ≤ 1152921504606846976) (p6 : 0 ≤ ix) (p7 : ix ≤ 4096) (p8 : 0 ≤ lt) (p9 : lt ≤ tm) (p10 : ¬ (0 ≤ cm)) :
    Calls Try.prog 42 #[.pointer (some ⟨g, 0, none⟩), .agg #[.int .u8 k, .int .i64 src, .int .i64 dst, .int .i64 tm, .int .i64 ix, .int .i64 lt, .slice a n c, .int .i64 cm, .bool ok]] w (PlainPost false w) := by
  have hlt := h.lt
  have hB := (Below.refl _ w).alloc (Nat.le_refl _) (.cells #[.int .u8 k, .int .i64 src, .int .i64 dst, .int .i64 tm, .int .i64 ix, .int .i64 lt, .slice a n c, .int .i64 cm, .bool ok] 34)
  have h1 := h.below hB
  obtain ⟨x0, -⟩ := h.id
  obtain ⟨x1, -⟩ := h.nodes
  rw [hid] at x0
  rw [hnd] at x1
  clear hid hnd
  have d0 : ((dst : Int) != (id : Int)) = false := by simp; omega
  have d1 : decide (src < 0) = false := by simp; omega
  have d2 : decide ((nd : Int) ≤ src) = false := by simp; omega
  have d3 : (src == (id : Int)) = false := by simp; omega
  have d4 : decide (tm < 1) = false := by simp; omega
  have d5 : decide (1152921504606846976 < tm) = false := by simp; omega
  have d6 : decide (ix < 0) = false := by simp; omega
  have d7 : decide (4096 < ix) = false := by simp; omega
  have d8 : decide (lt < 0) = false := by simp; omega
  have d9 : decide (tm < lt) = false := by simp; omega
  have d10 : decide (cm < 0) = true := by simp; omega
  clear p0
  clear p3
  go_enter Try.func42, Try.ntmps42
  go_wp2_with fail
  go_quiet (fail)
  go_wp2_with fail
  go_quiet (fail)
  go_wp2_with fail
  go_ret
  exact ⟨rfl, by first | exact belowN hB | exact belowN (belowN hB)⟩
set_option maxRecDepth 100000 in
set_option maxHeartbeats 2000000 in
theorem hears_11 (g : Nat) (s : Srv) (v : Value) (id nd : Nat) (hid : s.id = id) (hnd : s.nodes = nd) (k : Nat) (src dst tm ix lt cm : Int) (ok : Bool) (a : Option Addr) (n c : Nat) (w : World) (h : Is w g s v) (p0 : dst = (id : Int)) (p1 : 0 ≤ src) (p2 : src < (nd : Int)) (p3 : src ≠ (id : Int)) (p4 : 1 ≤ tm) (p5 : tm ≤ 1152921504606846976) (p6 : 0 ≤ ix) (p7 : ix ≤ 4096) (p8 : 0 ≤ lt) (p9 : lt ≤ tm) (p10 : 0 ≤ cm) (p11 : ¬ ((n : Int) ≤ 4096 - ix)) :
    Calls Try.prog 42 #[.pointer (some ⟨g, 0, none⟩), .agg #[.int .u8 k, .int .i64 src, .int .i64 dst, .int .i64 tm, .int .i64 ix, .int .i64 lt, .slice a n c, .int .i64 cm, .bool ok]] w (PlainPost false w) := by
  have hlt := h.lt
  have hB := (Below.refl _ w).alloc (Nat.le_refl _) (.cells #[.int .u8 k, .int .i64 src, .int .i64 dst, .int .i64 tm, .int .i64 ix, .int .i64 lt, .slice a n c, .int .i64 cm, .bool ok] 34)
  have h1 := h.below hB
  obtain ⟨x0, -⟩ := h.id
  obtain ⟨x1, -⟩ := h.nodes
  rw [hid] at x0
  rw [hnd] at x1
  clear hid hnd
  have d0 : ((dst : Int) != (id : Int)) = false := by simp; omega
  have d1 : decide (src < 0) = false := by simp; omega
  have d2 : decide ((nd : Int) ≤ src) = false := by simp; omega
  have d3 : (src == (id : Int)) = false := by simp; omega
  have d4 : decide (tm < 1) = false := by simp; omega
  have d5 : decide (1152921504606846976 < tm) = false := by simp; omega
  have d6 : decide (ix < 0) = false := by simp; omega
  have d7 : decide (4096 < ix) = false := by simp; omega
  have d8 : decide (lt < 0) = false := by simp; omega
  have d9 : decide (tm < lt) = false := by simp; omega
  have d10 : decide (cm < 0) = false := by simp; omega
  have d11 : decide (4096 - ix < (n : Int)) = true := by simp; omega
  clear p0
  clear p3
  go_enter Try.func42, Try.ntmps42
  go_wp2_with fail
  go_quiet (fail)
  go_wp2_with fail
  go_quiet (fail)
  go_wp2_with fail
  go_ret
  exact ⟨rfl, by first | exact belowN hB | exact belowN (belowN hB)⟩
set_option maxRecDepth 100000 in
set_option maxHeartbeats 2000000 in
theorem hears_plain (g : Nat) (s : Srv) (v : Value) (id nd : Nat) (hid : s.id = id) (hnd : s.nodes = nd) (k : Nat) (src dst tm ix lt cm : Int) (ok : Bool) (a : Option Addr) (n c : Nat) (w : World) (h : Is w g s v) (p0 : dst = (id : Int)) (p1 : 0 ≤ src) (p2 : src < (nd : Int)) (p3 : src ≠ (id : Int)) (p4 : 1 ≤ tm) (p5 : tm ≤ 1152921504606846976) (p6 : 0 ≤ ix) (p7 : ix ≤ 4096) (p8 : 0 ≤ lt) (p9 : lt ≤ tm) (p10 : 0 ≤ cm) (p11 : (n : Int) ≤ 4096 - ix) (hp : plainK k ix lt n cm ok = false) :
    Calls Try.prog 42 #[.pointer (some ⟨g, 0, none⟩), .agg #[.int .u8 k, .int .i64 src, .int .i64 dst, .int .i64 tm, .int .i64 ix, .int .i64 lt, .slice a n c, .int .i64 cm, .bool ok]] w (PlainPost false w) := by
  have hlt := h.lt
  have hB := (Below.refl _ w).alloc (Nat.le_refl _) (.cells #[.int .u8 k, .int .i64 src, .int .i64 dst, .int .i64 tm, .int .i64 ix, .int .i64 lt, .slice a n c, .int .i64 cm, .bool ok] 34)
  have h1 := h.below hB
  obtain ⟨x0, -⟩ := h.id
  obtain ⟨x1, -⟩ := h.nodes
  rw [hid] at x0
  rw [hnd] at x1
  clear hid hnd
  have d0 : ((dst : Int) != (id : Int)) = false := by simp; omega
  have d1 : decide (src < 0) = false := by simp; omega
  have d2 : decide ((nd : Int) ≤ src) = false := by simp; omega
  have d3 : (src == (id : Int)) = false := by simp; omega
  have d4 : decide (tm < 1) = false := by simp; omega
  have d5 : decide (1152921504606846976 < tm) = false := by simp; omega
  have d6 : decide (ix < 0) = false := by simp; omega
  have d7 : decide (4096 < ix) = false := by simp; omega
  have d8 : decide (lt < 0) = false := by simp; omega
  have d9 : decide (tm < lt) = false := by simp; omega
  have d10 : decide (cm < 0) = false := by simp; omega
  have d11 : decide (4096 - ix < (n : Int)) = false := by simp; omega
  clear p0 p3
  have cp := fun W => plain_is' k src dst tm ix lt cm ok a n c W
  rw [hp] at cp
  clear hp
  go_enter Try.func42, Try.ntmps42
  go_wp2_with fail
  go_quiet (fail)
  go_wp2_with fail
  go_quiet (fail)
  go_wp2_with fail
  refine (cp _).mono ?_
  rintro e w1 ⟨rfl, hB1⟩
  go_wp2_with fail
  go_ret
  exact ⟨rfl, (belowN hB).trans (hB1.mono (belowN hB).size)⟩
set_option maxRecDepth 100000 in
set_option maxHeartbeats 2000000 in
theorem hears_one (g : Nat) (s : Srv) (v : Value) (id nd : Nat) (hid : s.id = id) (hnd : s.nodes = nd) (k : Nat) (src dst tm ix lt cm : Int) (ok : Bool) (a : Option Addr) (n c : Nat) (w : World) (h : Is w g s v) (p0 : dst = (id : Int)) (p1 : 0 ≤ src) (p2 : src < (nd : Int)) (p3 : src ≠ (id : Int)) (p4 : 1 ≤ tm) (p5 : tm ≤ 1152921504606846976) (p6 : 0 ≤ ix) (p7 : ix ≤ 4096) (p8 : 0 ≤ lt) (p9 : lt ≤ tm) (p10 : 0 ≤ cm) (p11 : (n : Int) ≤ 4096 - ix) (hp : plainK k ix lt n cm ok = true) (hq : 1 < lt) (l : List Ent) (hnl : n = l.length) (hl : l.length ≤ 100000) (hd : Hd w a l) :
    Calls Try.prog 42 #[.pointer (some ⟨g, 0, none⟩), .agg #[.int .u8 k, .int .i64 src, .int .i64 dst, .int .i64 tm, .int .i64 ix, .int .i64 lt, .slice a n c, .int .i64 cm, .bool ok]] w (PlainPost (rises l (lt) tm) w) := by
  have hlt := h.lt
  have hB := (Below.refl _ w).alloc (Nat.le_refl _) (.cells #[.int .u8 k, .int .i64 src, .int .i64 dst, .int .i64 tm, .int .i64 ix, .int .i64 lt, .slice a n c, .int .i64 cm, .bool ok] 34)
  have h1 := h.below hB
  obtain ⟨x0, -⟩ := h.id
  obtain ⟨x1, -⟩ := h.nodes
  rw [hid] at x0
  rw [hnd] at x1
  clear hid hnd
  have d0 : ((dst : Int) != (id : Int)) = false := by simp; omega
  have d1 : decide (src < 0) = false := by simp; omega
  have d2 : decide ((nd : Int) ≤ src) = false := by simp; omega
  have d3 : (src == (id : Int)) = false := by simp; omega
  have d4 : decide (tm < 1) = false := by simp; omega
  have d5 : decide (1152921504606846976 < tm) = false := by simp; omega
  have d6 : decide (ix < 0) = false := by simp; omega
  have d7 : decide (4096 < ix) = false := by simp; omega
  have d8 : decide (lt < 0) = false := by simp; omega
  have d9 : decide (tm < lt) = false := by simp; omega
  have d10 : decide (cm < 0) = false := by simp; omega
  have d11 : decide (4096 - ix < (n : Int)) = false := by simp; omega
  clear p0 p3
  have cp := fun W => plain_is' k src dst tm ix lt cm ok a n c W
  rw [hp] at cp
  have cr := fun W (hW : Below w.heap.size w W) => rises_is a c l (lt) tm hl W (hd.below hW)
  rw [← hnl] at cr
  clear hp hnl hl hd
  generalize rises l (lt) tm = R at cr ⊢
  go_enter Try.func42, Try.ntmps42
  go_wp2_with fail
  go_quiet (fail)
  go_wp2_with fail
  go_quiet (fail)
  go_wp2_with fail
  refine (cp _).mono ?_
  rintro e w1 ⟨rfl, hB1⟩
  have hB2 := (belowN hB).trans (hB1.mono (belowN hB).size)
  have hm1 := msg_cells hB1 rfl (heap_alloc_new w (.cells #[.int .u8 k, .int .i64 src, .int .i64 dst, .int .i64 tm, .int .i64 ix, .int .i64 lt, .slice a n c, .int .i64 cm, .bool ok] 34))
  obtain ⟨m0, m1, m2, m3, m4, m5, m6, m7, m8⟩ := hm1
  clear h h1
  go_wp2_with fail
  refine (cr _ hB2).mono ?_
  rintro e w2 ⟨rfl, hB3⟩
  go_wp2_with fail
  go_ret
  exact ⟨rfl, hB2.trans (hB3.mono hB2.size)⟩
set_option maxRecDepth 100000 in
set_option maxHeartbeats 2000000 in
theorem hears_two (g : Nat) (s : Srv) (v : Value) (id nd : Nat) (hid : s.id = id) (hnd : s.nodes = nd) (k : Nat) (src dst tm ix lt cm : Int) (ok : Bool) (a : Option Addr) (n c : Nat) (w : World) (h : Is w g s v) (p0 : dst = (id : Int)) (p1 : 0 ≤ src) (p2 : src < (nd : Int)) (p3 : src ≠ (id : Int)) (p4 : 1 ≤ tm) (p5 : tm ≤ 1152921504606846976) (p6 : 0 ≤ ix) (p7 : ix ≤ 4096) (p8 : 0 ≤ lt) (p9 : lt ≤ tm) (p10 : 0 ≤ cm) (p11 : (n : Int) ≤ 4096 - ix) (hp : plainK k ix lt n cm ok = true) (hq : lt ≤ 1) (l : List Ent) (hnl : n = l.length) (hl : l.length ≤ 100000) (hd : Hd w a l) :
    Calls Try.prog 42 #[.pointer (some ⟨g, 0, none⟩), .agg #[.int .u8 k, .int .i64 src, .int .i64 dst, .int .i64 tm, .int .i64 ix, .int .i64 lt, .slice a n c, .int .i64 cm, .bool ok]] w (PlainPost (rises l (1) tm) w) := by
  have hlt := h.lt
  have hB := (Below.refl _ w).alloc (Nat.le_refl _) (.cells #[.int .u8 k, .int .i64 src, .int .i64 dst, .int .i64 tm, .int .i64 ix, .int .i64 lt, .slice a n c, .int .i64 cm, .bool ok] 34)
  have h1 := h.below hB
  obtain ⟨x0, -⟩ := h.id
  obtain ⟨x1, -⟩ := h.nodes
  rw [hid] at x0
  rw [hnd] at x1
  clear hid hnd
  have d0 : ((dst : Int) != (id : Int)) = false := by simp; omega
  have d1 : decide (src < 0) = false := by simp; omega
  have d2 : decide ((nd : Int) ≤ src) = false := by simp; omega
  have d3 : (src == (id : Int)) = false := by simp; omega
  have d4 : decide (tm < 1) = false := by simp; omega
  have d5 : decide (1152921504606846976 < tm) = false := by simp; omega
  have d6 : decide (ix < 0) = false := by simp; omega
  have d7 : decide (4096 < ix) = false := by simp; omega
  have d8 : decide (lt < 0) = false := by simp; omega
  have d9 : decide (tm < lt) = false := by simp; omega
  have d10 : decide (cm < 0) = false := by simp; omega
  have d11 : decide (4096 - ix < (n : Int)) = false := by simp; omega
  clear p0 p3
  have cp := fun W => plain_is' k src dst tm ix lt cm ok a n c W
  rw [hp] at cp
  have cr := fun W (hW : Below w.heap.size w W) => rises_is a c l (1) tm hl W (hd.below hW)
  rw [← hnl] at cr
  clear hp hnl hl hd
  generalize rises l (1) tm = R at cr ⊢
  go_enter Try.func42, Try.ntmps42
  go_wp2_with fail
  go_quiet (fail)
  go_wp2_with fail
  go_quiet (fail)
  go_wp2_with fail
  refine (cp _).mono ?_
  rintro e w1 ⟨rfl, hB1⟩
  have hB2 := (belowN hB).trans (hB1.mono (belowN hB).size)
  have hm1 := msg_cells hB1 rfl (heap_alloc_new w (.cells #[.int .u8 k, .int .i64 src, .int .i64 dst, .int .i64 tm, .int .i64 ix, .int .i64 lt, .slice a n c, .int .i64 cm, .bool ok] 34))
  obtain ⟨m0, m1, m2, m3, m4, m5, m6, m7, m8⟩ := hm1
  clear h h1
  go_wp2_with fail
  refine (cr _ hB2).mono ?_
  rintro e w2 ⟨rfl, hB3⟩
  go_wp2_with fail
  go_ret
  exact ⟨rfl, hB2.trans (hB3.mono hB2.size)⟩

theorem hears_is (g : Nat) (s : Srv) (v : Value) (m : Msg) (a : Option Addr) (c : Nat) (w : World) (h : Is w g s v) (hl : m.entries.length ≤ 100000) (hd : Hd w a m.entries) :
    Calls Try.prog 42 #[.pointer (some ⟨g, 0, none⟩), .agg (mc m (.slice a m.entries.length c))] w (PlainPost (hearsB s m) w) := by
  obtain ⟨k, src, dst, tm, ix, lt, es, cm, ok⟩ := m
  unfold hearsB
  dsimp only
  by_cases p0 : dst = (s.id : Int)
  rotate_left
  · have : (decide (dst = s.id)) = false := by simpa using p0
    simp only [this, Bool.false_and, Bool.and_false]
    exact hears_0 g s v _ _ rfl rfl k src dst tm ix lt cm ok a es.length c w h  p0
  by_cases p1 : 0 ≤ src
  rotate_left
  · have : (decide (0 ≤ src)) = false := by simpa using p1
    simp only [this, Bool.false_and, Bool.and_false]
    exact hears_1 g s v _ _ rfl rfl k src dst tm ix lt cm ok a es.length c w h p0 p1
  by_cases p2 : src < (s.nodes : Int)
  rotate_left
  · have : (decide (src < s.nodes)) = false := by simpa using p2
    simp only [this, Bool.false_and, Bool.and_false]
    exact hears_2 g s v _ _ rfl rfl k src dst tm ix lt cm ok a es.length c w h p0 p1 p2
  by_cases p3 : src ≠ (s.id : Int)
  rotate_left
  · have : (decide (src ≠ s.id)) = false := by simpa using p3
    simp only [this, Bool.false_and, Bool.and_false]
    exact hears_3 g s v _ _ rfl rfl k src dst tm ix lt cm ok a es.length c w h p0 p1 p2 p3
  by_cases p4 : 1 ≤ tm
  rotate_left
  · have : (decide (1 ≤ tm)) = false := by simpa using p4
    simp only [this, Bool.false_and, Bool.and_false]
    exact hears_4 g s v _ _ rfl rfl k src dst tm ix lt cm ok a es.length c w h p0 p1 p2 p3 p4
  by_cases p5 : tm ≤ 1152921504606846976
  rotate_left
  · have : (decide (tm ≤ 1152921504606846976)) = false := by simpa using p5
    simp only [this, Bool.false_and, Bool.and_false]
    exact hears_5 g s v _ _ rfl rfl k src dst tm ix lt cm ok a es.length c w h p0 p1 p2 p3 p4 p5
  by_cases p6 : 0 ≤ ix
  rotate_left
  · have : (decide (0 ≤ ix)) = false := by simpa using p6
    simp only [this, Bool.false_and, Bool.and_false]
    exact hears_6 g s v _ _ rfl rfl k src dst tm ix lt cm ok a es.length c w h p0 p1 p2 p3 p4 p5 p6
  by_cases p7 : ix ≤ 4096
  rotate_left
  · have : (decide (ix ≤ 4096)) = false := by simpa using p7
    simp only [this, Bool.false_and, Bool.and_false]
    exact hears_7 g s v _ _ rfl rfl k src dst tm ix lt cm ok a es.length c w h p0 p1 p2 p3 p4 p5 p6 p7
  by_cases p8 : 0 ≤ lt
  rotate_left
  · have : (decide (0 ≤ lt)) = false := by simpa using p8
    simp only [this, Bool.false_and, Bool.and_false]
    exact hears_8 g s v _ _ rfl rfl k src dst tm ix lt cm ok a es.length c w h p0 p1 p2 p3 p4 p5 p6 p7 p8
  by_cases p9 : lt ≤ tm
  rotate_left
  · have : (decide (lt ≤ tm)) = false := by simpa using p9
    simp only [this, Bool.false_and, Bool.and_false]
    exact hears_9 g s v _ _ rfl rfl k src dst tm ix lt cm ok a es.length c w h p0 p1 p2 p3 p4 p5 p6 p7 p8 p9
  by_cases p10 : 0 ≤ cm
  rotate_left
  · have : (decide (0 ≤ cm)) = false := by simpa using p10
    simp only [this, Bool.false_and, Bool.and_false]
    exact hears_10 g s v _ _ rfl rfl k src dst tm ix lt cm ok a es.length c w h p0 p1 p2 p3 p4 p5 p6 p7 p8 p9 p10
  by_cases p11 : (es.length : Int) ≤ 4096 - ix
  rotate_left
  · have : (decide ((es.length : Int) ≤ 4096 - ix)) = false := by simpa using p11
    simp only [this, Bool.false_and, Bool.and_false]
    exact hears_11 g s v _ _ rfl rfl k src dst tm ix lt cm ok a es.length c w h p0 p1 p2 p3 p4 p5 p6 p7 p8 p9 p10 p11
  simp only [decide_eq_true p0, decide_eq_true p1, decide_eq_true p2, decide_eq_true p3, decide_eq_true p4, decide_eq_true p5, decide_eq_true p6, decide_eq_true p7, decide_eq_true p8, decide_eq_true p9, decide_eq_true p10, decide_eq_true p11, Bool.true_and]
  unfold plainB
  dsimp only
  by_cases hp : plainK k ix lt es.length cm ok = true
  · rw [hp, Bool.true_and]
    by_cases hq : 1 < lt
    · rw [Int.max_eq_right (by omega)]
      exact hears_one g s v _ _ rfl rfl k src dst tm ix lt cm ok a es.length c w h p0 p1 p2 p3 p4 p5 p6 p7 p8 p9 p10 p11 hp hq es rfl hl hd
    · rw [Int.max_eq_left (by omega)]
      exact hears_two g s v _ _ rfl rfl k src dst tm ix lt cm ok a es.length c w h p0 p1 p2 p3 p4 p5 p6 p7 p8 p9 p10 p11 hp (by omega) es rfl hl hd
  · have hp' : plainK k ix lt es.length cm ok = false := by simpa using hp
    rw [hp', Bool.false_and]
    exact hears_plain g s v _ _ rfl rfl k src dst tm ix lt cm ok a es.length c w h p0 p1 p2 p3 p4 p5 p6 p7 p8 p9 p10 p11 hp'
end Rf
end Go.Proofs.Ytdacdkidjgbdoaa
