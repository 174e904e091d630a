/- The contract of the law RaftNobody. -/
import Derived.Test.YtdacdkidjgbdoaaRr
set_option linter.unusedVariables false
set_option linter.unusedSimpArgs false
namespace Go.Proofs.Ytdacdkidjgbdoaa
open Go Go.RowKit
namespace Rf
attribute [local go_sem ↓] Go.wp_at_zero Go.wp_at_succ

theorem handle_nil (c0 c1 c2 c3 c4 c5 c6 c7 c8 : Value) (w : World) : Calls Try.prog 10 #[.pointer none, .agg #[c0, c1, c2, c3, c4, c5, c6, c7, c8]] w fun e w' => e = .returned (.slice none 0 0) ∧ Below w.heap.size w w' := by
  go_enter Try.func10, Try.ntmps10
  go_wp2_with fail
  refine (made0 _).mono ?_
  rintro e w1 ⟨rfl, rfl⟩
  go_wp2_with fail
  go_ret
  exact ⟨rfl, (Below.refl _ w).alloc (Nat.le_refl _) _⟩
theorem handle_zero (g : Nat) (s : Srv) (v : Value) (c0 c1 c2 c3 c4 c5 c6 c7 c8 : Value) (w : World) (h : Is w g s v) (h0 : s.nodes = 0) : Calls Try.prog 10 #[.pointer (some ⟨g, 0, none⟩), .agg #[c0, c1, c2, c3, c4, c5, c6, c7, c8]] w fun e w' => e = .returned (.slice none 0 0) ∧ Below w.heap.size w w' := by
  have hB := (Below.refl _ w).alloc (Nat.le_refl _) (.cells #[c0, c1, c2, c3, c4, c5, c6, c7, c8] 34)
  have h1 := h.below hB
  go_enter Try.func10, Try.ntmps10
  go_wp2_with fail
  refine (made1 g s v false _ h1 (by simp [h0])).mono ?_
  rintro e w1 ⟨rfl, rfl⟩
  go_wp2_with fail
  go_ret
  exact ⟨rfl, hB⟩

def zeroS : Srv := { id := 0, nodes := 0, term := 0, vote := 0, log := [], role := 0, leader := 0, commit := 0, voters := 0, next := fun _ => 0, mat := fun _ => 0 }

/-- a server that nobody made: none, or the zero one -/
def Nobody (w : World) (v : Value) : Prop := v = .pointer none ∨ ∃ g, v = .pointer (some ⟨g, 0, none⟩) ∧ Is w g zeroS (.slice none 0 0)
theorem Nobody.below {w w' : World} {v : Value} (h : Nobody w v) (hB : Below w.heap.size w w') : Nobody w' v := by
  rcases h with h | ⟨g, h, hI⟩
  · exact .inl h
  · exact .inr ⟨g, h, hI.below hB⟩
theorem no_propose {w : World} {v : Value} (h : Nobody w v) (d : ByteArray) : Calls Try.prog 14 #[v, .string d] w fun e w' => e = .returned (.tuple #[.int .i64 0, .int .i64 270]) ∧ w = w' := by
  rcases h with rfl | ⟨g, rfl, hI⟩
  · exact propose_nil d w
  · exact propose_zero g zeroS _ d w hI rfl
theorem no_saved {w : World} {v : Value} (h : Nobody w v) : Calls Try.prog 31 #[v] w (SavedNo w) := by
  rcases h with rfl | ⟨g, rfl, hI⟩
  · exact saved_nil w
  · exact saved_zero g zeroS _ w hI rfl
theorem no_tick {w : World} {v : Value} (h : Nobody w v) : Calls Try.prog 9 #[v] w fun e w' => e = .returned (.slice none 0 0) ∧ Below w.heap.size w w' := by
  rcases h with rfl | ⟨g, rfl, hI⟩
  · exact tick_nil w
  · exact tick_zero g zeroS _ w hI rfl
theorem no_handle {w : World} {v : Value} (h : Nobody w v) (c0 c1 c2 c3 c4 c5 c6 c7 c8 : Value) : Calls Try.prog 10 #[v, .agg #[c0, c1, c2, c3, c4, c5, c6, c7, c8]] w fun e w' => e = .returned (.slice none 0 0) ∧ Below w.heap.size w w' := by
  rcases h with rfl | ⟨g, rfl, hI⟩
  · exact handle_nil _ _ _ _ _ _ _ _ _ w
  · exact handle_zero g zeroS _ _ _ _ _ _ _ _ _ _ w hI rfl
theorem no_log {w : World} {v : Value} (h : Nobody w v) : Calls Try.prog 23 #[v] w fun e w' => e = .returned (.slice none 0 0) ∧ Below w.heap.size w w' := by
  rcases h with rfl | ⟨g, rfl, hI⟩
  · exact log_nil w
  · exact log_zero g zeroS _ w hI rfl
theorem no_twin {w : World} {v : Value} (h : Nobody w v) : Calls Try.prog 28 #[v] w fun e w' => e = .returned (.pointer none) ∧ w = w' := by
  rcases h with rfl | ⟨g, rfl, hI⟩
  · exact twin_nil w
  · exact twin_zero g zeroS _ w hI rfl
theorem no_term {w : World} {v : Value} (h : Nobody w v) : Calls Try.prog 32 #[v] w fun e w' => e = .returned (.int .i64 0) ∧ w = w' := by
  rcases h with rfl | ⟨g, rfl, hI⟩
  · exact term_nil w
  · exact term_zero g zeroS _ w hI rfl
theorem no_vote {w : World} {v : Value} (h : Nobody w v) : Calls Try.prog 11 #[v] w fun e w' => e = .returned (.int .i64 0) ∧ w = w' := by
  rcases h with rfl | ⟨g, rfl, hI⟩
  · exact vote_nil w
  · exact vote_zero g zeroS _ w hI rfl
theorem no_commit {w : World} {v : Value} (h : Nobody w v) : Calls Try.prog 13 #[v] w fun e w' => e = .returned (.int .i64 0) ∧ w = w' := by
  rcases h with rfl | ⟨g, rfl, hI⟩
  · exact commit_nil w
  · exact commit_zero g zeroS _ w hI rfl
theorem no_role {w : World} {v : Value} (h : Nobody w v) : Calls Try.prog 16 #[v] w fun e w' => e = .returned (.int .u8 0) ∧ w = w' := by
  rcases h with rfl | ⟨g, rfl, hI⟩
  · exact role_nil w
  · exact role_zero g zeroS _ w hI rfl
theorem no_leader {w : World} {v : Value} (h : Nobody w v) : Calls Try.prog 12 #[v] w fun e w' => e = .returned (.int .i64 0) ∧ w = w' := by
  rcases h with rfl | ⟨g, rfl, hI⟩
  · exact leader_nil w
  · exact leader_zero g zeroS _ w hI rfl


/-- the memory of the law -/
structure Nw (c0 c1 c2 c3 c4 c5 c6 c7 c8 : Value) (w wr : World) : Prop where
  m : wr.heap[w.heap.size]? = some (.cells #[c0, c1, c2, c3, c4, c5, c6, c7, c8] 34 (0, 0))
  z : Is wr (w.heap.size + 1) zeroS (.slice none 0 0)
  a : wr.heap[w.heap.size + 1 + 1]? = some (.cells #[.pointer none, .pointer (some ⟨w.heap.size + 1, 0, none⟩)] 75 (0, 0))
  B : Below w.heap.size w wr
section
variable {c0 c1 c2 c3 c4 c5 c6 c7 c8 : Value}
theorem Nw.size {w wr : World} (h : Nw c0 c1 c2 c3 c4 c5 c6 c7 c8 w wr) : w.heap.size + 1 + 1 < wr.heap.size := (Array.getElem?_eq_some_iff.1 h.a).1
theorem Nw.below {w wr w' : World} (h : Nw c0 c1 c2 c3 c4 c5 c6 c7 c8 w wr) (hB : Below wr.heap.size wr w') : Nw c0 c1 c2 c3 c4 c5 c6 c7 c8 w w' := by
  have hs := h.size
  exact ⟨(hB.block _ (by omega)).trans h.m, h.z.below hB, (hB.block _ hs).trans h.a, h.B.trans (hB.mono h.B.size)⟩
theorem Nw.msg {w wr : World} (h : Nw c0 c1 c2 c3 c4 c5 c6 c7 c8 w wr) : wr.cell? ⟨w.heap.size, 0, none⟩ = some c0 ∧ wr.cell? ⟨w.heap.size, 1, none⟩ = some c1 ∧ wr.cell? ⟨w.heap.size, 2, none⟩ = some c2 ∧ wr.cell? ⟨w.heap.size, 3, none⟩ = some c3 ∧ wr.cell? ⟨w.heap.size, 4, none⟩ = some c4 ∧ wr.cell? ⟨w.heap.size, 5, none⟩ = some c5 ∧ wr.cell? ⟨w.heap.size, 6, none⟩ = some c6 ∧ wr.cell? ⟨w.heap.size, 7, none⟩ = some c7 ∧ wr.cell? ⟨w.heap.size, 8, none⟩ = some c8 := by
  have hm := h.m
  simp only [World.cell?, hm]
  exact ⟨rfl, rfl, rfl, rfl, rfl, rfl, rfl, rfl, rfl⟩
theorem Nw.arr {w wr : World} (h : Nw c0 c1 c2 c3 c4 c5 c6 c7 c8 w wr) : wr.cell? ⟨w.heap.size + 1 + 1, 0, none⟩ = some (.pointer none) ∧ wr.cell? ⟨w.heap.size + 1 + 1, 1, none⟩ = some (.pointer (some ⟨w.heap.size + 1, 0, none⟩)) := by
  have hm := h.a
  simp only [World.cell?, hm]
  exact ⟨rfl, rfl⟩
theorem Nw.start (w : World) : Nw c0 c1 c2 c3 c4 c5 c6 c7 c8 w (((w.alloc (.cells #[c0, c1, c2, c3, c4, c5, c6, c7, c8] 34)).alloc (.cells (rc zeroS (.slice none 0 0)) 74)).alloc (.cells #[.pointer none, .pointer (some ⟨w.heap.size + 1, 0, none⟩)] 75)) := by
  have h1 := heap_alloc_new w (.cells #[c0, c1, c2, c3, c4, c5, c6, c7, c8] 34)
  have s1 := World.size_alloc w (.cells #[c0, c1, c2, c3, c4, c5, c6, c7, c8] 34)
  have B1 := (Below.refl _ w).alloc (Nat.le_refl _) (.cells #[c0, c1, c2, c3, c4, c5, c6, c7, c8] 34)
  generalize (w.alloc (.cells #[c0, c1, c2, c3, c4, c5, c6, c7, c8] 34)) = W1 at *
  have h2 := heap_alloc_new W1 (.cells (rc zeroS (.slice none 0 0)) 74)
  have s2 := World.size_alloc W1 (.cells (rc zeroS (.slice none 0 0)) 74)
  have B2 := (Below.refl _ W1).alloc (Nat.le_refl _) (.cells (rc zeroS (.slice none 0 0)) 74)
  generalize (W1.alloc (.cells (rc zeroS (.slice none 0 0)) 74)) = W2 at *
  have h3 := heap_alloc_new W2 (.cells #[.pointer none, .pointer (some ⟨w.heap.size + 1, 0, none⟩)] 75)
  have B3 := (Below.refl _ W2).alloc (Nat.le_refl _) (.cells #[.pointer none, .pointer (some ⟨w.heap.size + 1, 0, none⟩)] 75)
  generalize (W2.alloc (.cells #[.pointer none, .pointer (some ⟨w.heap.size + 1, 0, none⟩)] 75)) = W3 at *
  rw [s1] at h2
  rw [s2, s1] at h3
  have h1' := (B3.block _ (by omega)).trans ((B2.block _ (by omega)).trans h1)
  have h2' := (B3.block _ (by omega)).trans h2
  exact ⟨h1', ⟨h2', World.ownsRow_nil _ _ 39 2⟩, h3, (B1.trans (B2.mono (by omega))).trans (B3.mono (by omega))⟩
end

set_option maxRecDepth 100000 in
set_option maxHeartbeats 4000000 in
theorem nobody_is (c0 c1 c2 c3 c4 c5 c6 c7 c8 : Value) (d : ByteArray) (w : World) : Calls Try.prog 7 #[.agg #[c0, c1, c2, c3, c4, c5, c6, c7, c8], .string d] w fun e w' => e = .returned (.bool true) ∧ Below w.heap.size w w' := by
  have hw0 := Nw.start (c0 := c0) (c1 := c1) (c2 := c2) (c3 := c3) (c4 := c4) (c5 := c5) (c6 := c6) (c7 := c7) (c8 := c8) w
  go_enter Try.func7, Try.ntmps7
  go_wp2_with fail
  go_loopw [8, 9, 10, 11, 12] (fun iv _ _ _ _ wr => ∃ i : Nat, i ≤ 2 ∧ iv = .int .i64 i ∧ Nw c0 c1 c2 c3 c4 c5 c6 c7 c8 w wr) (fun iv _ _ _ _ _ => 2 - (intOf iv).toNat)
  case atStart => exact ⟨0, by omega, rfl, hw0⟩
  case round =>
    obtain ⟨i, hi, rfl, hw⟩ := hrel
    clear hw0
    obtain ⟨m0, m1, m2, m3, m4, m5, m6, m7, m8⟩ := hw.msg
    obtain ⟨b0, b1⟩ := hw.arr
    have hz := hw.size
    rcases (by omega : i = 0 ∨ i = 1 ∨ i = 2) with rfl | rfl | rfl
    · have hN : Nobody wr (.pointer none) := .inl rfl
      go_wp2_with fail
      refine (no_propose hN d).mono ?_
      rintro e w1 ⟨rfl, rfl⟩
      go_wp2_with fail
      refine (no_saved hN).mono ?_
      rintro e w1 ⟨rfl, hB1⟩
      have hN1 := hN.below hB1
      have hw1 := hw.below hB1
      clear hN hw b0 b1 m0 m1 m2 m3 m4 m5 m6 m7 m8
      have hz1 := hw1.size
      go_wp2_with fail
      have hBa := (Below.refl w1.heap.size w1).alloc (Nat.le_refl _) (.cells #[.int .i64 0, .int .i64 0, .slice none 0 0] 29)
      have hw2 := hw1.below hBa
      have hN2 := hN1.below hBa
      have hsv := heap_alloc_new w1 (.cells #[.int .i64 0, .int .i64 0, .slice none 0 0] 29)
      have hsz := World.size_alloc w1 (.cells #[.int .i64 0, .int .i64 0, .slice none 0 0] 29)
      generalize hW1 : (w1.alloc (.cells #[.int .i64 0, .int .i64 0, .slice none 0 0] 29)) = W1 at *
      have hbs : w1.heap.size < W1.heap.size := by omega
      clear hW1 hBa hw1 hN1 hsz
      generalize w1.heap.size = bs at *
      refine (no_tick hN2).mono ?_
      rintro e w2 ⟨rfl, hB2⟩
      have hN3 := hN2.below hB2
      have hw3 := hw2.below hB2
      have hsv2 := (hB2.block _ hbs).trans hsv
      have hbs2 := Nat.lt_of_lt_of_le hbs hB2.size
      obtain ⟨m0, m1, m2, m3, m4, m5, m6, m7, m8⟩ := hw3.msg
      clear hN2 hw2 hsv hbs
      go_wp2_with fail
      refine (no_handle hN3 c0 c1 c2 c3 c4 c5 c6 c7 c8).mono ?_
      rintro e w3 ⟨rfl, hB3⟩
      have hN4 := hN3.below hB3
      have hw4 := hw3.below hB3
      have hsv3 := (hB3.block _ hbs2).trans hsv2
      have hbs3 := Nat.lt_of_lt_of_le hbs2 hB3.size
      clear hN3 hw3 hsv2 hbs2 m0 m1 m2 m3 m4 m5 m6 m7 m8
      have s0 : w3.cell? ⟨bs, 0, none⟩ = some (.int .i64 0) := by simp [World.cell?, hsv3]
      have s1 : w3.cell? ⟨bs, 1, none⟩ = some (.int .i64 0) := by simp [World.cell?, hsv3]
      have s2 : w3.cell? ⟨bs, 2, none⟩ = some (.slice none 0 0) := by simp [World.cell?, hsv3]
      go_wp2_with fail
      refine (no_log hN4).mono ?_
      rintro e w4 ⟨rfl, hB4⟩
      have hN5 := hN4.below hB4
      have hw5 := hw4.below hB4
      clear hN4 hw4 hsv3 s0 s1 s2
      go_wp2_with fail
      refine (no_term hN5).mono ?_
      rintro e w5 ⟨rfl, rfl⟩
      go_wp2_with fail
      refine (no_vote hN5).mono ?_
      rintro e w5 ⟨rfl, rfl⟩
      go_wp2_with fail
      refine (no_commit hN5).mono ?_
      rintro e w5 ⟨rfl, rfl⟩
      go_wp2_with fail
      refine (no_role hN5).mono ?_
      rintro e w5 ⟨rfl, rfl⟩
      go_wp2_with fail
      refine (no_leader hN5).mono ?_
      rintro e w5 ⟨rfl, rfl⟩
      go_wp2_with fail
      refine (no_twin hN5).mono ?_
      rintro e w5 ⟨rfl, rfl⟩
      go_wp2_with fail
      go_roundw
      case rel => exact ⟨1, by omega, by go_num, hw5⟩
      case measure => simp [intOf]
    · have hN : Nobody wr (.pointer (some ⟨w.heap.size + 1, 0, none⟩)) := .inr ⟨_, rfl, hw.z⟩
      go_wp2_with fail
      refine (no_propose hN d).mono ?_
      rintro e w1 ⟨rfl, rfl⟩
      go_wp2_with fail
      refine (no_saved hN).mono ?_
      rintro e w1 ⟨rfl, hB1⟩
      have hN1 := hN.below hB1
      have hw1 := hw.below hB1
      clear hN hw b0 b1 m0 m1 m2 m3 m4 m5 m6 m7 m8
      have hz1 := hw1.size
      go_wp2_with fail
      have hBa := (Below.refl w1.heap.size w1).alloc (Nat.le_refl _) (.cells #[.int .i64 0, .int .i64 0, .slice none 0 0] 29)
      have hw2 := hw1.below hBa
      have hN2 := hN1.below hBa
      have hsv := heap_alloc_new w1 (.cells #[.int .i64 0, .int .i64 0, .slice none 0 0] 29)
      have hsz := World.size_alloc w1 (.cells #[.int .i64 0, .int .i64 0, .slice none 0 0] 29)
      generalize hW1 : (w1.alloc (.cells #[.int .i64 0, .int .i64 0, .slice none 0 0] 29)) = W1 at *
      have hbs : w1.heap.size < W1.heap.size := by omega
      clear hW1 hBa hw1 hN1 hsz
      generalize w1.heap.size = bs at *
      refine (no_tick hN2).mono ?_
      rintro e w2 ⟨rfl, hB2⟩
      have hN3 := hN2.below hB2
      have hw3 := hw2.below hB2
      have hsv2 := (hB2.block _ hbs).trans hsv
      have hbs2 := Nat.lt_of_lt_of_le hbs hB2.size
      obtain ⟨m0, m1, m2, m3, m4, m5, m6, m7, m8⟩ := hw3.msg
      clear hN2 hw2 hsv hbs
      go_wp2_with fail
      refine (no_handle hN3 c0 c1 c2 c3 c4 c5 c6 c7 c8).mono ?_
      rintro e w3 ⟨rfl, hB3⟩
      have hN4 := hN3.below hB3
      have hw4 := hw3.below hB3
      have hsv3 := (hB3.block _ hbs2).trans hsv2
      have hbs3 := Nat.lt_of_lt_of_le hbs2 hB3.size
      clear hN3 hw3 hsv2 hbs2 m0 m1 m2 m3 m4 m5 m6 m7 m8
      have s0 : w3.cell? ⟨bs, 0, none⟩ = some (.int .i64 0) := by simp [World.cell?, hsv3]
      have s1 : w3.cell? ⟨bs, 1, none⟩ = some (.int .i64 0) := by simp [World.cell?, hsv3]
      have s2 : w3.cell? ⟨bs, 2, none⟩ = some (.slice none 0 0) := by simp [World.cell?, hsv3]
      go_wp2_with fail
      refine (no_log hN4).mono ?_
      rintro e w4 ⟨rfl, hB4⟩
      have hN5 := hN4.below hB4
      have hw5 := hw4.below hB4
      clear hN4 hw4 hsv3 s0 s1 s2
      go_wp2_with fail
      refine (no_term hN5).mono ?_
      rintro e w5 ⟨rfl, rfl⟩
      go_wp2_with fail
      refine (no_vote hN5).mono ?_
      rintro e w5 ⟨rfl, rfl⟩
      go_wp2_with fail
      refine (no_commit hN5).mono ?_
      rintro e w5 ⟨rfl, rfl⟩
      go_wp2_with fail
      refine (no_role hN5).mono ?_
      rintro e w5 ⟨rfl, rfl⟩
      go_wp2_with fail
      refine (no_leader hN5).mono ?_
      rintro e w5 ⟨rfl, rfl⟩
      go_wp2_with fail
      refine (no_twin hN5).mono ?_
      rintro e w5 ⟨rfl, rfl⟩
      go_wp2_with fail
      go_roundw
      case rel => exact ⟨2, by omega, by go_num, hw5⟩
      case measure => simp [intOf]
    · go_wp2_with fail
      refine (awake_is wr).mono ?_
      rintro e w1 ⟨rfl, hB1⟩
      go_wp2_with fail
      go_ret
      exact ⟨rfl, hw.B.trans (hB1.mono hw.B.size)⟩
end Rf
end Go.Proofs.Ytdacdkidjgbdoaa
