/- The contract of raft's told: an append that was taken. -/
import Derived.Test.YtdacdkidjgbdoaaTg
set_option linter.unusedVariables false
set_option linter.unusedSimpArgs false
namespace Go.Proofs.Ytdacdkidjgbdoaa
open Go Go.RowKit
namespace Rf
attribute [local go_sem ↓] Go.wp_at_zero Go.wp_at_succ

theorem upd_same (f : Nat → Nat) (k n : Nat) : upd f k n k = n := by simp [upd]
theorem agreed_next (s : Srv) : (agreed s).next = s.next := rfl

set_option maxRecDepth 100000 in
set_option maxHeartbeats 2000000 in
theorem told_yes_px (g : Nat) (s : Srv) (v : Value) (F : Fit s) (L : Nat) (T : Int) (hR : s.role = 2) (hT : s.term = T) (hL : s.log.length = L) (k f i : Nat) (hf : f < 7) (hi : i ≤ L) (dst tm lt cm : Int) (a : Option Addr) (n c : Nat) (w : World) (h : Is w g s v) (d1 : (tm != T) = false) (A B : Nat) (hA : s.mat f = A) (hB0 : s.next f = B) (hA1 : A < B) (hB1 : B ≤ L + 1) (hL2 : L ≤ 4096) (p0 : A < i) (p1 : L < i + 1) :
    Calls Try.prog 46 #[.pointer (some ⟨g, 0, none⟩), .agg #[.int .u8 k, .int .i64 (f : Nat), .int .i64 dst, .int .i64 tm, .int .i64 (i : Nat), .int .i64 lt, .slice a n c, .int .i64 cm, .bool true]] w (DidPost g v w (agreed (toldUp s f i)) []) := by
  have hN : max (s.mat f) i = i := by rw [hA]; omega
  have hS : toldUp s f i = { s with mat := upd s.mat f (i), next := upd s.next f (i + 1) } := by unfold toldUp; rw [hN]
  have d2 : decide ((L : Int) < i) = false := by simp; omega
  have d2n : decide (L < i) = false := by simp; omega
  have hB := (Below.refl _ w).alloc (Nat.le_refl _) (.cells #[.int .u8 k, .int .i64 (f : Nat), .int .i64 dst, .int .i64 tm, .int .i64 (i : Nat), .int .i64 lt, .slice a n c, .int .i64 cm, .bool true] 34)
  have h1 := h.below hB
  have hbx := heap_alloc_new w (.cells #[.int .u8 k, .int .i64 (f : Nat), .int .i64 dst, .int .i64 tm, .int .i64 (i : Nat), .int .i64 lt, .slice a n c, .int .i64 cm, .bool true] 34)
  have cl := fun W (hW : Is W g s v) => last_is g s v W hW
  rw [hL] at cl
  obtain ⟨x2, f2⟩ := h.term
  obtain ⟨x5, f5⟩ := h.role
  rw [hT] at x2
  rw [hR] at x5
  have hlt := h.lt
  clear hT hR
  have d0 : ((2 : Int) != 2) = false := by decide
  go_enter Try.func46, Try.ntmps46
  go_wp2_with fail
  go_quiet ((go_at_call 40; exact Calls.quiet_of_same ((cl _ (by first | exact h1.drewN _ | exact h1)).mono (fun e w' he => ⟨he.1, he.2.symm⟩))))
  go_wp2_with fail
  have hbx2 := hbx
  generalize hW : (w.alloc (.cells #[.int .u8 k, .int .i64 (f : Nat), .int .i64 dst, .int .i64 tm, .int .i64 (i : Nat), .int .i64 lt, .slice a n c, .int .i64 cm, .bool true] 34)) = W0 at *
  have h2 := h1.drewN nq
  have hO2 : Only (fun k => k = g) w (W0.drewN nq) := (Only.of_below hB).drewN nq
  replace hbx2 : (W0.drewN nq).heap[w.heap.size]? = _ := hbx2
  have hblt : w.heap.size < (W0.drewN nq).heap.size := (Array.getElem?_eq_some_iff.1 hbx2).1
  generalize (W0.drewN nq) = W at *
  clear hW hB h1 hbx x2 f2 x5 f5
  have y4 : W.cell? ⟨w.heap.size, 4, none⟩ = some (.int .i64 (i : Nat)) := by simp [World.cell?, hbx2]
  obtain ⟨yn, fn⟩ := h2.nexts hf
  obtain ⟨ym, fm⟩ := h2.mats hf
  have hgn : ¬ g = w.heap.size := by omega
  have hf7 : (f : Int) < 7 := by omega
  rw [hA] at ym
  rw [hB0] at yn
  have q0 : (A : Int) < i := by omega
  have hw1 : ((i : Int) : Int) ≤ 4096 := by omega
  have h3 := h2.set (s' := { s with mat := upd s.mat f (i) }) rfl (16 + f) (.int .i64 (i : Nat)) (rc_mat s v hf (i))
  have hO3 := Only.set (S := fun k => k = g) hO2 (p := ⟨g, 16 + f, none⟩) (.inl rfl) (.int .i64 (i : Nat))
  have F3 : Fit (toldUp s f i) := ⟨F.nodes, F.len, F.commit, fun j => by rw [hS]; have := F.mat j; have := F.mat f; simp only [upd]; split <;> omega, fun j => by rw [hS]; have := F.next j; have := F.mat f; simp only [upd]; split <;> omega⟩
  have HX := Lib.hid (show (agreed (toldUp s f i)).next f = i + 1 ∧ (agreed (toldUp s f i)).log.length = L from ⟨by rw [agreed_next, hS]; exact upd_same _ _ _, by show (toldUp s f i).log.length = L; rw [hS]; exact hL⟩)
  have HS := Lib.hid hS
  clear hA hB0 hN hS hL
  go_region
  have h4 : Is (World.drew (W.setCell ⟨g, 16 + f, none⟩ (.int .i64 (i : Int)))) g { s with mat := upd s.mat f (i) } v := h3.drewN 1
  have hO4 : Only (fun k => k = g) w (World.drew (W.setCell ⟨g, 16 + f, none⟩ (.int .i64 (i : Int)))) := hO3.drewN 1
  generalize hW4 : (World.drew (W.setCell ⟨g, 16 + f, none⟩ (.int .i64 (i : Int)))) = W4 at *
  clear hW4 h3 hO3 h2 hO2 hbx2 yn fn ym fm y4 hblt
  obtain ⟨yn, fn⟩ := h4.nexts hf
  have ym : W4.cell? ⟨g, 16 + f, none⟩ = some (.int .i64 (i : Nat)) := by have := (h4.mats hf).1; simp only [upd_same] at this; exact this
  have h5 := h4.set (s' := { s with mat := upd s.mat f (i), next := upd s.next f (i + 1) }) rfl (9 + f) (.int .i64 (i + 1 : Nat)) (rc_next { s with mat := upd s.mat f (i) } v hf (i + 1))
  have hO5 := Only.set (S := fun k => k = g) hO4 (p := ⟨g, 9 + f, none⟩) (.inl rfl) (.int .i64 (i + 1 : Nat))
  push_cast at h5 hO5
  rw [← HS.out] at h5
  go_wp2_with fail
  go_region
  have h6 : Is (World.drew (W4.setCell ⟨g, 9 + f, none⟩ (.int .i64 ((i : Int) + 1)))) g (toldUp s f i) v := h5.drewN 1
  have hO6 : Only (fun k => k = g) w (World.drew (W4.setCell ⟨g, 9 + f, none⟩ (.int .i64 ((i : Int) + 1)))) := hO5.drewN 1
  generalize hW6 : (World.drew (W4.setCell ⟨g, 9 + f, none⟩ (.int .i64 ((i : Int) + 1)))) = W6 at *
  clear hW6 h4 hO4 h5 hO5 yn fn ym HS
  go_wp2_with fail
  refine (agree_is g (toldUp s f i) v F3 _ h6).mono ?_
  rintro e w7 ⟨rfl, hI7, hO7⟩
  have h7 : Is w7 g (agreed (toldUp s f i)) v := hI7
  have hO8 := hO6.trans hO7
  have F7 := F3.agreed
  clear hI7 h6 hO6 hO7 F3
  generalize agreed (toldUp s f i) = s7 at *
  have yn : w7.cell? ⟨g, 9 + f, none⟩ = some (.int .i64 (i + 1 : Nat)) := by have := (h7.nexts hf).1; rw [HX.out.1] at this; exact this
  have cl7 := fun W (hW : Is W g s7 v) => last_is g s7 v W hW
  rw [HX.out.2] at cl7
  have e1 : decide (L < i + 1) = true := by simp; omega
  have e2 : decide ((L : Int) < (i : Int) + 1) = true := by simp; omega
  push_cast at yn
  clear cl
  go_wp2_with fail
  go_quiet ((go_at_call 40; exact Calls.quiet_of_same ((cl7 _ (by first | exact h7.drewN _ | exact h7)).mono (fun e w' he => ⟨he.1, he.2.symm⟩))))
  go_wp2_with fail
  go_ret
  exact ⟨_, rfl, Did.none (h7.drewN _) (hO8.drewN _) hlt⟩

set_option maxRecDepth 100000 in
set_option maxHeartbeats 2000000 in
theorem told_yes_py (g : Nat) (s : Srv) (v : Value) (F : Fit s) (L : Nat) (T : Int) (hR : s.role = 2) (hT : s.term = T) (hL : s.log.length = L) (k f i : Nat) (hf : f < 7) (hi : i ≤ L) (dst tm lt cm : Int) (a : Option Addr) (n c : Nat) (w : World) (h : Is w g s v) (d1 : (tm != T) = false) (A B : Nat) (hA : s.mat f = A) (hB0 : s.next f = B) (hA1 : A < B) (hB1 : B ≤ L + 1) (hL2 : L ≤ 4096) (p0 : A < i) (p1 : i + 1 ≤ L) :
    Calls Try.prog 46 #[.pointer (some ⟨g, 0, none⟩), .agg #[.int .u8 k, .int .i64 (f : Nat), .int .i64 dst, .int .i64 tm, .int .i64 (i : Nat), .int .i64 lt, .slice a n c, .int .i64 cm, .bool true]] w (DidPost g v w (agreed (toldUp s f i)) [sendTo (agreed (toldUp s f i)) f]) := by
  have hN : max (s.mat f) i = i := by rw [hA]; omega
  have hS : toldUp s f i = { s with mat := upd s.mat f (i), next := upd s.next f (i + 1) } := by unfold toldUp; rw [hN]
  have d2 : decide ((L : Int) < i) = false := by simp; omega
  have d2n : decide (L < i) = false := by simp; omega
  have hB := (Below.refl _ w).alloc (Nat.le_refl _) (.cells #[.int .u8 k, .int .i64 (f : Nat), .int .i64 dst, .int .i64 tm, .int .i64 (i : Nat), .int .i64 lt, .slice a n c, .int .i64 cm, .bool true] 34)
  have h1 := h.below hB
  have hbx := heap_alloc_new w (.cells #[.int .u8 k, .int .i64 (f : Nat), .int .i64 dst, .int .i64 tm, .int .i64 (i : Nat), .int .i64 lt, .slice a n c, .int .i64 cm, .bool true] 34)
  have cl := fun W (hW : Is W g s v) => last_is g s v W hW
  rw [hL] at cl
  obtain ⟨x2, f2⟩ := h.term
  obtain ⟨x5, f5⟩ := h.role
  rw [hT] at x2
  rw [hR] at x5
  have hlt := h.lt
  clear hT hR
  have d0 : ((2 : Int) != 2) = false := by decide
  go_enter Try.func46, Try.ntmps46
  go_wp2_with fail
  go_quiet ((go_at_call 40; exact Calls.quiet_of_same ((cl _ (by first | exact h1.drewN _ | exact h1)).mono (fun e w' he => ⟨he.1, he.2.symm⟩))))
  go_wp2_with fail
  have hbx2 := hbx
  generalize hW : (w.alloc (.cells #[.int .u8 k, .int .i64 (f : Nat), .int .i64 dst, .int .i64 tm, .int .i64 (i : Nat), .int .i64 lt, .slice a n c, .int .i64 cm, .bool true] 34)) = W0 at *
  have h2 := h1.drewN nq
  have hO2 : Only (fun k => k = g) w (W0.drewN nq) := (Only.of_below hB).drewN nq
  replace hbx2 : (W0.drewN nq).heap[w.heap.size]? = _ := hbx2
  have hblt : w.heap.size < (W0.drewN nq).heap.size := (Array.getElem?_eq_some_iff.1 hbx2).1
  generalize (W0.drewN nq) = W at *
  clear hW hB h1 hbx x2 f2 x5 f5
  have y4 : W.cell? ⟨w.heap.size, 4, none⟩ = some (.int .i64 (i : Nat)) := by simp [World.cell?, hbx2]
  obtain ⟨yn, fn⟩ := h2.nexts hf
  obtain ⟨ym, fm⟩ := h2.mats hf
  have hgn : ¬ g = w.heap.size := by omega
  have hf7 : (f : Int) < 7 := by omega
  rw [hA] at ym
  rw [hB0] at yn
  have q0 : (A : Int) < i := by omega
  have hw1 : ((i : Int) : Int) ≤ 4096 := by omega
  have h3 := h2.set (s' := { s with mat := upd s.mat f (i) }) rfl (16 + f) (.int .i64 (i : Nat)) (rc_mat s v hf (i))
  have hO3 := Only.set (S := fun k => k = g) hO2 (p := ⟨g, 16 + f, none⟩) (.inl rfl) (.int .i64 (i : Nat))
  have F3 : Fit (toldUp s f i) := ⟨F.nodes, F.len, F.commit, fun j => by rw [hS]; have := F.mat j; have := F.mat f; simp only [upd]; split <;> omega, fun j => by rw [hS]; have := F.next j; have := F.mat f; simp only [upd]; split <;> omega⟩
  have HX := Lib.hid (show (agreed (toldUp s f i)).next f = i + 1 ∧ (agreed (toldUp s f i)).log.length = L from ⟨by rw [agreed_next, hS]; exact upd_same _ _ _, by show (toldUp s f i).log.length = L; rw [hS]; exact hL⟩)
  have HS := Lib.hid hS
  clear hA hB0 hN hS hL
  go_region
  have h4 : Is (World.drew (W.setCell ⟨g, 16 + f, none⟩ (.int .i64 (i : Int)))) g { s with mat := upd s.mat f (i) } v := h3.drewN 1
  have hO4 : Only (fun k => k = g) w (World.drew (W.setCell ⟨g, 16 + f, none⟩ (.int .i64 (i : Int)))) := hO3.drewN 1
  generalize hW4 : (World.drew (W.setCell ⟨g, 16 + f, none⟩ (.int .i64 (i : Int)))) = W4 at *
  clear hW4 h3 hO3 h2 hO2 hbx2 yn fn ym fm y4 hblt
  obtain ⟨yn, fn⟩ := h4.nexts hf
  have ym : W4.cell? ⟨g, 16 + f, none⟩ = some (.int .i64 (i : Nat)) := by have := (h4.mats hf).1; simp only [upd_same] at this; exact this
  have h5 := h4.set (s' := { s with mat := upd s.mat f (i), next := upd s.next f (i + 1) }) rfl (9 + f) (.int .i64 (i + 1 : Nat)) (rc_next { s with mat := upd s.mat f (i) } v hf (i + 1))
  have hO5 := Only.set (S := fun k => k = g) hO4 (p := ⟨g, 9 + f, none⟩) (.inl rfl) (.int .i64 (i + 1 : Nat))
  push_cast at h5 hO5
  rw [← HS.out] at h5
  go_wp2_with fail
  go_region
  have h6 : Is (World.drew (W4.setCell ⟨g, 9 + f, none⟩ (.int .i64 ((i : Int) + 1)))) g (toldUp s f i) v := h5.drewN 1
  have hO6 : Only (fun k => k = g) w (World.drew (W4.setCell ⟨g, 9 + f, none⟩ (.int .i64 ((i : Int) + 1)))) := hO5.drewN 1
  generalize hW6 : (World.drew (W4.setCell ⟨g, 9 + f, none⟩ (.int .i64 ((i : Int) + 1)))) = W6 at *
  clear hW6 h4 hO4 h5 hO5 yn fn ym HS
  go_wp2_with fail
  refine (agree_is g (toldUp s f i) v F3 _ h6).mono ?_
  rintro e w7 ⟨rfl, hI7, hO7⟩
  have h7 : Is w7 g (agreed (toldUp s f i)) v := hI7
  have hO8 := hO6.trans hO7
  have F7 := F3.agreed
  clear hI7 h6 hO6 hO7 F3
  generalize agreed (toldUp s f i) = s7 at *
  have yn : w7.cell? ⟨g, 9 + f, none⟩ = some (.int .i64 (i + 1 : Nat)) := by have := (h7.nexts hf).1; rw [HX.out.1] at this; exact this
  have cl7 := fun W (hW : Is W g s7 v) => last_is g s7 v W hW
  rw [HX.out.2] at cl7
  have e1 : decide (L < i + 1) = false := by simp; omega
  have e2 : decide ((L : Int) < (i : Int) + 1) = false := by simp; omega
  push_cast at yn
  clear cl
  go_wp2_with fail
  go_quiet ((go_at_call 40; exact Calls.quiet_of_same ((cl7 _ (by first | exact h7.drewN _ | exact h7)).mono (fun e w' he => ⟨he.1, he.2.symm⟩))))
  go_wp2_with fail
  have h8 := fun q => h7.drewN q
  refine (send_is g s7 v f hf F7 (by rw [HX.out.1]; omega) (by rw [HX.out.1, HX.out.2]; omega) _ (h7.drewN _)).mono ?_
  rintro e w9 ⟨v9, rfl, ho9, hB9⟩
  obtain ⟨a9, c9, rfl⟩ := own_slice ho9
  generalize hD : sendTo s7 f = D at *
  clear hD
  simp only [mc]
  go_wp2_with fail
  go_ret
  exact ⟨_, rfl, asked_end (h7.drewN _) (hO8.drewN _) hlt (Out.one' hB9.size ho9) (hB9.alloc hB9.size _)⟩

set_option maxRecDepth 100000 in
set_option maxHeartbeats 2000000 in
theorem told_yes_qx (g : Nat) (s : Srv) (v : Value) (F : Fit s) (L : Nat) (T : Int) (hR : s.role = 2) (hT : s.term = T) (hL : s.log.length = L) (k f i : Nat) (hf : f < 7) (hi : i ≤ L) (dst tm lt cm : Int) (a : Option Addr) (n c : Nat) (w : World) (h : Is w g s v) (d1 : (tm != T) = false) (A B : Nat) (hA : s.mat f = A) (hB0 : s.next f = B) (hA1 : A < B) (hB1 : B ≤ L + 1) (hL2 : L ≤ 4096) (p0 : i ≤ A) (p1 : L < A + 1) :
    Calls Try.prog 46 #[.pointer (some ⟨g, 0, none⟩), .agg #[.int .u8 k, .int .i64 (f : Nat), .int .i64 dst, .int .i64 tm, .int .i64 (i : Nat), .int .i64 lt, .slice a n c, .int .i64 cm, .bool true]] w (DidPost g v w (agreed (toldUp s f i)) []) := by
  have hN : max (s.mat f) i = A := by rw [hA]; omega
  have hS : toldUp s f i = { s with mat := upd s.mat f (A), next := upd s.next f (A + 1) } := by unfold toldUp; rw [hN]
  have d2 : decide ((L : Int) < i) = false := by simp; omega
  have d2n : decide (L < i) = false := by simp; omega
  have hB := (Below.refl _ w).alloc (Nat.le_refl _) (.cells #[.int .u8 k, .int .i64 (f : Nat), .int .i64 dst, .int .i64 tm, .int .i64 (i : Nat), .int .i64 lt, .slice a n c, .int .i64 cm, .bool true] 34)
  have h1 := h.below hB
  have hbx := heap_alloc_new w (.cells #[.int .u8 k, .int .i64 (f : Nat), .int .i64 dst, .int .i64 tm, .int .i64 (i : Nat), .int .i64 lt, .slice a n c, .int .i64 cm, .bool true] 34)
  have cl := fun W (hW : Is W g s v) => last_is g s v W hW
  rw [hL] at cl
  obtain ⟨x2, f2⟩ := h.term
  obtain ⟨x5, f5⟩ := h.role
  rw [hT] at x2
  rw [hR] at x5
  have hlt := h.lt
  clear hT hR
  have d0 : ((2 : Int) != 2) = false := by decide
  go_enter Try.func46, Try.ntmps46
  go_wp2_with fail
  go_quiet ((go_at_call 40; exact Calls.quiet_of_same ((cl _ (by first | exact h1.drewN _ | exact h1)).mono (fun e w' he => ⟨he.1, he.2.symm⟩))))
  go_wp2_with fail
  have hbx2 := hbx
  generalize hW : (w.alloc (.cells #[.int .u8 k, .int .i64 (f : Nat), .int .i64 dst, .int .i64 tm, .int .i64 (i : Nat), .int .i64 lt, .slice a n c, .int .i64 cm, .bool true] 34)) = W0 at *
  have h2 := h1.drewN nq
  have hO2 : Only (fun k => k = g) w (W0.drewN nq) := (Only.of_below hB).drewN nq
  replace hbx2 : (W0.drewN nq).heap[w.heap.size]? = _ := hbx2
  have hblt : w.heap.size < (W0.drewN nq).heap.size := (Array.getElem?_eq_some_iff.1 hbx2).1
  generalize (W0.drewN nq) = W at *
  clear hW hB h1 hbx x2 f2 x5 f5
  have y4 : W.cell? ⟨w.heap.size, 4, none⟩ = some (.int .i64 (i : Nat)) := by simp [World.cell?, hbx2]
  obtain ⟨yn, fn⟩ := h2.nexts hf
  obtain ⟨ym, fm⟩ := h2.mats hf
  have hgn : ¬ g = w.heap.size := by omega
  have hf7 : (f : Int) < 7 := by omega
  rw [hA] at ym
  rw [hB0] at yn
  have q0 : (i : Int) ≤ A := by omega
  have hw1 : ((A : Int) : Int) ≤ 4096 := by omega
  have h3 := h2.set (s' := { s with mat := upd s.mat f (A) }) rfl (16 + f) (.int .i64 (A : Nat)) (rc_mat s v hf (A))
  have hO3 := Only.set (S := fun k => k = g) hO2 (p := ⟨g, 16 + f, none⟩) (.inl rfl) (.int .i64 (A : Nat))
  have F3 : Fit (toldUp s f i) := ⟨F.nodes, F.len, F.commit, fun j => by rw [hS]; have := F.mat j; have := F.mat f; simp only [upd]; split <;> omega, fun j => by rw [hS]; have := F.next j; have := F.mat f; simp only [upd]; split <;> omega⟩
  have HX := Lib.hid (show (agreed (toldUp s f i)).next f = A + 1 ∧ (agreed (toldUp s f i)).log.length = L from ⟨by rw [agreed_next, hS]; exact upd_same _ _ _, by show (toldUp s f i).log.length = L; rw [hS]; exact hL⟩)
  have HS := Lib.hid hS
  clear hA hB0 hN hS hL
  go_region
  have h4 : Is (World.drew (W.setCell ⟨g, 16 + f, none⟩ (.int .i64 (A : Int)))) g { s with mat := upd s.mat f (A) } v := h3.drewN 1
  have hO4 : Only (fun k => k = g) w (World.drew (W.setCell ⟨g, 16 + f, none⟩ (.int .i64 (A : Int)))) := hO3.drewN 1
  generalize hW4 : (World.drew (W.setCell ⟨g, 16 + f, none⟩ (.int .i64 (A : Int)))) = W4 at *
  clear hW4 h3 hO3 h2 hO2 hbx2 yn fn ym fm y4 hblt
  obtain ⟨yn, fn⟩ := h4.nexts hf
  have ym : W4.cell? ⟨g, 16 + f, none⟩ = some (.int .i64 (A : Nat)) := by have := (h4.mats hf).1; simp only [upd_same] at this; exact this
  have h5 := h4.set (s' := { s with mat := upd s.mat f (A), next := upd s.next f (A + 1) }) rfl (9 + f) (.int .i64 (A + 1 : Nat)) (rc_next { s with mat := upd s.mat f (A) } v hf (A + 1))
  have hO5 := Only.set (S := fun k => k = g) hO4 (p := ⟨g, 9 + f, none⟩) (.inl rfl) (.int .i64 (A + 1 : Nat))
  push_cast at h5 hO5
  rw [← HS.out] at h5
  go_wp2_with fail
  go_region
  have h6 : Is (World.drew (W4.setCell ⟨g, 9 + f, none⟩ (.int .i64 ((A : Int) + 1)))) g (toldUp s f i) v := h5.drewN 1
  have hO6 : Only (fun k => k = g) w (World.drew (W4.setCell ⟨g, 9 + f, none⟩ (.int .i64 ((A : Int) + 1)))) := hO5.drewN 1
  generalize hW6 : (World.drew (W4.setCell ⟨g, 9 + f, none⟩ (.int .i64 ((A : Int) + 1)))) = W6 at *
  clear hW6 h4 hO4 h5 hO5 yn fn ym HS
  go_wp2_with fail
  refine (agree_is g (toldUp s f i) v F3 _ h6).mono ?_
  rintro e w7 ⟨rfl, hI7, hO7⟩
  have h7 : Is w7 g (agreed (toldUp s f i)) v := hI7
  have hO8 := hO6.trans hO7
  have F7 := F3.agreed
  clear hI7 h6 hO6 hO7 F3
  generalize agreed (toldUp s f i) = s7 at *
  have yn : w7.cell? ⟨g, 9 + f, none⟩ = some (.int .i64 (A + 1 : Nat)) := by have := (h7.nexts hf).1; rw [HX.out.1] at this; exact this
  have cl7 := fun W (hW : Is W g s7 v) => last_is g s7 v W hW
  rw [HX.out.2] at cl7
  have e1 : decide (L < A + 1) = true := by simp; omega
  have e2 : decide ((L : Int) < (A : Int) + 1) = true := by simp; omega
  push_cast at yn
  clear cl
  go_wp2_with fail
  go_quiet ((go_at_call 40; exact Calls.quiet_of_same ((cl7 _ (by first | exact h7.drewN _ | exact h7)).mono (fun e w' he => ⟨he.1, he.2.symm⟩))))
  go_wp2_with fail
  go_ret
  exact ⟨_, rfl, Did.none (h7.drewN _) (hO8.drewN _) hlt⟩

set_option maxRecDepth 100000 in
set_option maxHeartbeats 2000000 in
theorem told_yes_qy (g : Nat) (s : Srv) (v : Value) (F : Fit s) (L : Nat) (T : Int) (hR : s.role = 2) (hT : s.term = T) (hL : s.log.length = L) (k f i : Nat) (hf : f < 7) (hi : i ≤ L) (dst tm lt cm : Int) (a : Option Addr) (n c : Nat) (w : World) (h : Is w g s v) (d1 : (tm != T) = false) (A B : Nat) (hA : s.mat f = A) (hB0 : s.next f = B) (hA1 : A < B) (hB1 : B ≤ L + 1) (hL2 : L ≤ 4096) (p0 : i ≤ A) (p1 : A + 1 ≤ L) :
    Calls Try.prog 46 #[.pointer (some ⟨g, 0, none⟩), .agg #[.int .u8 k, .int .i64 (f : Nat), .int .i64 dst, .int .i64 tm, .int .i64 (i : Nat), .int .i64 lt, .slice a n c, .int .i64 cm, .bool true]] w (DidPost g v w (agreed (toldUp s f i)) [sendTo (agreed (toldUp s f i)) f]) := by
  have hN : max (s.mat f) i = A := by rw [hA]; omega
  have hS : toldUp s f i = { s with mat := upd s.mat f (A), next := upd s.next f (A + 1) } := by unfold toldUp; rw [hN]
  have d2 : decide ((L : Int) < i) = false := by simp; omega
  have d2n : decide (L < i) = false := by simp; omega
  have hB := (Below.refl _ w).alloc (Nat.le_refl _) (.cells #[.int .u8 k, .int .i64 (f : Nat), .int .i64 dst, .int .i64 tm, .int .i64 (i : Nat), .int .i64 lt, .slice a n c, .int .i64 cm, .bool true] 34)
  have h1 := h.below hB
  have hbx := heap_alloc_new w (.cells #[.int .u8 k, .int .i64 (f : Nat), .int .i64 dst, .int .i64 tm, .int .i64 (i : Nat), .int .i64 lt, .slice a n c, .int .i64 cm, .bool true] 34)
  have cl := fun W (hW : Is W g s v) => last_is g s v W hW
  rw [hL] at cl
  obtain ⟨x2, f2⟩ := h.term
  obtain ⟨x5, f5⟩ := h.role
  rw [hT] at x2
  rw [hR] at x5
  have hlt := h.lt
  clear hT hR
  have d0 : ((2 : Int) != 2) = false := by decide
  go_enter Try.func46, Try.ntmps46
  go_wp2_with fail
  go_quiet ((go_at_call 40; exact Calls.quiet_of_same ((cl _ (by first | exact h1.drewN _ | exact h1)).mono (fun e w' he => ⟨he.1, he.2.symm⟩))))
  go_wp2_with fail
  have hbx2 := hbx
  generalize hW : (w.alloc (.cells #[.int .u8 k, .int .i64 (f : Nat), .int .i64 dst, .int .i64 tm, .int .i64 (i : Nat), .int .i64 lt, .slice a n c, .int .i64 cm, .bool true] 34)) = W0 at *
  have h2 := h1.drewN nq
  have hO2 : Only (fun k => k = g) w (W0.drewN nq) := (Only.of_below hB).drewN nq
  replace hbx2 : (W0.drewN nq).heap[w.heap.size]? = _ := hbx2
  have hblt : w.heap.size < (W0.drewN nq).heap.size := (Array.getElem?_eq_some_iff.1 hbx2).1
  generalize (W0.drewN nq) = W at *
  clear hW hB h1 hbx x2 f2 x5 f5
  have y4 : W.cell? ⟨w.heap.size, 4, none⟩ = some (.int .i64 (i : Nat)) := by simp [World.cell?, hbx2]
  obtain ⟨yn, fn⟩ := h2.nexts hf
  obtain ⟨ym, fm⟩ := h2.mats hf
  have hgn : ¬ g = w.heap.size := by omega
  have hf7 : (f : Int) < 7 := by omega
  rw [hA] at ym
  rw [hB0] at yn
  have q0 : (i : Int) ≤ A := by omega
  have hw1 : ((A : Int) : Int) ≤ 4096 := by omega
  have h3 := h2.set (s' := { s with mat := upd s.mat f (A) }) rfl (16 + f) (.int .i64 (A : Nat)) (rc_mat s v hf (A))
  have hO3 := Only.set (S := fun k => k = g) hO2 (p := ⟨g, 16 + f, none⟩) (.inl rfl) (.int .i64 (A : Nat))
  have F3 : Fit (toldUp s f i) := ⟨F.nodes, F.len, F.commit, fun j => by rw [hS]; have := F.mat j; have := F.mat f; simp only [upd]; split <;> omega, fun j => by rw [hS]; have := F.next j; have := F.mat f; simp only [upd]; split <;> omega⟩
  have HX := Lib.hid (show (agreed (toldUp s f i)).next f = A + 1 ∧ (agreed (toldUp s f i)).log.length = L from ⟨by rw [agreed_next, hS]; exact upd_same _ _ _, by show (toldUp s f i).log.length = L; rw [hS]; exact hL⟩)
  have HS := Lib.hid hS
  clear hA hB0 hN hS hL
  go_region
  have h4 : Is (World.drew (W.setCell ⟨g, 16 + f, none⟩ (.int .i64 (A : Int)))) g { s with mat := upd s.mat f (A) } v := h3.drewN 1
  have hO4 : Only (fun k => k = g) w (World.drew (W.setCell ⟨g, 16 + f, none⟩ (.int .i64 (A : Int)))) := hO3.drewN 1
  generalize hW4 : (World.drew (W.setCell ⟨g, 16 + f, none⟩ (.int .i64 (A : Int)))) = W4 at *
  clear hW4 h3 hO3 h2 hO2 hbx2 yn fn ym fm y4 hblt
  obtain ⟨yn, fn⟩ := h4.nexts hf
  have ym : W4.cell? ⟨g, 16 + f, none⟩ = some (.int .i64 (A : Nat)) := by have := (h4.mats hf).1; simp only [upd_same] at this; exact this
  have h5 := h4.set (s' := { s with mat := upd s.mat f (A), next := upd s.next f (A + 1) }) rfl (9 + f) (.int .i64 (A + 1 : Nat)) (rc_next { s with mat := upd s.mat f (A) } v hf (A + 1))
  have hO5 := Only.set (S := fun k => k = g) hO4 (p := ⟨g, 9 + f, none⟩) (.inl rfl) (.int .i64 (A + 1 : Nat))
  push_cast at h5 hO5
  rw [← HS.out] at h5
  go_wp2_with fail
  go_region
  have h6 : Is (World.drew (W4.setCell ⟨g, 9 + f, none⟩ (.int .i64 ((A : Int) + 1)))) g (toldUp s f i) v := h5.drewN 1
  have hO6 : Only (fun k => k = g) w (World.drew (W4.setCell ⟨g, 9 + f, none⟩ (.int .i64 ((A : Int) + 1)))) := hO5.drewN 1
  generalize hW6 : (World.drew (W4.setCell ⟨g, 9 + f, none⟩ (.int .i64 ((A : Int) + 1)))) = W6 at *
  clear hW6 h4 hO4 h5 hO5 yn fn ym HS
  go_wp2_with fail
  refine (agree_is g (toldUp s f i) v F3 _ h6).mono ?_
  rintro e w7 ⟨rfl, hI7, hO7⟩
  have h7 : Is w7 g (agreed (toldUp s f i)) v := hI7
  have hO8 := hO6.trans hO7
  have F7 := F3.agreed
  clear hI7 h6 hO6 hO7 F3
  generalize agreed (toldUp s f i) = s7 at *
  have yn : w7.cell? ⟨g, 9 + f, none⟩ = some (.int .i64 (A + 1 : Nat)) := by have := (h7.nexts hf).1; rw [HX.out.1] at this; exact this
  have cl7 := fun W (hW : Is W g s7 v) => last_is g s7 v W hW
  rw [HX.out.2] at cl7
  have e1 : decide (L < A + 1) = false := by simp; omega
  have e2 : decide ((L : Int) < (A : Int) + 1) = false := by simp; omega
  push_cast at yn
  clear cl
  go_wp2_with fail
  go_quiet ((go_at_call 40; exact Calls.quiet_of_same ((cl7 _ (by first | exact h7.drewN _ | exact h7)).mono (fun e w' he => ⟨he.1, he.2.symm⟩))))
  go_wp2_with fail
  have h8 := fun q => h7.drewN q
  refine (send_is g s7 v f hf F7 (by rw [HX.out.1]; omega) (by rw [HX.out.1, HX.out.2]; omega) _ (h7.drewN _)).mono ?_
  rintro e w9 ⟨v9, rfl, ho9, hB9⟩
  obtain ⟨a9, c9, rfl⟩ := own_slice ho9
  generalize hD : sendTo s7 f = D at *
  clear hD
  simp only [mc]
  go_wp2_with fail
  go_ret
  exact ⟨_, rfl, asked_end (h7.drewN _) (hO8.drewN _) hlt (Out.one' hB9.size ho9) (hB9.alloc hB9.size _)⟩


theorem told_is (g : Nat) (s : Srv) (v : Value) (m : Msg) (a : Option Addr) (n c : Nat) (hk : Ok s) (hs : 0 ≤ m.src ∧ m.src < s.nodes ∧ m.src ≠ s.id) (hi : 0 ≤ m.index ∧ m.index ≤ 4096) (w : World) (h : Is w g s v) :
    Calls Try.prog 46 #[.pointer (some ⟨g, 0, none⟩), .agg (mc m (.slice a n c))] w (DidPost g v w (toldS s m) (toldM s m)) := by
  obtain ⟨k, src, dst, tm, ix, lt, es, cm, ok⟩ := m
  obtain ⟨hs1, hs2, hs3⟩ := hs
  obtain ⟨hi1, hi2⟩ := hi
  dsimp only at hs1 hs2 hs3 hi1 hi2
  have F := hk.fit
  have hn := hk.nodes
  have hl := hk.len
  show Calls Try.prog 46 #[.pointer (some ⟨g, 0, none⟩), .agg #[.int .u8 k, .int .i64 src, .int .i64 dst, .int .i64 tm, .int .i64 ix, .int .i64 lt, .slice a n c, .int .i64 cm, .bool ok]] w _
  unfold toldS toldM
  generalize hG : toldOn s ⟨k, src, dst, tm, ix, lt, es, cm, ok⟩ = G
  unfold toldOn at hG
  dsimp only at hG ⊢
  by_cases r1 : s.role = 2
  rotate_left
  · have hG2 : G = false := by rw [← hG]; simp [r1]
    subst hG2
    exact told_a g s v _ _ _ rfl rfl rfl k src dst tm ix lt cm ok a n c w h (by simp; omega)
  by_cases t1 : tm = s.term
  rotate_left
  · have hG2 : G = false := by rw [← hG]; simp [t1]
    subst hG2
    exact told_b g s v _ _ _ rfl rfl rfl k src dst tm ix lt cm ok a n c w h (by simp [r1]) (by simp [t1])
  obtain ⟨f, rfl⟩ : ∃ f : Nat, src = f := ⟨src.toNat, by omega⟩
  obtain ⟨i, rfl⟩ : ∃ i : Nat, ix = i := ⟨ix.toNat, by omega⟩
  have hx := hk.next r1 f (by omega) (by omega)
  simp only [Int.toNat_natCast]
  cases ok with
  | false =>
    have hG2 : G = true := by rw [← hG]; simp [r1, t1]
    subst hG2
    simp only [if_true, Bool.false_eq_true, if_false]
    by_cases p0 : s.next f ≤ i + 1
    · by_cases p1 : s.mat f + 1 < s.next f
      · exact told_no_p g s v F _ _ r1 rfl rfl k f i (by omega) (by omega) dst tm lt cm a n c w h (by simp [t1]) _ _ rfl rfl hx.2.2 hx.2.1 hl p0 p1
      · exact told_no_q g s v F _ _ r1 rfl rfl k f i (by omega) (by omega) dst tm lt cm a n c w h (by simp [t1]) _ _ rfl rfl hx.2.2 hx.2.1 hl p0 (by omega)
    · by_cases p1 : s.mat f + 1 < i + 1
      · exact told_no_r g s v F _ _ r1 rfl rfl k f i (by omega) (by omega) dst tm lt cm a n c w h (by simp [t1]) _ _ rfl rfl hx.2.2 hx.2.1 hl (by omega) p1
      · exact told_no_s g s v F _ _ r1 rfl rfl k f i (by omega) (by omega) dst tm lt cm a n c w h (by simp [t1]) _ _ rfl rfl hx.2.2 hx.2.1 hl (by omega) (by omega)
  | true =>
    by_cases l1 : (s.log.length : Int) < i
    · have hG2 : G = false := by rw [← hG]; simp; intro _ _; omega
      subst hG2
      exact told_c g s v _ _ _ rfl rfl rfl k f dst tm i lt cm true a n c w h (by simp [r1]) (by simp [t1]) (by simp; omega)
    · have hG2 : G = true := by rw [← hG]; simp [r1, t1]; omega
      subst hG2
      simp only [if_true]
      by_cases p0 : s.mat f < i
      · rw [Nat.max_eq_right (by omega)]
        by_cases p1 : s.log.length < i + 1
        · rw [if_pos p1]
          exact told_yes_px g s v F _ _ r1 rfl rfl k f i (by omega) (by omega) dst tm lt cm a n c w h (by simp [t1]) _ _ rfl rfl hx.2.2 hx.2.1 hl p0 p1
        · rw [if_neg p1]
          exact told_yes_py g s v F _ _ r1 rfl rfl k f i (by omega) (by omega) dst tm lt cm a n c w h (by simp [t1]) _ _ rfl rfl hx.2.2 hx.2.1 hl p0 (by omega)
      · rw [Nat.max_eq_left (by omega)]
        by_cases p1 : s.log.length < s.mat f + 1
        · rw [if_pos p1]
          exact told_yes_qx g s v F _ _ r1 rfl rfl k f i (by omega) (by omega) dst tm lt cm a n c w h (by simp [t1]) _ _ rfl rfl hx.2.2 hx.2.1 hl (by omega) p1
        · rw [if_neg p1]
          exact told_yes_qy g s v F _ _ r1 rfl rfl k f i (by omega) (by omega) dst tm lt cm a n c w h (by simp [t1]) _ _ rfl rfl hx.2.2 hx.2.1 hl (by omega) (by omega)
end Rf
end Go.Proofs.Ytdacdkidjgbdoaa
