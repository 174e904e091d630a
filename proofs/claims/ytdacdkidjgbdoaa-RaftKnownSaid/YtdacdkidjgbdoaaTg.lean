/- The contract of raft's told. -/
import Derived.Test.YtdacdkidjgbdoaaTf
set_option linter.unusedVariables false
set_option linter.unusedSimpArgs false
namespace Go.Proofs.Ytdacdkidjgbdoaa
open Go Go.RowKit
namespace Rf
attribute [local go_sem ↓] Go.wp_at_zero Go.wp_at_succ

def toldNo (s : Srv) (k ix : Nat) : Srv := { s with next := upd s.next k (max (s.mat k + 1) (min (s.next k) (ix + 1))) }
def toldUp (s : Srv) (k ix : Nat) : Srv := { s with mat := upd s.mat k (max (s.mat k) ix), next := upd s.next k (max (s.mat k) ix + 1) }
def toldOn (s : Srv) (m : Msg) : Bool := decide (s.role = 2) && (decide (m.term = s.term) && !(m.ok && decide ((s.log.length : Int) < m.index)))
def toldS (s : Srv) (m : Msg) : Srv := if toldOn s m = true then (if m.ok = true then agreed (toldUp s m.src.toNat m.index.toNat) else toldNo s m.src.toNat m.index.toNat) else s
def toldM (s : Srv) (m : Msg) : List Msg :=
  if toldOn s m = true then (if m.ok = true then (if s.log.length < max (s.mat m.src.toNat) m.index.toNat + 1 then [] else [sendTo (agreed (toldUp s m.src.toNat m.index.toNat)) m.src.toNat])
    else [sendTo (toldNo s m.src.toNat m.index.toNat) m.src.toNat]) else []

theorem Out.one' {w : World} {base n c : Nat} {a : Option Addr} {m : Msg} (hb : base ≤ w.heap.size) (ho : w.ownsRow base 39 2 (.slice a n c) m.entries.length (ents m.entries)) :
    Out (w.alloc (.cells (mc m (.slice a n c)) 34)) base (.slice (some ⟨w.heap.size, 0, none⟩) 1 1) [m] := by
  refine ⟨[(m, .slice a n c)], rfl, ?_, fun p hp => ?_⟩
  · refine ⟨rfl, .inr ⟨w.heap.size, 1, mc m (.slice a n c), rfl, hb, heap_alloc_new w _, Nat.le_refl _, by unfold maxLen; simp, rfl, ?_⟩⟩
    simp [msgs, mc]
  · simp only [List.mem_singleton] at hp
    subst hp
    exact World.ownsRow.alloc ho _

set_option maxRecDepth 100000 in
set_option maxHeartbeats 2000000 in
theorem told_a (g : Nat) (s : Srv) (v : Value) (R L : Nat) (T : Int) (hR : s.role = R) (hT : s.term = T) (hL : s.log.length = L) (k : Nat) (src dst tm ix lt cm : Int) (ok : Bool) (a : Option Addr) (n c : Nat) (w : World) (h : Is w g s v) (d0 : ((R : Int) != 2) = true) :
    Calls Try.prog 46 #[.pointer (some ⟨g, 0, none⟩), .agg #[.int .u8 k, .int .i64 src, .int .i64 dst, .int .i64 tm, .int .i64 ix, .int .i64 lt, .slice a n c, .int .i64 cm, .bool ok]] w (DidPost g v w s []) := by
  have hB := (Below.refl _ w).alloc (Nat.le_refl _) (.cells #[.int .u8 k, .int .i64 src, .int .i64 dst, .int .i64 tm, .int .i64 ix, .int .i64 lt, .slice a n c, .int .i64 cm, .bool ok] 34)
  have h1 := h.below hB
  have cl := fun W (hW : Is W g s v) => last_is g s v W hW
  rw [hL] at cl
  obtain ⟨x2, f2⟩ := h.term
  obtain ⟨x5, f5⟩ := h.role
  rw [hT] at x2
  rw [hR] at x5
  have hlt := h.lt
  clear hT hR hL
  go_enter Try.func46, Try.ntmps46
  go_wp2_with fail
  go_quiet (fail)
  go_wp2_with fail
  go_ret
  exact ⟨_, rfl, Did.none (h1.drewN _) ((Only.of_below hB).drewN _) hlt⟩

set_option maxRecDepth 100000 in
set_option maxHeartbeats 2000000 in
theorem told_b (g : Nat) (s : Srv) (v : Value) (R L : Nat) (T : Int) (hR : s.role = R) (hT : s.term = T) (hL : s.log.length = L) (k : Nat) (src dst tm ix lt cm : Int) (ok : Bool) (a : Option Addr) (n c : Nat) (w : World) (h : Is w g s v) (d0 : ((R : Int) != 2) = false) (d1 : (tm != T) = true) :
    Calls Try.prog 46 #[.pointer (some ⟨g, 0, none⟩), .agg #[.int .u8 k, .int .i64 src, .int .i64 dst, .int .i64 tm, .int .i64 ix, .int .i64 lt, .slice a n c, .int .i64 cm, .bool ok]] w (DidPost g v w s []) := by
  have hB := (Below.refl _ w).alloc (Nat.le_refl _) (.cells #[.int .u8 k, .int .i64 src, .int .i64 dst, .int .i64 tm, .int .i64 ix, .int .i64 lt, .slice a n c, .int .i64 cm, .bool ok] 34)
  have h1 := h.below hB
  have cl := fun W (hW : Is W g s v) => last_is g s v W hW
  rw [hL] at cl
  obtain ⟨x2, f2⟩ := h.term
  obtain ⟨x5, f5⟩ := h.role
  rw [hT] at x2
  rw [hR] at x5
  have hlt := h.lt
  clear hT hR hL
  go_enter Try.func46, Try.ntmps46
  go_wp2_with fail
  go_quiet (fail)
  go_wp2_with fail
  go_ret
  exact ⟨_, rfl, Did.none (h1.drewN _) ((Only.of_below hB).drewN _) hlt⟩

set_option maxRecDepth 100000 in
set_option maxHeartbeats 2000000 in
theorem told_c (g : Nat) (s : Srv) (v : Value) (R L : Nat) (T : Int) (hR : s.role = R) (hT : s.term = T) (hL : s.log.length = L) (k : Nat) (src dst tm ix lt cm : Int) (ok : Bool) (a : Option Addr) (n c : Nat) (w : World) (h : Is w g s v) (d0 : ((R : Int) != 2) = false) (d1 : (tm != T) = false) (d2 : decide ((L : Int) < ix) = true) :
    Calls Try.prog 46 #[.pointer (some ⟨g, 0, none⟩), .agg #[.int .u8 k, .int .i64 src, .int .i64 dst, .int .i64 tm, .int .i64 ix, .int .i64 lt, .slice a n c, .int .i64 cm, .bool true]] w (DidPost g v w s []) := by
  have hB := (Below.refl _ w).alloc (Nat.le_refl _) (.cells #[.int .u8 k, .int .i64 src, .int .i64 dst, .int .i64 tm, .int .i64 ix, .int .i64 lt, .slice a n c, .int .i64 cm, .bool true] 34)
  have h1 := h.below hB
  have cl := fun W (hW : Is W g s v) => last_is g s v W hW
  rw [hL] at cl
  obtain ⟨x2, f2⟩ := h.term
  obtain ⟨x5, f5⟩ := h.role
  rw [hT] at x2
  rw [hR] at x5
  have hlt := h.lt
  clear hT hR hL
  go_enter Try.func46, Try.ntmps46
  go_wp2_with fail
  go_quiet ((go_at_call 40; exact Calls.quiet_of_same ((cl _ (by first | exact h1.drewN _ | exact h1)).mono (fun e w' he => ⟨he.1, he.2.symm⟩))))
  go_wp2_with fail
  go_ret
  exact ⟨_, rfl, Did.none (h1.drewN _) ((Only.of_below hB).drewN _) hlt⟩

set_option maxRecDepth 100000 in
set_option maxHeartbeats 2000000 in
theorem told_no_p (g : Nat) (s : Srv) (v : Value) (F : Fit s) (L : Nat) (T : Int) (hR : s.role = 2) (hT : s.term = T) (hL : s.log.length = L) (k f i : Nat) (hf : f < 7) (hi : i ≤ 4096) (dst tm lt cm : Int) (a : Option Addr) (n c : Nat) (w : World) (h : Is w g s v) (d1 : (tm != T) = false) (A B : Nat) (hA : s.mat f = A) (hB0 : s.next f = B) (hA1 : A < B) (hB1 : B ≤ L + 1) (hL2 : L ≤ 4096) (p0 : B ≤ i + 1) (p1 : A + 1 < B) :
    Calls Try.prog 46 #[.pointer (some ⟨g, 0, none⟩), .agg #[.int .u8 k, .int .i64 (f : Nat), .int .i64 dst, .int .i64 tm, .int .i64 (i : Nat), .int .i64 lt, .slice a n c, .int .i64 cm, .bool false]] w (DidPost g v w (toldNo s f i) [sendTo (toldNo s f i) f]) := by
  have hN : max (s.mat f + 1) (min (s.next f) (i + 1)) = B := by rw [hA, hB0]; omega
  have hS : toldNo s f i = { s with next := upd s.next f (B) } := by unfold toldNo; rw [hN]
  have hB := (Below.refl _ w).alloc (Nat.le_refl _) (.cells #[.int .u8 k, .int .i64 (f : Nat), .int .i64 dst, .int .i64 tm, .int .i64 (i : Nat), .int .i64 lt, .slice a n c, .int .i64 cm, .bool false] 34)
  have h1 := h.below hB
  have hbx := heap_alloc_new w (.cells #[.int .u8 k, .int .i64 (f : Nat), .int .i64 dst, .int .i64 tm, .int .i64 (i : Nat), .int .i64 lt, .slice a n c, .int .i64 cm, .bool false] 34)
  have cl := fun W (hW : Is W g s v) => last_is g s v W hW
  rw [hL] at cl
  obtain ⟨x2, f2⟩ := h.term
  obtain ⟨x5, f5⟩ := h.role
  rw [hT] at x2
  rw [hR] at x5
  have hlt := h.lt
  clear hT hR
  have d0 : ((2 : Int) != 2) = false := by decide
  go_enter Try.func46, Try.ntmps46
  go_wp2_with fail
  go_quiet (fail)
  go_wp2_with fail
  have hbx2 := hbx
  generalize hW : (w.alloc (.cells #[.int .u8 k, .int .i64 (f : Nat), .int .i64 dst, .int .i64 tm, .int .i64 (i : Nat), .int .i64 lt, .slice a n c, .int .i64 cm, .bool false] 34)) = W0 at *
  have h2 := h1.drewN nq
  have hO2 : Only (fun k => k = g) w (W0.drewN nq) := (Only.of_below hB).drewN nq
  replace hbx2 : (W0.drewN nq).heap[w.heap.size]? = _ := hbx2
  have hblt : w.heap.size < (W0.drewN nq).heap.size := (Array.getElem?_eq_some_iff.1 hbx2).1
  generalize (W0.drewN nq) = W at *
  clear hW hB h1 hbx x2 f2 x5 f5
  have y4 : W.cell? ⟨w.heap.size, 4, none⟩ = some (.int .i64 (i : Nat)) := by simp [World.cell?, hbx2]
  obtain ⟨yn, fn⟩ := h2.nexts hf
  obtain ⟨ym, fm⟩ := h2.mats hf
  have hgn : ¬ g = w.heap.size := by omega
  have hf7 : (f : Int) < 7 := by omega
  rw [hA] at ym
  rw [hB0] at yn
  have q0 : (B : Int) ≤ (i : Int) + 1 := by omega
  have q1 : (A : Int) + 1 < B := by omega
  have h3 := h2.set (s' := { s with next := upd s.next f (B) }) rfl (9 + f) (.int .i64 (B : Nat)) (rc_next s v hf (B))
  have hO3 := Only.set (S := fun k => k = g) hO2 (p := ⟨g, 9 + f, none⟩) (.inl rfl) (.int .i64 (B : Nat))
  push_cast at h3 hO3
  rw [← hS] at h3
  have HA := Lib.hid (show 1 ≤ (toldNo s f i).next f ∧ (toldNo s f i).next f ≤ (toldNo s f i).log.length + 1 from by rw [hS]; simp only [upd, if_pos]; rw [hL]; omega)
  have F3 : Fit (toldNo s f i) := ⟨F.nodes, F.len, F.commit, F.mat, fun j => by rw [hS]; have := F.next j; have := F.mat f; simp only [upd]; split <;> omega⟩
  clear hA hB0 hN hS hL
  go_region
  have h4 := h3.drewN 1
  have hO4 := hO3.drewN 1
  change Is (World.drew _) g _ _ at h4
  change Only _ _ (World.drew _) at hO4
  generalize hW4 : (World.drew (W.setCell ⟨g, 9 + f, none⟩ (.int .i64 (B : Int)))) = W4 at *
  clear hW4 h3 hO3 h2 hO2 hbx2 yn fn ym fm y4
  generalize hD : toldNo s f i = s3 at *
  clear hD
  go_wp2_with fail
  refine (send_is g s3 v f hf F3 HA.out.1 HA.out.2 _ h4).mono ?_
  rintro e w5 ⟨v5, rfl, ho5, hB5⟩
  obtain ⟨a5, c5, rfl⟩ := own_slice ho5
  generalize hD : sendTo s3 f = D at *
  clear hD
  simp only [mc]
  go_wp2_with fail
  go_ret
  exact ⟨_, rfl, asked_end h4 hO4 hlt (Out.one' hB5.size ho5) (hB5.alloc hB5.size _)⟩

set_option maxRecDepth 100000 in
set_option maxHeartbeats 2000000 in
theorem told_no_q (g : Nat) (s : Srv) (v : Value) (F : Fit s) (L : Nat) (T : Int) (hR : s.role = 2) (hT : s.term = T) (hL : s.log.length = L) (k f i : Nat) (hf : f < 7) (hi : i ≤ 4096) (dst tm lt cm : Int) (a : Option Addr) (n c : Nat) (w : World) (h : Is w g s v) (d1 : (tm != T) = false) (A B : Nat) (hA : s.mat f = A) (hB0 : s.next f = B) (hA1 : A < B) (hB1 : B ≤ L + 1) (hL2 : L ≤ 4096) (p0 : B ≤ i + 1) (p1 : B ≤ A + 1) :
    Calls Try.prog 46 #[.pointer (some ⟨g, 0, none⟩), .agg #[.int .u8 k, .int .i64 (f : Nat), .int .i64 dst, .int .i64 tm, .int .i64 (i : Nat), .int .i64 lt, .slice a n c, .int .i64 cm, .bool false]] w (DidPost g v w (toldNo s f i) [sendTo (toldNo s f i) f]) := by
  have hN : max (s.mat f + 1) (min (s.next f) (i + 1)) = A + 1 := by rw [hA, hB0]; omega
  have hS : toldNo s f i = { s with next := upd s.next f (A + 1) } := by unfold toldNo; rw [hN]
  have hB := (Below.refl _ w).alloc (Nat.le_refl _) (.cells #[.int .u8 k, .int .i64 (f : Nat), .int .i64 dst, .int .i64 tm, .int .i64 (i : Nat), .int .i64 lt, .slice a n c, .int .i64 cm, .bool false] 34)
  have h1 := h.below hB
  have hbx := heap_alloc_new w (.cells #[.int .u8 k, .int .i64 (f : Nat), .int .i64 dst, .int .i64 tm, .int .i64 (i : Nat), .int .i64 lt, .slice a n c, .int .i64 cm, .bool false] 34)
  have cl := fun W (hW : Is W g s v) => last_is g s v W hW
  rw [hL] at cl
  obtain ⟨x2, f2⟩ := h.term
  obtain ⟨x5, f5⟩ := h.role
  rw [hT] at x2
  rw [hR] at x5
  have hlt := h.lt
  clear hT hR
  have d0 : ((2 : Int) != 2) = false := by decide
  go_enter Try.func46, Try.ntmps46
  go_wp2_with fail
  go_quiet (fail)
  go_wp2_with fail
  have hbx2 := hbx
  generalize hW : (w.alloc (.cells #[.int .u8 k, .int .i64 (f : Nat), .int .i64 dst, .int .i64 tm, .int .i64 (i : Nat), .int .i64 lt, .slice a n c, .int .i64 cm, .bool false] 34)) = W0 at *
  have h2 := h1.drewN nq
  have hO2 : Only (fun k => k = g) w (W0.drewN nq) := (Only.of_below hB).drewN nq
  replace hbx2 : (W0.drewN nq).heap[w.heap.size]? = _ := hbx2
  have hblt : w.heap.size < (W0.drewN nq).heap.size := (Array.getElem?_eq_some_iff.1 hbx2).1
  generalize (W0.drewN nq) = W at *
  clear hW hB h1 hbx x2 f2 x5 f5
  have y4 : W.cell? ⟨w.heap.size, 4, none⟩ = some (.int .i64 (i : Nat)) := by simp [World.cell?, hbx2]
  obtain ⟨yn, fn⟩ := h2.nexts hf
  obtain ⟨ym, fm⟩ := h2.mats hf
  have hgn : ¬ g = w.heap.size := by omega
  have hf7 : (f : Int) < 7 := by omega
  rw [hA] at ym
  rw [hB0] at yn
  have q0 : (B : Int) ≤ (i : Int) + 1 := by omega
  have q1 : (B : Int) ≤ A + 1 := by omega
  have h3 := h2.set (s' := { s with next := upd s.next f (A + 1) }) rfl (9 + f) (.int .i64 (A + 1 : Nat)) (rc_next s v hf (A + 1))
  have hO3 := Only.set (S := fun k => k = g) hO2 (p := ⟨g, 9 + f, none⟩) (.inl rfl) (.int .i64 (A + 1 : Nat))
  push_cast at h3 hO3
  rw [← hS] at h3
  have HA := Lib.hid (show 1 ≤ (toldNo s f i).next f ∧ (toldNo s f i).next f ≤ (toldNo s f i).log.length + 1 from by rw [hS]; simp only [upd, if_pos]; rw [hL]; omega)
  have F3 : Fit (toldNo s f i) := ⟨F.nodes, F.len, F.commit, F.mat, fun j => by rw [hS]; have := F.next j; have := F.mat f; simp only [upd]; split <;> omega⟩
  clear hA hB0 hN hS hL
  go_region
  have h4 := h3.drewN 1
  have hO4 := hO3.drewN 1
  change Is (World.drew _) g _ _ at h4
  change Only _ _ (World.drew _) at hO4
  generalize hW4 : (World.drew (W.setCell ⟨g, 9 + f, none⟩ (.int .i64 ((A : Int) + 1)))) = W4 at *
  clear hW4 h3 hO3 h2 hO2 hbx2 yn fn ym fm y4
  generalize hD : toldNo s f i = s3 at *
  clear hD
  go_wp2_with fail
  refine (send_is g s3 v f hf F3 HA.out.1 HA.out.2 _ h4).mono ?_
  rintro e w5 ⟨v5, rfl, ho5, hB5⟩
  obtain ⟨a5, c5, rfl⟩ := own_slice ho5
  generalize hD : sendTo s3 f = D at *
  clear hD
  simp only [mc]
  go_wp2_with fail
  go_ret
  exact ⟨_, rfl, asked_end h4 hO4 hlt (Out.one' hB5.size ho5) (hB5.alloc hB5.size _)⟩

set_option maxRecDepth 100000 in
set_option maxHeartbeats 2000000 in
theorem told_no_r (g : Nat) (s : Srv) (v : Value) (F : Fit s) (L : Nat) (T : Int) (hR : s.role = 2) (hT : s.term = T) (hL : s.log.length = L) (k f i : Nat) (hf : f < 7) (hi : i ≤ 4096) (dst tm lt cm : Int) (a : Option Addr) (n c : Nat) (w : World) (h : Is w g s v) (d1 : (tm != T) = false) (A B : Nat) (hA : s.mat f = A) (hB0 : s.next f = B) (hA1 : A < B) (hB1 : B ≤ L + 1) (hL2 : L ≤ 4096) (p0 : i + 1 < B) (p1 : A + 1 < i + 1) :
    Calls Try.prog 46 #[.pointer (some ⟨g, 0, none⟩), .agg #[.int .u8 k, .int .i64 (f : Nat), .int .i64 dst, .int .i64 tm, .int .i64 (i : Nat), .int .i64 lt, .slice a n c, .int .i64 cm, .bool false]] w (DidPost g v w (toldNo s f i) [sendTo (toldNo s f i) f]) := by
  have hN : max (s.mat f + 1) (min (s.next f) (i + 1)) = i + 1 := by rw [hA, hB0]; omega
  have hS : toldNo s f i = { s with next := upd s.next f (i + 1) } := by unfold toldNo; rw [hN]
  have hB := (Below.refl _ w).alloc (Nat.le_refl _) (.cells #[.int .u8 k, .int .i64 (f : Nat), .int .i64 dst, .int .i64 tm, .int .i64 (i : Nat), .int .i64 lt, .slice a n c, .int .i64 cm, .bool false] 34)
  have h1 := h.below hB
  have hbx := heap_alloc_new w (.cells #[.int .u8 k, .int .i64 (f : Nat), .int .i64 dst, .int .i64 tm, .int .i64 (i : Nat), .int .i64 lt, .slice a n c, .int .i64 cm, .bool false] 34)
  have cl := fun W (hW : Is W g s v) => last_is g s v W hW
  rw [hL] at cl
  obtain ⟨x2, f2⟩ := h.term
  obtain ⟨x5, f5⟩ := h.role
  rw [hT] at x2
  rw [hR] at x5
  have hlt := h.lt
  clear hT hR
  have d0 : ((2 : Int) != 2) = false := by decide
  go_enter Try.func46, Try.ntmps46
  go_wp2_with fail
  go_quiet (fail)
  go_wp2_with fail
  have hbx2 := hbx
  generalize hW : (w.alloc (.cells #[.int .u8 k, .int .i64 (f : Nat), .int .i64 dst, .int .i64 tm, .int .i64 (i : Nat), .int .i64 lt, .slice a n c, .int .i64 cm, .bool false] 34)) = W0 at *
  have h2 := h1.drewN nq
  have hO2 : Only (fun k => k = g) w (W0.drewN nq) := (Only.of_below hB).drewN nq
  replace hbx2 : (W0.drewN nq).heap[w.heap.size]? = _ := hbx2
  have hblt : w.heap.size < (W0.drewN nq).heap.size := (Array.getElem?_eq_some_iff.1 hbx2).1
  generalize (W0.drewN nq) = W at *
  clear hW hB h1 hbx x2 f2 x5 f5
  have y4 : W.cell? ⟨w.heap.size, 4, none⟩ = some (.int .i64 (i : Nat)) := by simp [World.cell?, hbx2]
  obtain ⟨yn, fn⟩ := h2.nexts hf
  obtain ⟨ym, fm⟩ := h2.mats hf
  have hgn : ¬ g = w.heap.size := by omega
  have hf7 : (f : Int) < 7 := by omega
  rw [hA] at ym
  rw [hB0] at yn
  have q0 : (i : Int) + 1 < B := by omega
  have q1 : (A : Int) + 1 < i + 1 := by omega
  have h3 := h2.set (s' := { s with next := upd s.next f (i + 1) }) rfl (9 + f) (.int .i64 (i + 1 : Nat)) (rc_next s v hf (i + 1))
  have hO3 := Only.set (S := fun k => k = g) hO2 (p := ⟨g, 9 + f, none⟩) (.inl rfl) (.int .i64 (i + 1 : Nat))
  push_cast at h3 hO3
  rw [← hS] at h3
  have HA := Lib.hid (show 1 ≤ (toldNo s f i).next f ∧ (toldNo s f i).next f ≤ (toldNo s f i).log.length + 1 from by rw [hS]; simp only [upd, if_pos]; rw [hL]; omega)
  have F3 : Fit (toldNo s f i) := ⟨F.nodes, F.len, F.commit, F.mat, fun j => by rw [hS]; have := F.next j; have := F.mat f; simp only [upd]; split <;> omega⟩
  clear hA hB0 hN hS hL
  go_region
  have h4 := h3.drewN 1
  have hO4 := hO3.drewN 1
  change Is (World.drew _) g _ _ at h4
  change Only _ _ (World.drew _) at hO4
  generalize hW4 : (World.drew (W.setCell ⟨g, 9 + f, none⟩ (.int .i64 ((i : Int) + 1)))) = W4 at *
  clear hW4 h3 hO3 h2 hO2 hbx2 yn fn ym fm y4
  generalize hD : toldNo s f i = s3 at *
  clear hD
  go_wp2_with fail
  refine (send_is g s3 v f hf F3 HA.out.1 HA.out.2 _ h4).mono ?_
  rintro e w5 ⟨v5, rfl, ho5, hB5⟩
  obtain ⟨a5, c5, rfl⟩ := own_slice ho5
  generalize hD : sendTo s3 f = D at *
  clear hD
  simp only [mc]
  go_wp2_with fail
  go_ret
  exact ⟨_, rfl, asked_end h4 hO4 hlt (Out.one' hB5.size ho5) (hB5.alloc hB5.size _)⟩

set_option maxRecDepth 100000 in
set_option maxHeartbeats 2000000 in
theorem told_no_s (g : Nat) (s : Srv) (v : Value) (F : Fit s) (L : Nat) (T : Int) (hR : s.role = 2) (hT : s.term = T) (hL : s.log.length = L) (k f i : Nat) (hf : f < 7) (hi : i ≤ 4096) (dst tm lt cm : Int) (a : Option Addr) (n c : Nat) (w : World) (h : Is w g s v) (d1 : (tm != T) = false) (A B : Nat) (hA : s.mat f = A) (hB0 : s.next f = B) (hA1 : A < B) (hB1 : B ≤ L + 1) (hL2 : L ≤ 4096) (p0 : i + 1 < B) (p1 : i + 1 ≤ A + 1) :
    Calls Try.prog 46 #[.pointer (some ⟨g, 0, none⟩), .agg #[.int .u8 k, .int .i64 (f : Nat), .int .i64 dst, .int .i64 tm, .int .i64 (i : Nat), .int .i64 lt, .slice a n c, .int .i64 cm, .bool false]] w (DidPost g v w (toldNo s f i) [sendTo (toldNo s f i) f]) := by
  have hN : max (s.mat f + 1) (min (s.next f) (i + 1)) = A + 1 := by rw [hA, hB0]; omega
  have hS : toldNo s f i = { s with next := upd s.next f (A + 1) } := by unfold toldNo; rw [hN]
  have hB := (Below.refl _ w).alloc (Nat.le_refl _) (.cells #[.int .u8 k, .int .i64 (f : Nat), .int .i64 dst, .int .i64 tm, .int .i64 (i : Nat), .int .i64 lt, .slice a n c, .int .i64 cm, .bool false] 34)
  have h1 := h.below hB
  have hbx := heap_alloc_new w (.cells #[.int .u8 k, .int .i64 (f : Nat), .int .i64 dst, .int .i64 tm, .int .i64 (i : Nat), .int .i64 lt, .slice a n c, .int .i64 cm, .bool false] 34)
  have cl := fun W (hW : Is W g s v) => last_is g s v W hW
  rw [hL] at cl
  obtain ⟨x2, f2⟩ := h.term
  obtain ⟨x5, f5⟩ := h.role
  rw [hT] at x2
  rw [hR] at x5
  have hlt := h.lt
  clear hT hR
  have d0 : ((2 : Int) != 2) = false := by decide
  go_enter Try.func46, Try.ntmps46
  go_wp2_with fail
  go_quiet (fail)
  go_wp2_with fail
  have hbx2 := hbx
  generalize hW : (w.alloc (.cells #[.int .u8 k, .int .i64 (f : Nat), .int .i64 dst, .int .i64 tm, .int .i64 (i : Nat), .int .i64 lt, .slice a n c, .int .i64 cm, .bool false] 34)) = W0 at *
  have h2 := h1.drewN nq
  have hO2 : Only (fun k => k = g) w (W0.drewN nq) := (Only.of_below hB).drewN nq
  replace hbx2 : (W0.drewN nq).heap[w.heap.size]? = _ := hbx2
  have hblt : w.heap.size < (W0.drewN nq).heap.size := (Array.getElem?_eq_some_iff.1 hbx2).1
  generalize (W0.drewN nq) = W at *
  clear hW hB h1 hbx x2 f2 x5 f5
  have y4 : W.cell? ⟨w.heap.size, 4, none⟩ = some (.int .i64 (i : Nat)) := by simp [World.cell?, hbx2]
  obtain ⟨yn, fn⟩ := h2.nexts hf
  obtain ⟨ym, fm⟩ := h2.mats hf
  have hgn : ¬ g = w.heap.size := by omega
  have hf7 : (f : Int) < 7 := by omega
  rw [hA] at ym
  rw [hB0] at yn
  have q0 : (i : Int) + 1 < B := by omega
  have q1 : (i : Int) + 1 ≤ A + 1 := by omega
  have h3 := h2.set (s' := { s with next := upd s.next f (A + 1) }) rfl (9 + f) (.int .i64 (A + 1 : Nat)) (rc_next s v hf (A + 1))
  have hO3 := Only.set (S := fun k => k = g) hO2 (p := ⟨g, 9 + f, none⟩) (.inl rfl) (.int .i64 (A + 1 : Nat))
  push_cast at h3 hO3
  rw [← hS] at h3
  have HA := Lib.hid (show 1 ≤ (toldNo s f i).next f ∧ (toldNo s f i).next f ≤ (toldNo s f i).log.length + 1 from by rw [hS]; simp only [upd, if_pos]; rw [hL]; omega)
  have F3 : Fit (toldNo s f i) := ⟨F.nodes, F.len, F.commit, F.mat, fun j => by rw [hS]; have := F.next j; have := F.mat f; simp only [upd]; split <;> omega⟩
  clear hA hB0 hN hS hL
  go_region
  have h4 := h3.drewN 1
  have hO4 := hO3.drewN 1
  change Is (World.drew _) g _ _ at h4
  change Only _ _ (World.drew _) at hO4
  generalize hW4 : (World.drew (W.setCell ⟨g, 9 + f, none⟩ (.int .i64 ((A : Int) + 1)))) = W4 at *
  clear hW4 h3 hO3 h2 hO2 hbx2 yn fn ym fm y4
  generalize hD : toldNo s f i = s3 at *
  clear hD
  go_wp2_with fail
  refine (send_is g s3 v f hf F3 HA.out.1 HA.out.2 _ h4).mono ?_
  rintro e w5 ⟨v5, rfl, ho5, hB5⟩
  obtain ⟨a5, c5, rfl⟩ := own_slice ho5
  generalize hD : sendTo s3 f = D at *
  clear hD
  simp only [mc]
  go_wp2_with fail
  go_ret
  exact ⟨_, rfl, asked_end h4 hO4 hlt (Out.one' hB5.size ho5) (hB5.alloc hB5.size _)⟩

end Rf
end Go.Proofs.Ytdacdkidjgbdoaa
