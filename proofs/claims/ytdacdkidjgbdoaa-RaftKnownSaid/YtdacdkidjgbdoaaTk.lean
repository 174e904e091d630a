/- The contract of raft's appended, second part: what is taken. -/
import Derived.Test.YtdacdkidjgbdoaaTj
set_option linter.unusedVariables false
set_option linter.unusedSimpArgs false
namespace Go.Proofs.Ytdacdkidjgbdoaa
open Go Go.RowKit
namespace Rf
attribute [local go_sem ↓] Go.wp_at_zero Go.wp_at_succ

def withC (s : Srv) (x : Nat) : Srv := { s with commit := x }
theorem Hd.only {w w' : World} {g : Nat} {a : Option Addr} {l : List Ent} (h : Hd w a l) (hO : Only (fun k => k = g) w w') (hag : ∀ ad, a = some ad → ad.block ≠ g) : Hd w' a l := by
  refine ⟨h.none_, fun ad e => ?_⟩
  obtain ⟨k, h1, h2, h3⟩ := h.some_ ad e
  have hk : k ≠ g := by have := hag ad e; rw [h1] at this; exact this
  refine ⟨k, h1, Nat.lt_of_lt_of_le h2 hO.size, fun i e he => ?_⟩
  obtain ⟨x, y⟩ := h3 i e he
  have hb := hO.block k h2 hk
  exact ⟨(World.cell?_of_block (w := w) (a := ⟨k, i * 2, none⟩) hb).trans x, (World.cell?_of_block (w := w) (a := ⟨k, i * 2 + 1, none⟩) hb).trans y⟩
theorem diffN_ix (l : List Ent) (ix : Nat) (es : List Ent) (h : ix ≤ l.length) : ix + diffN l ix es ≤ l.length := by
  induction es generalizing ix with
  | nil => simpa [diffN] using h
  | cons e r ih => unfold diffN; split
                   · omega
                   · rename_i hc
                     have := ih (ix + 1) (by omega)
                     omega
set_option maxRecDepth 100000 in
set_option maxHeartbeats 1000000 in
theorem app_e (g : Nat) (s : Srv) (v : Value) (R L ix : Nat) (T : Int) (hR : s.role = R) (hT : s.term = T) (hL : s.log.length = L) (hL2 : L ≤ 4096) (hix : ix ≤ 4096) (k : Nat) (src dst tm lt cm : Int) (ok : Bool) (a : Option Addr) (n c : Nat) (w : World) (h : Is w g s v) (es : List Ent) (hn : n = es.length) (hn2 : (ix : Int) + n ≤ 4096) (hd : Hd w a es) (hag : ∀ ad, a = some ad → ad.block ≠ g) (C : Nat) (hC : s.commit = C) (hC2 : C ≤ L) (hcm : 0 ≤ cm) (d0 : decide (tm < T) = false) (d1 : ((R : Int) == 2) = false) (p0 : ix ≤ L) (p1 : tat s.log ix = lt) (q : diffN s.log ix es < n) (q1 : ix + diffN s.log ix es < C) :
    Calls Try.prog 45 #[.pointer (some ⟨g, 0, none⟩), .agg #[.int .u8 k, .int .i64 src, .int .i64 dst, .int .i64 tm, .int .i64 (ix : Nat), .int .i64 lt, .slice a n c, .int .i64 cm, .bool ok]] w (DidPost g v w (follow s src) []) := by
  have HN := Lib.hid hn
  clear hn
  have hB := (Below.refl _ w).alloc (Nat.le_refl _) (.cells #[.int .u8 k, .int .i64 src, .int .i64 dst, .int .i64 tm, .int .i64 (ix : Nat), .int .i64 lt, .slice a n c, .int .i64 cm, .bool ok] 34)
  have h1 := h.below hB
  have hbx := heap_alloc_new w (.cells #[.int .u8 k, .int .i64 src, .int .i64 dst, .int .i64 tm, .int .i64 (ix : Nat), .int .i64 lt, .slice a n c, .int .i64 cm, .bool ok] 34)
  obtain ⟨x2, f2⟩ := h.term
  obtain ⟨x5, f5⟩ := h.role
  rw [hT] at x2
  rw [hR] at x5
  have hlt := h.lt
  have hLs : (follow s src).log.length = L := hL
  have cl := fun W (hW : Is W g (follow s src) v) => last_is g (follow s src) v W hW
  have ct := fun W (hW : Is W g (follow s src) v) (hn : ix ≤ (follow s src).log.length) => term_is g (follow s src) v ix hn (by rw [hLs]; omega) W hW
  rw [hLs] at cl ct
  clear hT hR
  go_enter Try.func45, Try.ntmps45
  go_wp2_with fail
  go_quiet (fail)
  go_wp2_with fail
  have hbx2 := hbx
  generalize hW : (w.alloc (.cells #[.int .u8 k, .int .i64 src, .int .i64 dst, .int .i64 tm, .int .i64 (ix : Nat), .int .i64 lt, .slice a n c, .int .i64 cm, .bool ok] 34)) = W0 at *
  have h2 := h1.drewN nq
  have hO2 : Only (fun k => k = g) w (W0.drewN nq) := (Only.of_below hB).drewN nq
  replace hbx2 : (W0.drewN nq).heap[w.heap.size]? = _ := hbx2
  have hblt : w.heap.size < (W0.drewN nq).heap.size := (Array.getElem?_eq_some_iff.1 hbx2).1
  generalize (W0.drewN nq) = W at *
  clear hW hB h1 hbx x2 f2 x5 f5
  have y1 : W.cell? ⟨w.heap.size, 1, none⟩ = some (.int .i64 src) := by simp [World.cell?, hbx2]
  obtain ⟨y5, f5⟩ := h2.role
  obtain ⟨y6, f6⟩ := h2.leader
  have hgn : ¬ g = w.heap.size := by omega
  have h3 := (h2.set (s' := { s with role := 0 }) rfl 5 (.int .u8 0) rfl).set (s' := follow s src) rfl 6 (.int .i64 src) rfl
  have hO3 := Only.set (S := fun k => k = g) (Only.set (S := fun k => k = g) hO2 (p := ⟨g, 5, none⟩) (.inl rfl) (.int .u8 0)) (p := ⟨g, 6, none⟩) (.inl rfl) (.int .i64 src)
  have hbx3 := (Below.heap_setCell ((W.setCell ⟨g, 5, none⟩ (.int .u8 0))) ⟨g, 6, none⟩ (.int .i64 src) w.heap.size (Ne.symm hgn)).trans ((Below.heap_setCell W ⟨g, 5, none⟩ (.int .u8 0) w.heap.size (Ne.symm hgn)).trans hbx2)
  go_region
  have h4 : Is (((W.setCell ⟨g, 5, none⟩ (.int .u8 0)).setCell ⟨g, 6, none⟩ (.int .i64 src)).drew) g (follow s src) v := h3.drewN 1
  have hO4 : Only (fun k => k = g) w (((W.setCell ⟨g, 5, none⟩ (.int .u8 0)).setCell ⟨g, 6, none⟩ (.int .i64 src)).drew) := hO3.drewN 1
  replace hbx3 : (((W.setCell ⟨g, 5, none⟩ (.int .u8 0)).setCell ⟨g, 6, none⟩ (.int .i64 src)).drew).heap[w.heap.size]? = _ := hbx3
  generalize hW4 : (((W.setCell ⟨g, 5, none⟩ (.int .u8 0)).setCell ⟨g, 6, none⟩ (.int .i64 src)).drew) = W4 at *
  clear hW4 h2 h3 hO2 hO3 hbx2 y1 y5 f5 y6 f6 hblt
  have m4 : W4.cell? ⟨w.heap.size, 4, none⟩ = some (.int .i64 (ix : Nat)) := by simp [World.cell?, hbx3]
  have m5 : W4.cell? ⟨w.heap.size, 5, none⟩ = some (.int .i64 lt) := by simp [World.cell?, hbx3]
  go_wp2_with fail
  have hle : ix ≤ L := p0
  have e0 : decide (L < ix) = false := by simp; omega
  have e1 : (tat (follow s src).log ix != lt) = false := by simp; exact p1
  have hsC : (follow s src).commit = C := hC
  have hwr : IntKind.i64.wrap ((ix : Int) + n) = (ix : Int) + n := by rw [IntKind.wrap_i64] <;> omega
  have hdl := diffN_le s.log ix es
  have hdx := diffN_ix s.log ix es (by omega)
  rw [hL] at hdx
  have hn := HN.out
  rw [← hn] at hdl
  have cd := fun W (hW : Is W g (follow s src) v) (hB : Only (fun k => k = g) w W) => differs_is g (follow s src) v k src dst tm lt cm ix L es ok a c hLs hL2 hix (by omega) W hW (hd.only hB hag)
  rw [← hn] at cd
  clear hn
  generalize tat (follow s src).log ix = Y at ct e1
  have hlog : (follow s src).log = s.log := rfl
  rw [hlog] at cd
  clear hlog p1
  go_quiet ((first | (go_at_call 40; exact Calls.quiet_of_same ((cl _ (by first | exact h4.drewN _ | exact h4)).mono (fun e w' he => ⟨he.1, he.2.symm⟩))) | (go_at_call 41; exact Calls.quiet_of_same ((ct _ (by first | exact h4.drewN _ | exact h4) hle).mono (fun e w' he => ⟨he.1, he.2.symm⟩)))))
  go_wp2_with fail
  have h5 := h4.drewN nq
  have hO5 := hO4.drewN nq
  have hBe : Only (fun k => k = g) w (W4.drewN nq) := hO5
  replace hbx3 : (W4.drewN nq).heap[w.heap.size]? = _ := hbx3
  generalize (W4.drewN nq) = W5 at *
  clear h4 hO4 m4 m5
  have hblt : w.heap.size < W5.heap.size := (Array.getElem?_eq_some_iff.1 hbx3).1
  refine wp_region_held_drew (S := (fun w' => (Is w' g (follow s src) v ∧ Below W5.heap.size W5 w') ∧ w'.cell? ⟨w.heap.size, 0, none⟩ = some (.int .u8 k) ∧ w'.cell? ⟨w.heap.size, 1, none⟩ = some (.int .i64 src) ∧ w'.cell? ⟨w.heap.size, 2, none⟩ = some (.int .i64 dst) ∧ w'.cell? ⟨w.heap.size, 3, none⟩ = some (.int .i64 tm) ∧ w'.cell? ⟨w.heap.size, 4, none⟩ = some (.int .i64 (ix : Nat)) ∧ w'.cell? ⟨w.heap.size, 5, none⟩ = some (.int .i64 lt) ∧ w'.cell? ⟨w.heap.size, 6, none⟩ = some (.slice a n c) ∧ w'.cell? ⟨w.heap.size, 7, none⟩ = some (.int .i64 cm) ∧ w'.cell? ⟨w.heap.size, 8, none⟩ = some (.bool ok))) (by kernel_rfl) (keepM h5 hbx3 (Below.refl _ W5).drew) (fun hHeld => ?_)
  refine' wpAnyH_take (i := 0) (oi := ({ dst := some 57, op := Go.Op.move (Go.Operand.tmp 0), type := 22, pos := "raft.go:226", after := #[], guard := none } : Oper)) (v := ?v0) rfl (by kernel_rfl) (by kernel_rfl) (by kernel_rfl) (fun _ _ _ h => h) (Or.inl ⟨by rfl, ?y0⟩) hHeld ?r0
  case y0 => (intro w hSw; try dsimp only at hSw); go_simp; try with_reducible rfl
  case r0 =>
  try simp only [Act.put, List.setIfInBounds_toArray, List.set_cons_zero, List.set_cons_succ]
  refine' wpAnyH_take (i := 1) (oi := ({ dst := some 58, op := Go.Op.load 34 (Go.Operand.tmp 3), type := 34, pos := "raft.go:226", after := #[], guard := none } : Oper)) (v := ?v1) rfl (by kernel_rfl) (by kernel_rfl) (by kernel_rfl) (fun _ _ _ h => h) (Or.inl ⟨by rfl, ?y1⟩) hHeld ?r1
  case y1 => (intro w hSw; try dsimp only at hSw); go_simp; try with_reducible rfl
  case r1 =>
  try simp only [Act.put, List.setIfInBounds_toArray, List.set_cons_zero, List.set_cons_succ]
  refine' wpAnyH_take (i := 3) (oi := ({ dst := some 60, op := Go.Op.fieldAddr 34 (Go.Operand.tmp 3) 4, type := 0, pos := "raft.go:226", after := #[{ on := 9, ground := Go.Ground.gcOnly Go.Departure.lateStores }], guard := none } : Oper)) (v := ?v3) rfl (by kernel_rfl) (by kernel_rfl) (by kernel_rfl) (fun _ _ _ h => h) (Or.inl ⟨by rfl, ?y3⟩) hHeld ?r3
  case y3 => (intro w hSw; try dsimp only at hSw); go_simp; try with_reducible rfl
  case r3 =>
  try simp only [Act.put, List.setIfInBounds_toArray, List.set_cons_zero, List.set_cons_succ]
  refine' wpAnyH_take (i := 4) (oi := ({ dst := some 61, op := Go.Op.load 3 (Go.Operand.tmp 60), type := 3, pos := "raft.go:226", after := #[{ on := 3, ground := Go.Ground.data }, { on := 9, ground := Go.Ground.gcOnly Go.Departure.lateStores }], guard := none } : Oper)) (v := ?v4) rfl (by kernel_rfl) (by kernel_rfl) (by kernel_rfl) (fun _ _ _ h => h) (Or.inl ⟨by rfl, ?y4⟩) hHeld ?r4
  case y4 => (intro w hSw; try dsimp only at hSw); go_simp; try with_reducible rfl
  case r4 =>
  try simp only [Act.put, List.setIfInBounds_toArray, List.set_cons_zero, List.set_cons_succ]
  refine' wpAnyH_take (i := 5) (oi := ({ dst := some 62, op := Go.Op.fieldAddr 34 (Go.Operand.tmp 3) 6, type := 0, pos := "raft.go:226", after := #[], guard := none } : Oper)) (v := ?v5) rfl (by kernel_rfl) (by kernel_rfl) (by kernel_rfl) (fun _ _ _ h => h) (Or.inl ⟨by rfl, ?y5⟩) hHeld ?r5
  case y5 => (intro w hSw; try dsimp only at hSw); go_simp; try with_reducible rfl
  case r5 =>
  try simp only [Act.put, List.setIfInBounds_toArray, List.set_cons_zero, List.set_cons_succ]
  refine' wpAnyH_take (i := 6) (oi := ({ dst := some 63, op := Go.Op.load 27 (Go.Operand.tmp 62), type := 27, pos := "raft.go:226", after := #[{ on := 5, ground := Go.Ground.data }], guard := none } : Oper)) (v := ?v6) rfl (by kernel_rfl) (by kernel_rfl) (by kernel_rfl) (fun _ _ _ h => h) (Or.inl ⟨by rfl, ?y6⟩) hHeld ?r6
  case y6 => (intro w hSw; try dsimp only at hSw); go_simp; try with_reducible rfl
  case r6 =>
  try simp only [Act.put, List.setIfInBounds_toArray, List.set_cons_zero, List.set_cons_succ]
  refine' wpAnyH_take (i := 7) (oi := ({ dst := some 64, op := Go.Op.call { callee := Go.Callee.builtin Go.Builtin.len, args := #[Go.Operand.tmp 63], argTypes := #[27] }, type := 3, pos := "raft.go:226", after := #[{ on := 6, ground := Go.Ground.data }], guard := none } : Oper)) (v := ?v7) rfl (by kernel_rfl) (by kernel_rfl) (by kernel_rfl) (fun _ _ _ h => h) (Or.inl ⟨by rfl, ?y7⟩) hHeld ?r7
  case y7 => (intro w hSw; try dsimp only at hSw); go_simp; try with_reducible rfl
  case r7 =>
  try simp only [Act.put, List.setIfInBounds_toArray, List.set_cons_zero, List.set_cons_succ]
  refine' wpAnyH_take (i := 8) (oi := ({ dst := some 65, op := Go.Op.binOp Go.BinOp.add 3 (Go.Operand.tmp 61) (Go.Operand.tmp 64) 3, type := 3, pos := "raft.go:226", after := #[{ on := 4, ground := Go.Ground.data }, { on := 7, ground := Go.Ground.data }, { on := 9, ground := Go.Ground.gcOnly Go.Departure.lateStores }], guard := none } : Oper)) (v := ?v8) rfl (by kernel_rfl) (by kernel_rfl) (by kernel_rfl) (fun _ _ _ h => h) (Or.inl ⟨by rfl, ?y8⟩) hHeld ?r8
  case y8 => (intro w hSw; try dsimp only at hSw); go_simp; try with_reducible rfl
  case r8 =>
  try simp only [Act.put, List.setIfInBounds_toArray, List.set_cons_zero, List.set_cons_succ]
  refine wpAnyH_ready (rs := [2]) (by kernel_rfl) (by simp) ?_
  refine AllReadyH.cons rfl (fun K hK => ?_) AllReadyH.nil
  go_simp
  refine (cd _ hHeld.1.1 hO5.drew).mono ?_
  rintro e w6 ⟨rfl, hB6⟩
  have hB7 : Below W5.heap.size W5 w6 := ((Below.refl _ W5).drew).trans hB6
  have hbx6 := (hB7.block _ hblt).trans hbx3
  have h6 := h5.below hB7
  refine hK.out _ _ (keepM h5 hbx3 hB7) (fun hHeld => ?_)
  clear hK K
  try simp only [Act.put, List.setIfInBounds_toArray, List.set_cons_zero, List.set_cons_succ]
  refine' wpAnyH_take (i := 9) (oi := ({ dst := some 5, op := Go.Op.assign (Go.Operand.tmp 59), type := 3, pos := "raft.go:226", after := #[{ on := 2, ground := Go.Ground.data }, { on := 2, ground := Go.Ground.chain }, { on := 0, ground := Go.Ground.phase }, { on := 1, ground := Go.Ground.phase }, { on := 2, ground := Go.Ground.phase }, { on := 3, ground := Go.Ground.textOnly Go.Departure.lateStores }, { on := 4, ground := Go.Ground.textOnly Go.Departure.lateStores }, { on := 5, ground := Go.Ground.textOnly Go.Departure.lateStores }, { on := 6, ground := Go.Ground.textOnly Go.Departure.lateStores }, { on := 7, ground := Go.Ground.textOnly Go.Departure.lateStoresUnsure }, { on := 8, ground := Go.Ground.textOnly Go.Departure.lateStores }], guard := none } : Oper)) (v := ?v9) rfl (by kernel_rfl) (by kernel_rfl) (by kernel_rfl) (fun _ _ _ h => h) (Or.inl ⟨by rfl, ?y9⟩) hHeld ?r9
  case y9 => (intro w hSw; try dsimp only at hSw); go_simp; try with_reducible rfl
  case r9 =>
  try simp only [Act.put, List.setIfInBounds_toArray, List.set_cons_zero, List.set_cons_succ]
  refine' wpAnyH_take (i := 10) (oi := ({ dst := some 6, op := Go.Op.assign (Go.Operand.tmp 65), type := 3, pos := "raft.go:226", after := #[{ on := 8, ground := Go.Ground.data }, { on := 9, ground := Go.Ground.chain }, { on := 0, ground := Go.Ground.phase }, { on := 1, ground := Go.Ground.phase }, { on := 2, ground := Go.Ground.phase }, { on := 3, ground := Go.Ground.phase }, { on := 4, ground := Go.Ground.phase }, { on := 5, ground := Go.Ground.phase }, { on := 6, ground := Go.Ground.phase }, { on := 7, ground := Go.Ground.phase }, { on := 8, ground := Go.Ground.phase }, { on := 9, ground := Go.Ground.phase }], guard := none } : Oper)) (v := ?v10) rfl (by kernel_rfl) (by kernel_rfl) (by kernel_rfl) (fun _ _ _ h => h) (Or.inl ⟨by rfl, ?y10⟩) hHeld ?r10
  case y10 => (intro w hSw; try dsimp only at hSw); go_simp; try with_reducible rfl
  case r10 =>
  try simp only [Act.put, List.setIfInBounds_toArray, List.set_cons_zero, List.set_cons_succ]
  refine wpAnyH_done (by kernel_rfl) ?_ _
  try simp only [Act.put]
  go_simp
  have hO6 : Only (fun k => k = g) w w6 := hO5.trans (Only.of_below hB7)
  have n6 : w6.cell? ⟨w.heap.size, 6, none⟩ = some (.slice a n c) := by simp [World.cell?, hbx6]
  have n4 : w6.cell? ⟨w.heap.size, 4, none⟩ = some (.int .i64 (ix : Nat)) := by simp [World.cell?, hbx6]
  have n7 : w6.cell? ⟨w.heap.size, 7, none⟩ = some (.int .i64 cm) := by simp [World.cell?, hbx6]
  obtain ⟨z7, g7⟩ := h6.commit
  rw [hsC] at z7
  have hd6 := hd.only hO6 hag
  clear hd cd hB6 hB7 h5 hO5 hBe hbx3
  generalize diffN s.log ix es = D at *
  have f0 : decide (D < n) = true := by simp; omega
  have f1 : decide ((ix : Int) + D < C) = true := by simp; omega
  clear hL hLs hsC hC
  go_wp2_with fail
  go_ret
  exact ⟨_, rfl, Did.none h6 hO6 hlt⟩

set_option maxRecDepth 100000 in
set_option maxHeartbeats 1000000 in
theorem app_d (g : Nat) (s : Srv) (v : Value) (R L ix : Nat) (T : Int) (hR : s.role = R) (hT : s.term = T) (hL : s.log.length = L) (hL2 : L ≤ 4096) (hix : ix ≤ 4096) (k : Nat) (src dst tm lt cm : Int) (ok : Bool) (a : Option Addr) (n c : Nat) (w : World) (h : Is w g s v) (es : List Ent) (hn : n = es.length) (hn2 : (ix : Int) + n ≤ 4096) (hd : Hd w a es) (hag : ∀ ad, a = some ad → ad.block ≠ g) (C : Nat) (hC : s.commit = C) (hC2 : C ≤ L) (hcm : 0 ≤ cm) (d0 : decide (tm < T) = false) (d1 : ((R : Int) == 2) = false) (p0 : ix ≤ L) (p1 : tat s.log ix = lt) (q : diffN s.log ix es = n) :
    Calls Try.prog 45 #[.pointer (some ⟨g, 0, none⟩), .agg #[.int .u8 k, .int .i64 src, .int .i64 dst, .int .i64 tm, .int .i64 (ix : Nat), .int .i64 lt, .slice a n c, .int .i64 cm, .bool ok]] w (DidPost g v w (withC (follow s src) (max C (min cm.toNat (ix + n)))) [answerTo (follow s src) src 4 ((ix : Int) + n) true]) := by
  have HN := Lib.hid hn
  clear hn
  have hB := (Below.refl _ w).alloc (Nat.le_refl _) (.cells #[.int .u8 k, .int .i64 src, .int .i64 dst, .int .i64 tm, .int .i64 (ix : Nat), .int .i64 lt, .slice a n c, .int .i64 cm, .bool ok] 34)
  have h1 := h.below hB
  have hbx := heap_alloc_new w (.cells #[.int .u8 k, .int .i64 src, .int .i64 dst, .int .i64 tm, .int .i64 (ix : Nat), .int .i64 lt, .slice a n c, .int .i64 cm, .bool ok] 34)
  obtain ⟨x2, f2⟩ := h.term
  obtain ⟨x5, f5⟩ := h.role
  rw [hT] at x2
  rw [hR] at x5
  have hlt := h.lt
  have hLs : (follow s src).log.length = L := hL
  have cl := fun W (hW : Is W g (follow s src) v) => last_is g (follow s src) v W hW
  have ct := fun W (hW : Is W g (follow s src) v) (hn : ix ≤ (follow s src).log.length) => term_is g (follow s src) v ix hn (by rw [hLs]; omega) W hW
  rw [hLs] at cl ct
  clear hT hR
  go_enter Try.func45, Try.ntmps45
  go_wp2_with fail
  go_quiet (fail)
  go_wp2_with fail
  have hbx2 := hbx
  generalize hW : (w.alloc (.cells #[.int .u8 k, .int .i64 src, .int .i64 dst, .int .i64 tm, .int .i64 (ix : Nat), .int .i64 lt, .slice a n c, .int .i64 cm, .bool ok] 34)) = W0 at *
  have h2 := h1.drewN nq
  have hO2 : Only (fun k => k = g) w (W0.drewN nq) := (Only.of_below hB).drewN nq
  replace hbx2 : (W0.drewN nq).heap[w.heap.size]? = _ := hbx2
  have hblt : w.heap.size < (W0.drewN nq).heap.size := (Array.getElem?_eq_some_iff.1 hbx2).1
  generalize (W0.drewN nq) = W at *
  clear hW hB h1 hbx x2 f2 x5 f5
  have y1 : W.cell? ⟨w.heap.size, 1, none⟩ = some (.int .i64 src) := by simp [World.cell?, hbx2]
  obtain ⟨y5, f5⟩ := h2.role
  obtain ⟨y6, f6⟩ := h2.leader
  have hgn : ¬ g = w.heap.size := by omega
  have h3 := (h2.set (s' := { s with role := 0 }) rfl 5 (.int .u8 0) rfl).set (s' := follow s src) rfl 6 (.int .i64 src) rfl
  have hO3 := Only.set (S := fun k => k = g) (Only.set (S := fun k => k = g) hO2 (p := ⟨g, 5, none⟩) (.inl rfl) (.int .u8 0)) (p := ⟨g, 6, none⟩) (.inl rfl) (.int .i64 src)
  have hbx3 := (Below.heap_setCell ((W.setCell ⟨g, 5, none⟩ (.int .u8 0))) ⟨g, 6, none⟩ (.int .i64 src) w.heap.size (Ne.symm hgn)).trans ((Below.heap_setCell W ⟨g, 5, none⟩ (.int .u8 0) w.heap.size (Ne.symm hgn)).trans hbx2)
  go_region
  have h4 : Is (((W.setCell ⟨g, 5, none⟩ (.int .u8 0)).setCell ⟨g, 6, none⟩ (.int .i64 src)).drew) g (follow s src) v := h3.drewN 1
  have hO4 : Only (fun k => k = g) w (((W.setCell ⟨g, 5, none⟩ (.int .u8 0)).setCell ⟨g, 6, none⟩ (.int .i64 src)).drew) := hO3.drewN 1
  replace hbx3 : (((W.setCell ⟨g, 5, none⟩ (.int .u8 0)).setCell ⟨g, 6, none⟩ (.int .i64 src)).drew).heap[w.heap.size]? = _ := hbx3
  generalize hW4 : (((W.setCell ⟨g, 5, none⟩ (.int .u8 0)).setCell ⟨g, 6, none⟩ (.int .i64 src)).drew) = W4 at *
  clear hW4 h2 h3 hO2 hO3 hbx2 y1 y5 f5 y6 f6 hblt
  have m4 : W4.cell? ⟨w.heap.size, 4, none⟩ = some (.int .i64 (ix : Nat)) := by simp [World.cell?, hbx3]
  have m5 : W4.cell? ⟨w.heap.size, 5, none⟩ = some (.int .i64 lt) := by simp [World.cell?, hbx3]
  go_wp2_with fail
  have hle : ix ≤ L := p0
  have e0 : decide (L < ix) = false := by simp; omega
  have e1 : (tat (follow s src).log ix != lt) = false := by simp; exact p1
  have hsC : (follow s src).commit = C := hC
  have hwr : IntKind.i64.wrap ((ix : Int) + n) = (ix : Int) + n := by rw [IntKind.wrap_i64] <;> omega
  have hdl := diffN_le s.log ix es
  have hdx := diffN_ix s.log ix es (by omega)
  rw [hL] at hdx
  have hn := HN.out
  rw [← hn] at hdl
  have cd := fun W (hW : Is W g (follow s src) v) (hB : Only (fun k => k = g) w W) => differs_is g (follow s src) v k src dst tm lt cm ix L es ok a c hLs hL2 hix (by omega) W hW (hd.only hB hag)
  rw [← hn] at cd
  clear hn
  generalize tat (follow s src).log ix = Y at ct e1
  have hlog : (follow s src).log = s.log := rfl
  rw [hlog] at cd
  clear hlog p1
  go_quiet ((first | (go_at_call 40; exact Calls.quiet_of_same ((cl _ (by first | exact h4.drewN _ | exact h4)).mono (fun e w' he => ⟨he.1, he.2.symm⟩))) | (go_at_call 41; exact Calls.quiet_of_same ((ct _ (by first | exact h4.drewN _ | exact h4) hle).mono (fun e w' he => ⟨he.1, he.2.symm⟩)))))
  go_wp2_with fail
  have h5 := h4.drewN nq
  have hO5 := hO4.drewN nq
  have hBe : Only (fun k => k = g) w (W4.drewN nq) := hO5
  replace hbx3 : (W4.drewN nq).heap[w.heap.size]? = _ := hbx3
  generalize (W4.drewN nq) = W5 at *
  clear h4 hO4 m4 m5
  have hblt : w.heap.size < W5.heap.size := (Array.getElem?_eq_some_iff.1 hbx3).1
  refine wp_region_held_drew (S := (fun w' => (Is w' g (follow s src) v ∧ Below W5.heap.size W5 w') ∧ w'.cell? ⟨w.heap.size, 0, none⟩ = some (.int .u8 k) ∧ w'.cell? ⟨w.heap.size, 1, none⟩ = some (.int .i64 src) ∧ w'.cell? ⟨w.heap.size, 2, none⟩ = some (.int .i64 dst) ∧ w'.cell? ⟨w.heap.size, 3, none⟩ = some (.int .i64 tm) ∧ w'.cell? ⟨w.heap.size, 4, none⟩ = some (.int .i64 (ix : Nat)) ∧ w'.cell? ⟨w.heap.size, 5, none⟩ = some (.int .i64 lt) ∧ w'.cell? ⟨w.heap.size, 6, none⟩ = some (.slice a n c) ∧ w'.cell? ⟨w.heap.size, 7, none⟩ = some (.int .i64 cm) ∧ w'.cell? ⟨w.heap.size, 8, none⟩ = some (.bool ok))) (by kernel_rfl) (keepM h5 hbx3 (Below.refl _ W5).drew) (fun hHeld => ?_)
  refine' wpAnyH_take (i := 0) (oi := ({ dst := some 57, op := Go.Op.move (Go.Operand.tmp 0), type := 22, pos := "raft.go:226", after := #[], guard := none } : Oper)) (v := ?v0) rfl (by kernel_rfl) (by kernel_rfl) (by kernel_rfl) (fun _ _ _ h => h) (Or.inl ⟨by rfl, ?y0⟩) hHeld ?r0
  case y0 => (intro w hSw; try dsimp only at hSw); go_simp; try with_reducible rfl
  case r0 =>
  try simp only [Act.put, List.setIfInBounds_toArray, List.set_cons_zero, List.set_cons_succ]
  refine' wpAnyH_take (i := 1) (oi := ({ dst := some 58, op := Go.Op.load 34 (Go.Operand.tmp 3), type := 34, pos := "raft.go:226", after := #[], guard := none } : Oper)) (v := ?v1) rfl (by kernel_rfl) (by kernel_rfl) (by kernel_rfl) (fun _ _ _ h => h) (Or.inl ⟨by rfl, ?y1⟩) hHeld ?r1
  case y1 => (intro w hSw; try dsimp only at hSw); go_simp; try with_reducible rfl
  case r1 =>
  try simp only [Act.put, List.setIfInBounds_toArray, List.set_cons_zero, List.set_cons_succ]
  refine' wpAnyH_take (i := 3) (oi := ({ dst := some 60, op := Go.Op.fieldAddr 34 (Go.Operand.tmp 3) 4, type := 0, pos := "raft.go:226", after := #[{ on := 9, ground := Go.Ground.gcOnly Go.Departure.lateStores }], guard := none } : Oper)) (v := ?v3) rfl (by kernel_rfl) (by kernel_rfl) (by kernel_rfl) (fun _ _ _ h => h) (Or.inl ⟨by rfl, ?y3⟩) hHeld ?r3
  case y3 => (intro w hSw; try dsimp only at hSw); go_simp; try with_reducible rfl
  case r3 =>
  try simp only [Act.put, List.setIfInBounds_toArray, List.set_cons_zero, List.set_cons_succ]
  refine' wpAnyH_take (i := 4) (oi := ({ dst := some 61, op := Go.Op.load 3 (Go.Operand.tmp 60), type := 3, pos := "raft.go:226", after := #[{ on := 3, ground := Go.Ground.data }, { on := 9, ground := Go.Ground.gcOnly Go.Departure.lateStores }], guard := none } : Oper)) (v := ?v4) rfl (by kernel_rfl) (by kernel_rfl) (by kernel_rfl) (fun _ _ _ h => h) (Or.inl ⟨by rfl, ?y4⟩) hHeld ?r4
  case y4 => (intro w hSw; try dsimp only at hSw); go_simp; try with_reducible rfl
  case r4 =>
  try simp only [Act.put, List.setIfInBounds_toArray, List.set_cons_zero, List.set_cons_succ]
  refine' wpAnyH_take (i := 5) (oi := ({ dst := some 62, op := Go.Op.fieldAddr 34 (Go.Operand.tmp 3) 6, type := 0, pos := "raft.go:226", after := #[], guard := none } : Oper)) (v := ?v5) rfl (by kernel_rfl) (by kernel_rfl) (by kernel_rfl) (fun _ _ _ h => h) (Or.inl ⟨by rfl, ?y5⟩) hHeld ?r5
  case y5 => (intro w hSw; try dsimp only at hSw); go_simp; try with_reducible rfl
  case r5 =>
  try simp only [Act.put, List.setIfInBounds_toArray, List.set_cons_zero, List.set_cons_succ]
  refine' wpAnyH_take (i := 6) (oi := ({ dst := some 63, op := Go.Op.load 27 (Go.Operand.tmp 62), type := 27, pos := "raft.go:226", after := #[{ on := 5, ground := Go.Ground.data }], guard := none } : Oper)) (v := ?v6) rfl (by kernel_rfl) (by kernel_rfl) (by kernel_rfl) (fun _ _ _ h => h) (Or.inl ⟨by rfl, ?y6⟩) hHeld ?r6
  case y6 => (intro w hSw; try dsimp only at hSw); go_simp; try with_reducible rfl
  case r6 =>
  try simp only [Act.put, List.setIfInBounds_toArray, List.set_cons_zero, List.set_cons_succ]
  refine' wpAnyH_take (i := 7) (oi := ({ dst := some 64, op := Go.Op.call { callee := Go.Callee.builtin Go.Builtin.len, args := #[Go.Operand.tmp 63], argTypes := #[27] }, type := 3, pos := "raft.go:226", after := #[{ on := 6, ground := Go.Ground.data }], guard := none } : Oper)) (v := ?v7) rfl (by kernel_rfl) (by kernel_rfl) (by kernel_rfl) (fun _ _ _ h => h) (Or.inl ⟨by rfl, ?y7⟩) hHeld ?r7
  case y7 => (intro w hSw; try dsimp only at hSw); go_simp; try with_reducible rfl
  case r7 =>
  try simp only [Act.put, List.setIfInBounds_toArray, List.set_cons_zero, List.set_cons_succ]
  refine' wpAnyH_take (i := 8) (oi := ({ dst := some 65, op := Go.Op.binOp Go.BinOp.add 3 (Go.Operand.tmp 61) (Go.Operand.tmp 64) 3, type := 3, pos := "raft.go:226", after := #[{ on := 4, ground := Go.Ground.data }, { on := 7, ground := Go.Ground.data }, { on := 9, ground := Go.Ground.gcOnly Go.Departure.lateStores }], guard := none } : Oper)) (v := ?v8) rfl (by kernel_rfl) (by kernel_rfl) (by kernel_rfl) (fun _ _ _ h => h) (Or.inl ⟨by rfl, ?y8⟩) hHeld ?r8
  case y8 => (intro w hSw; try dsimp only at hSw); go_simp; try with_reducible rfl
  case r8 =>
  try simp only [Act.put, List.setIfInBounds_toArray, List.set_cons_zero, List.set_cons_succ]
  refine wpAnyH_ready (rs := [2]) (by kernel_rfl) (by simp) ?_
  refine AllReadyH.cons rfl (fun K hK => ?_) AllReadyH.nil
  go_simp
  refine (cd _ hHeld.1.1 hO5.drew).mono ?_
  rintro e w6 ⟨rfl, hB6⟩
  have hB7 : Below W5.heap.size W5 w6 := ((Below.refl _ W5).drew).trans hB6
  have hbx6 := (hB7.block _ hblt).trans hbx3
  have h6 := h5.below hB7
  refine hK.out _ _ (keepM h5 hbx3 hB7) (fun hHeld => ?_)
  clear hK K
  try simp only [Act.put, List.setIfInBounds_toArray, List.set_cons_zero, List.set_cons_succ]
  refine' wpAnyH_take (i := 9) (oi := ({ dst := some 5, op := Go.Op.assign (Go.Operand.tmp 59), type := 3, pos := "raft.go:226", after := #[{ on := 2, ground := Go.Ground.data }, { on := 2, ground := Go.Ground.chain }, { on := 0, ground := Go.Ground.phase }, { on := 1, ground := Go.Ground.phase }, { on := 2, ground := Go.Ground.phase }, { on := 3, ground := Go.Ground.textOnly Go.Departure.lateStores }, { on := 4, ground := Go.Ground.textOnly Go.Departure.lateStores }, { on := 5, ground := Go.Ground.textOnly Go.Departure.lateStores }, { on := 6, ground := Go.Ground.textOnly Go.Departure.lateStores }, { on := 7, ground := Go.Ground.textOnly Go.Departure.lateStoresUnsure }, { on := 8, ground := Go.Ground.textOnly Go.Departure.lateStores }], guard := none } : Oper)) (v := ?v9) rfl (by kernel_rfl) (by kernel_rfl) (by kernel_rfl) (fun _ _ _ h => h) (Or.inl ⟨by rfl, ?y9⟩) hHeld ?r9
  case y9 => (intro w hSw; try dsimp only at hSw); go_simp; try with_reducible rfl
  case r9 =>
  try simp only [Act.put, List.setIfInBounds_toArray, List.set_cons_zero, List.set_cons_succ]
  refine' wpAnyH_take (i := 10) (oi := ({ dst := some 6, op := Go.Op.assign (Go.Operand.tmp 65), type := 3, pos := "raft.go:226", after := #[{ on := 8, ground := Go.Ground.data }, { on := 9, ground := Go.Ground.chain }, { on := 0, ground := Go.Ground.phase }, { on := 1, ground := Go.Ground.phase }, { on := 2, ground := Go.Ground.phase }, { on := 3, ground := Go.Ground.phase }, { on := 4, ground := Go.Ground.phase }, { on := 5, ground := Go.Ground.phase }, { on := 6, ground := Go.Ground.phase }, { on := 7, ground := Go.Ground.phase }, { on := 8, ground := Go.Ground.phase }, { on := 9, ground := Go.Ground.phase }], guard := none } : Oper)) (v := ?v10) rfl (by kernel_rfl) (by kernel_rfl) (by kernel_rfl) (fun _ _ _ h => h) (Or.inl ⟨by rfl, ?y10⟩) hHeld ?r10
  case y10 => (intro w hSw; try dsimp only at hSw); go_simp; try with_reducible rfl
  case r10 =>
  try simp only [Act.put, List.setIfInBounds_toArray, List.set_cons_zero, List.set_cons_succ]
  refine wpAnyH_done (by kernel_rfl) ?_ _
  try simp only [Act.put]
  go_simp
  have hO6 : Only (fun k => k = g) w w6 := hO5.trans (Only.of_below hB7)
  have n6 : w6.cell? ⟨w.heap.size, 6, none⟩ = some (.slice a n c) := by simp [World.cell?, hbx6]
  have n4 : w6.cell? ⟨w.heap.size, 4, none⟩ = some (.int .i64 (ix : Nat)) := by simp [World.cell?, hbx6]
  have n7 : w6.cell? ⟨w.heap.size, 7, none⟩ = some (.int .i64 cm) := by simp [World.cell?, hbx6]
  obtain ⟨z7, g7⟩ := h6.commit
  rw [hsC] at z7
  have hd6 := hd.only hO6 hag
  clear hd cd hB6 hB7 h5 hO5 hBe hbx3
  have f0 : decide (n < n) = false := by simp
  have hval : (if (C : Int) < if (ix : Int) + n < cm then (ix : Int) + n else cm then if (ix : Int) + n < cm then (ix : Int) + n else cm else C) = ((max C (min cm.toNat (ix + n)) : Nat) : Int) := by (repeat' split) <;> omega
  have h7 : Is (w6.setCell ⟨g, 7, none⟩ (.int .i64 (max C (min cm.toNat (ix + n)) : Nat))) g (withC (follow s src) (max C (min cm.toNat (ix + n)))) v := h6.set (s' := withC (follow s src) (max C (min cm.toNat (ix + n)))) rfl 7 (.int .i64 (max C (min cm.toNat (ix + n)) : Nat)) rfl
  have hO7 := Only.set (S := fun k => k = g) hO6 (p := ⟨g, 7, none⟩) (.inl rfl) (.int .i64 (max C (min cm.toNat (ix + n)) : Nat))
  have hbx7 := (Below.heap_setCell w6 ⟨g, 7, none⟩ (.int .i64 (max C (min cm.toNat (ix + n)) : Nat)) w.heap.size (Ne.symm hgn)).trans hbx6
  generalize max C (min cm.toNat (ix + n)) = X at *
  clear hL hLs hsC hC q hdl hdx
  go_wp2_with fail
  go_region
  have h8 := h7.drewN 1
  have hO8 := hO7.drewN 1
  change Is (World.drew _) g _ _ at h8
  change Only _ _ (World.drew _) at hO8
  replace hbx7 : (World.drew (w6.setCell ⟨g, 7, none⟩ (.int .i64 (X : Nat)))).heap[w.heap.size]? = _ := hbx7
  generalize hW8 : (World.drew (w6.setCell ⟨g, 7, none⟩ (.int .i64 (X : Nat)))) = W8 at *
  clear hW8 h7 hO7 h6 hO6 hbx6 n6 n4 n7 z7 g7 hval hd6
  obtain ⟨m0, m1, m2, m3, m4, m5, m6, m7, m8⟩ := msg_cells (Below.refl W8.heap.size W8) rfl hbx7
  go_wp2_with fail
  all_goals
    refine (answer_is g (withC (follow s src) X) v ⟨k, src, dst, tm, ix, lt, [], cm, ok⟩ a n c 4 ((ix : Int) + n) true _ h8).mono ?_
    rintro e w9 ⟨out, rfl, hOut, hB9⟩
    go_wp2_with fail
    go_ret
    exact ⟨out, rfl, asked_end h8 hO8 hlt hOut hB9⟩

end Rf
end Go.Proofs.Ytdacdkidjgbdoaa
