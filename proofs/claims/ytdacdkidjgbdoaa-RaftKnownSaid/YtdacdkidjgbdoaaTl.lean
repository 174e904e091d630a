/- The contract of raft's appended, third part: entries that are taken. -/
import Derived.Test.YtdacdkidjgbdoaaTk
import Derived.Deep.RegionLawGrows
set_option linter.unusedVariables false
set_option linter.unusedSimpArgs false
namespace Go.Proofs.Ytdacdkidjgbdoaa
open Go Go.RowKit
namespace Rf
attribute [local go_sem ↓] Go.wp_at_zero Go.wp_at_succ

def withLog (s : Srv) (l : List Ent) : Srv := { s with log := l }
theorem take_cells {w : World} {g c : Nat} {s : Srv} {la : Option Addr} (h : Is w g s (.slice la s.log.length c)) (m : Nat) : ∀ b, la = some b → ∀ j u, (ents (s.log.take m))[j]? = some u → w.cell? (b.add j) = some u := by
  intro b hb j u hu
  refine (es_is h).cell b hb j u ?_
  rw [ents_take s.log m, List.getElem?_append_left (List.getElem?_eq_some_iff.1 hu).1]
  exact hu
theorem drop_cells {w : World} {kk : Nat} {es : List Ent} (h : ∀ (i : Nat) (e : Ent), es[i]? = some e → w.cell? ⟨kk, i * 2, none⟩ = some (.int .i64 e.term) ∧ w.cell? ⟨kk, i * 2 + 1, none⟩ = some (.string e.data)) (D : Nat) (hD : D ≤ es.length) :
    ∀ j u, (ents (es.drop D))[j]? = some u → w.cell? ((⟨kk, D * 2, none⟩ : Addr).add j) = some u := by
  intro j u hu
  rw [ents_drop_at es D j hD] at hu
  rw [Addr.add_mid]
  have hj : D * 2 + j < es.length * 2 := by have := (List.getElem?_eq_some_iff.1 hu).1; rwa [ents_len] at this
  obtain ⟨e2, he⟩ : ∃ e2, es[(D * 2 + j) / 2]? = some e2 := ⟨_, List.getElem?_eq_getElem (by omega)⟩
  obtain ⟨x, y⟩ := h _ _ he
  have h4 : (ents es)[2 * ((D * 2 + j) / 2) + (D * 2 + j) % 2]? = (entc e2)[(D * 2 + j) % 2]? := ents_at he (Nat.mod_lt _ (by omega))
  rw [show 2 * ((D * 2 + j) / 2) + (D * 2 + j) % 2 = D * 2 + j from by omega, hu] at h4
  rcases (by omega : (D * 2 + j) % 2 = 0 ∨ (D * 2 + j) % 2 = 1) with e0 | e0
  · rw [e0] at h4
    rw [show D * 2 + j = (D * 2 + j) / 2 * 2 from by omega, x]
    exact h4.symm
  · rw [e0] at h4
    rw [show D * 2 + j = (D * 2 + j) / 2 * 2 + 1 from by omega, y]
    exact h4.symm
theorem keepG {w w1 : World} {g : Nat} {s : Srv} {v : Value} (hg : w.grownBy w1 none) (h : w.heap[g]? = some (.cells (rc s v) 74 (0, 0))) : w1.cell? ⟨g, 4, none⟩ = some v ∧ w1.frozen? ⟨g, 4, none⟩ = false := by
  have h2 := (hg.block g (Array.getElem?_eq_some_iff.1 h).1 (by simp)).trans h
  exact ⟨by simp only [World.cell?, h2]; rfl, by simp [World.frozen?, h2]⟩
theorem app_put {w w1 : World} {g c c' n : Nat} {s : Srv} {la a' : Option Addr} {l : List Ent} (h : Is w g s (.slice la s.log.length c)) (hg : w.grownBy w1 none) (hown : w1.ownsRow w.heap.size 39 2 (.slice a' n c') n (ents l)) (hn : n = l.length) :
    Is (w1.setCell ⟨g, 4, none⟩ (.slice a' n c')) g (withLog s l) (.slice a' n c') := by
  subst hn
  have hlt := h.lt
  have h2 := (hg.block g hlt (by simp)).trans h.blk
  refine ⟨block_setCell (o := 4) h2 _, own_base (b := w.heap.size) ?_ (Nat.zero_le _)⟩
  exact ownsRow_setCell_other (a := ⟨g, 4, none⟩) hown (fun e => absurd (own_ge hown e) (by show ¬ w.heap.size ≤ g; omega)) _

set_option maxRecDepth 100000 in
set_option maxHeartbeats 1000000 in
theorem app_f (g : Nat) (s : Srv) (v : Value) (R L ix : Nat) (T : Int) (hR : s.role = R) (hT : s.term = T) (hL : s.log.length = L) (hL2 : L ≤ 4096) (hix : ix ≤ 4096) (k : Nat) (src dst tm lt cm : Int) (ok : Bool) (a : Option Addr) (n c : Nat) (w : World) (h : Is w g s v) (es : List Ent) (hn : n = es.length) (hn2 : (ix : Int) + n ≤ 4096) (hd : Hd w a es) (hag : ∀ ad, a = some ad → ad.block ≠ g) (C : Nat) (hC : s.commit = C) (hC2 : C ≤ L) (hcm : 0 ≤ cm) (hnc : n ≤ c) (d0 : decide (tm < T) = false) (d1 : ((R : Int) == 2) = false) (p0 : ix ≤ L) (p1 : tat s.log ix = lt) (q : diffN s.log ix es < n) (q1 : C ≤ ix + diffN s.log ix es) :
    Calls Try.prog 45 #[.pointer (some ⟨g, 0, none⟩), .agg #[.int .u8 k, .int .i64 src, .int .i64 dst, .int .i64 tm, .int .i64 (ix : Nat), .int .i64 lt, .slice a n c, .int .i64 cm, .bool ok]] w (DidPost g v w (withC (withLog (follow s src) (s.log.take (ix + diffN s.log ix es) ++ es.drop (diffN s.log ix es))) (max C (min cm.toNat (ix + n)))) [answerTo (follow s src) src 4 ((ix : Int) + n) true]) := by
  have HN := Lib.hid hn
  clear hn
  have hB := (Below.refl _ w).alloc (Nat.le_refl _) (.cells #[.int .u8 k, .int .i64 src, .int .i64 dst, .int .i64 tm, .int .i64 (ix : Nat), .int .i64 lt, .slice a n c, .int .i64 cm, .bool ok] 34)
  have h1 := h.below hB
  have hbx := heap_alloc_new w (.cells #[.int .u8 k, .int .i64 src, .int .i64 dst, .int .i64 tm, .int .i64 (ix : Nat), .int .i64 lt, .slice a n c, .int .i64 cm, .bool ok] 34)
  obtain ⟨x2, f2⟩ := h.term
  obtain ⟨x5, f5⟩ := h.role
  rw [hT] at x2
  rw [hR] at x5
  have hlt := h.lt
  have hLs : (follow s src).log.length = L := hL
  have cl := fun W (hW : Is W g (follow s src) v) => last_is g (follow s src) v W hW
  have ct := fun W (hW : Is W g (follow s src) v) (hn : ix ≤ (follow s src).log.length) => term_is g (follow s src) v ix hn (by rw [hLs]; omega) W hW
  rw [hLs] at cl ct
  clear hT hR
  go_enter Try.func45, Try.ntmps45
  go_wp2_with fail
  go_quiet (fail)
  go_wp2_with fail
  have hbx2 := hbx
  generalize hW : (w.alloc (.cells #[.int .u8 k, .int .i64 src, .int .i64 dst, .int .i64 tm, .int .i64 (ix : Nat), .int .i64 lt, .slice a n c, .int .i64 cm, .bool ok] 34)) = W0 at *
  have h2 := h1.drewN nq
  have hO2 : Only (fun k => k = g) w (W0.drewN nq) := (Only.of_below hB).drewN nq
  replace hbx2 : (W0.drewN nq).heap[w.heap.size]? = _ := hbx2
  have hblt : w.heap.size < (W0.drewN nq).heap.size := (Array.getElem?_eq_some_iff.1 hbx2).1
  generalize (W0.drewN nq) = W at *
  clear hW hB h1 hbx x2 f2 x5 f5
  have y1 : W.cell? ⟨w.heap.size, 1, none⟩ = some (.int .i64 src) := by simp [World.cell?, hbx2]
  obtain ⟨y5, f5⟩ := h2.role
  obtain ⟨y6, f6⟩ := h2.leader
  have hgn : ¬ g = w.heap.size := by omega
  have h3 := (h2.set (s' := { s with role := 0 }) rfl 5 (.int .u8 0) rfl).set (s' := follow s src) rfl 6 (.int .i64 src) rfl
  have hO3 := Only.set (S := fun k => k = g) (Only.set (S := fun k => k = g) hO2 (p := ⟨g, 5, none⟩) (.inl rfl) (.int .u8 0)) (p := ⟨g, 6, none⟩) (.inl rfl) (.int .i64 src)
  have hbx3 := (Below.heap_setCell ((W.setCell ⟨g, 5, none⟩ (.int .u8 0))) ⟨g, 6, none⟩ (.int .i64 src) w.heap.size (Ne.symm hgn)).trans ((Below.heap_setCell W ⟨g, 5, none⟩ (.int .u8 0) w.heap.size (Ne.symm hgn)).trans hbx2)
  go_region
  have h4 : Is (((W.setCell ⟨g, 5, none⟩ (.int .u8 0)).setCell ⟨g, 6, none⟩ (.int .i64 src)).drew) g (follow s src) v := h3.drewN 1
  have hO4 : Only (fun k => k = g) w (((W.setCell ⟨g, 5, none⟩ (.int .u8 0)).setCell ⟨g, 6, none⟩ (.int .i64 src)).drew) := hO3.drewN 1
  replace hbx3 : (((W.setCell ⟨g, 5, none⟩ (.int .u8 0)).setCell ⟨g, 6, none⟩ (.int .i64 src)).drew).heap[w.heap.size]? = _ := hbx3
  generalize hW4 : (((W.setCell ⟨g, 5, none⟩ (.int .u8 0)).setCell ⟨g, 6, none⟩ (.int .i64 src)).drew) = W4 at *
  clear hW4 h2 h3 hO2 hO3 hbx2 y1 y5 f5 y6 f6 hblt
  have m4 : W4.cell? ⟨w.heap.size, 4, none⟩ = some (.int .i64 (ix : Nat)) := by simp [World.cell?, hbx3]
  have m5 : W4.cell? ⟨w.heap.size, 5, none⟩ = some (.int .i64 lt) := by simp [World.cell?, hbx3]
  go_wp2_with fail
  have hle : ix ≤ L := p0
  have e0 : decide (L < ix) = false := by simp; omega
  have e1 : (tat (follow s src).log ix != lt) = false := by simp; exact p1
  have hsC : (follow s src).commit = C := hC
  have hwr : IntKind.i64.wrap ((ix : Int) + n) = (ix : Int) + n := by rw [IntKind.wrap_i64] <;> omega
  have hdl := diffN_le s.log ix es
  have hdx := diffN_ix s.log ix es (by omega)
  rw [hL] at hdx
  have hn := HN.out
  rw [← hn] at hdl
  have cd := fun W (hW : Is W g (follow s src) v) (hB : Only (fun k => k = g) w W) => differs_is g (follow s src) v k src dst tm lt cm ix L es ok a c hLs hL2 hix (by omega) W hW (hd.only hB hag)
  rw [← hn] at cd
  clear hn
  generalize tat (follow s src).log ix = Y at ct e1
  have hlog : (follow s src).log = s.log := rfl
  rw [hlog] at cd
  clear hlog p1
  go_quiet ((first | (go_at_call 40; exact Calls.quiet_of_same ((cl _ (by first | exact h4.drewN _ | exact h4)).mono (fun e w' he => ⟨he.1, he.2.symm⟩))) | (go_at_call 41; exact Calls.quiet_of_same ((ct _ (by first | exact h4.drewN _ | exact h4) hle).mono (fun e w' he => ⟨he.1, he.2.symm⟩)))))
  go_wp2_with fail
  have h5 := h4.drewN nq
  have hO5 := hO4.drewN nq
  have hBe : Only (fun k => k = g) w (W4.drewN nq) := hO5
  replace hbx3 : (W4.drewN nq).heap[w.heap.size]? = _ := hbx3
  generalize (W4.drewN nq) = W5 at *
  clear h4 hO4 m4 m5
  have hblt : w.heap.size < W5.heap.size := (Array.getElem?_eq_some_iff.1 hbx3).1
  refine wp_region_held_drew (S := (fun w' => (Is w' g (follow s src) v ∧ Below W5.heap.size W5 w') ∧ w'.cell? ⟨w.heap.size, 0, none⟩ = some (.int .u8 k) ∧ w'.cell? ⟨w.heap.size, 1, none⟩ = some (.int .i64 src) ∧ w'.cell? ⟨w.heap.size, 2, none⟩ = some (.int .i64 dst) ∧ w'.cell? ⟨w.heap.size, 3, none⟩ = some (.int .i64 tm) ∧ w'.cell? ⟨w.heap.size, 4, none⟩ = some (.int .i64 (ix : Nat)) ∧ w'.cell? ⟨w.heap.size, 5, none⟩ = some (.int .i64 lt) ∧ w'.cell? ⟨w.heap.size, 6, none⟩ = some (.slice a n c) ∧ w'.cell? ⟨w.heap.size, 7, none⟩ = some (.int .i64 cm) ∧ w'.cell? ⟨w.heap.size, 8, none⟩ = some (.bool ok))) (by kernel_rfl) (keepM h5 hbx3 (Below.refl _ W5).drew) (fun hHeld => ?_)
  refine' wpAnyH_take (i := 0) (oi := ({ dst := some 57, op := Go.Op.move (Go.Operand.tmp 0), type := 22, pos := "raft.go:226", after := #[], guard := none } : Oper)) (v := ?v0) rfl (by kernel_rfl) (by kernel_rfl) (by kernel_rfl) (fun _ _ _ h => h) (Or.inl ⟨by rfl, ?y0⟩) hHeld ?r0
  case y0 => (intro w hSw; try dsimp only at hSw); go_simp; try with_reducible rfl
  case r0 =>
  try simp only [Act.put, List.setIfInBounds_toArray, List.set_cons_zero, List.set_cons_succ]
  refine' wpAnyH_take (i := 1) (oi := ({ dst := some 58, op := Go.Op.load 34 (Go.Operand.tmp 3), type := 34, pos := "raft.go:226", after := #[], guard := none } : Oper)) (v := ?v1) rfl (by kernel_rfl) (by kernel_rfl) (by kernel_rfl) (fun _ _ _ h => h) (Or.inl ⟨by rfl, ?y1⟩) hHeld ?r1
  case y1 => (intro w hSw; try dsimp only at hSw); go_simp; try with_reducible rfl
  case r1 =>
  try simp only [Act.put, List.setIfInBounds_toArray, List.set_cons_zero, List.set_cons_succ]
  refine' wpAnyH_take (i := 3) (oi := ({ dst := some 60, op := Go.Op.fieldAddr 34 (Go.Operand.tmp 3) 4, type := 0, pos := "raft.go:226", after := #[{ on := 9, ground := Go.Ground.gcOnly Go.Departure.lateStores }], guard := none } : Oper)) (v := ?v3) rfl (by kernel_rfl) (by kernel_rfl) (by kernel_rfl) (fun _ _ _ h => h) (Or.inl ⟨by rfl, ?y3⟩) hHeld ?r3
  case y3 => (intro w hSw; try dsimp only at hSw); go_simp; try with_reducible rfl
  case r3 =>
  try simp only [Act.put, List.setIfInBounds_toArray, List.set_cons_zero, List.set_cons_succ]
  refine' wpAnyH_take (i := 4) (oi := ({ dst := some 61, op := Go.Op.load 3 (Go.Operand.tmp 60), type := 3, pos := "raft.go:226", after := #[{ on := 3, ground := Go.Ground.data }, { on := 9, ground := Go.Ground.gcOnly Go.Departure.lateStores }], guard := none } : Oper)) (v := ?v4) rfl (by kernel_rfl) (by kernel_rfl) (by kernel_rfl) (fun _ _ _ h => h) (Or.inl ⟨by rfl, ?y4⟩) hHeld ?r4
  case y4 => (intro w hSw; try dsimp only at hSw); go_simp; try with_reducible rfl
  case r4 =>
  try simp only [Act.put, List.setIfInBounds_toArray, List.set_cons_zero, List.set_cons_succ]
  refine' wpAnyH_take (i := 5) (oi := ({ dst := some 62, op := Go.Op.fieldAddr 34 (Go.Operand.tmp 3) 6, type := 0, pos := "raft.go:226", after := #[], guard := none } : Oper)) (v := ?v5) rfl (by kernel_rfl) (by kernel_rfl) (by kernel_rfl) (fun _ _ _ h => h) (Or.inl ⟨by rfl, ?y5⟩) hHeld ?r5
  case y5 => (intro w hSw; try dsimp only at hSw); go_simp; try with_reducible rfl
  case r5 =>
  try simp only [Act.put, List.setIfInBounds_toArray, List.set_cons_zero, List.set_cons_succ]
  refine' wpAnyH_take (i := 6) (oi := ({ dst := some 63, op := Go.Op.load 27 (Go.Operand.tmp 62), type := 27, pos := "raft.go:226", after := #[{ on := 5, ground := Go.Ground.data }], guard := none } : Oper)) (v := ?v6) rfl (by kernel_rfl) (by kernel_rfl) (by kernel_rfl) (fun _ _ _ h => h) (Or.inl ⟨by rfl, ?y6⟩) hHeld ?r6
  case y6 => (intro w hSw; try dsimp only at hSw); go_simp; try with_reducible rfl
  case r6 =>
  try simp only [Act.put, List.setIfInBounds_toArray, List.set_cons_zero, List.set_cons_succ]
  refine' wpAnyH_take (i := 7) (oi := ({ dst := some 64, op := Go.Op.call { callee := Go.Callee.builtin Go.Builtin.len, args := #[Go.Operand.tmp 63], argTypes := #[27] }, type := 3, pos := "raft.go:226", after := #[{ on := 6, ground := Go.Ground.data }], guard := none } : Oper)) (v := ?v7) rfl (by kernel_rfl) (by kernel_rfl) (by kernel_rfl) (fun _ _ _ h => h) (Or.inl ⟨by rfl, ?y7⟩) hHeld ?r7
  case y7 => (intro w hSw; try dsimp only at hSw); go_simp; try with_reducible rfl
  case r7 =>
  try simp only [Act.put, List.setIfInBounds_toArray, List.set_cons_zero, List.set_cons_succ]
  refine' wpAnyH_take (i := 8) (oi := ({ dst := some 65, op := Go.Op.binOp Go.BinOp.add 3 (Go.Operand.tmp 61) (Go.Operand.tmp 64) 3, type := 3, pos := "raft.go:226", after := #[{ on := 4, ground := Go.Ground.data }, { on := 7, ground := Go.Ground.data }, { on := 9, ground := Go.Ground.gcOnly Go.Departure.lateStores }], guard := none } : Oper)) (v := ?v8) rfl (by kernel_rfl) (by kernel_rfl) (by kernel_rfl) (fun _ _ _ h => h) (Or.inl ⟨by rfl, ?y8⟩) hHeld ?r8
  case y8 => (intro w hSw; try dsimp only at hSw); go_simp; try with_reducible rfl
  case r8 =>
  try simp only [Act.put, List.setIfInBounds_toArray, List.set_cons_zero, List.set_cons_succ]
  refine wpAnyH_ready (rs := [2]) (by kernel_rfl) (by simp) ?_
  refine AllReadyH.cons rfl (fun K hK => ?_) AllReadyH.nil
  go_simp
  refine (cd _ hHeld.1.1 hO5.drew).mono ?_
  rintro e w6 ⟨rfl, hB6⟩
  have hB7 : Below W5.heap.size W5 w6 := ((Below.refl _ W5).drew).trans hB6
  have hbx6 := (hB7.block _ hblt).trans hbx3
  have h6 := h5.below hB7
  refine hK.out _ _ (keepM h5 hbx3 hB7) (fun hHeld => ?_)
  clear hK K
  try simp only [Act.put, List.setIfInBounds_toArray, List.set_cons_zero, List.set_cons_succ]
  refine' wpAnyH_take (i := 9) (oi := ({ dst := some 5, op := Go.Op.assign (Go.Operand.tmp 59), type := 3, pos := "raft.go:226", after := #[{ on := 2, ground := Go.Ground.data }, { on := 2, ground := Go.Ground.chain }, { on := 0, ground := Go.Ground.phase }, { on := 1, ground := Go.Ground.phase }, { on := 2, ground := Go.Ground.phase }, { on := 3, ground := Go.Ground.textOnly Go.Departure.lateStores }, { on := 4, ground := Go.Ground.textOnly Go.Departure.lateStores }, { on := 5, ground := Go.Ground.textOnly Go.Departure.lateStores }, { on := 6, ground := Go.Ground.textOnly Go.Departure.lateStores }, { on := 7, ground := Go.Ground.textOnly Go.Departure.lateStoresUnsure }, { on := 8, ground := Go.Ground.textOnly Go.Departure.lateStores }], guard := none } : Oper)) (v := ?v9) rfl (by kernel_rfl) (by kernel_rfl) (by kernel_rfl) (fun _ _ _ h => h) (Or.inl ⟨by rfl, ?y9⟩) hHeld ?r9
  case y9 => (intro w hSw; try dsimp only at hSw); go_simp; try with_reducible rfl
  case r9 =>
  try simp only [Act.put, List.setIfInBounds_toArray, List.set_cons_zero, List.set_cons_succ]
  refine' wpAnyH_take (i := 10) (oi := ({ dst := some 6, op := Go.Op.assign (Go.Operand.tmp 65), type := 3, pos := "raft.go:226", after := #[{ on := 8, ground := Go.Ground.data }, { on := 9, ground := Go.Ground.chain }, { on := 0, ground := Go.Ground.phase }, { on := 1, ground := Go.Ground.phase }, { on := 2, ground := Go.Ground.phase }, { on := 3, ground := Go.Ground.phase }, { on := 4, ground := Go.Ground.phase }, { on := 5, ground := Go.Ground.phase }, { on := 6, ground := Go.Ground.phase }, { on := 7, ground := Go.Ground.phase }, { on := 8, ground := Go.Ground.phase }, { on := 9, ground := Go.Ground.phase }], guard := none } : Oper)) (v := ?v10) rfl (by kernel_rfl) (by kernel_rfl) (by kernel_rfl) (fun _ _ _ h => h) (Or.inl ⟨by rfl, ?y10⟩) hHeld ?r10
  case y10 => (intro w hSw; try dsimp only at hSw); go_simp; try with_reducible rfl
  case r10 =>
  try simp only [Act.put, List.setIfInBounds_toArray, List.set_cons_zero, List.set_cons_succ]
  refine wpAnyH_done (by kernel_rfl) ?_ _
  try simp only [Act.put]
  go_simp
  have hO6 : Only (fun k => k = g) w w6 := hO5.trans (Only.of_below hB7)
  have n6 : w6.cell? ⟨w.heap.size, 6, none⟩ = some (.slice a n c) := by simp [World.cell?, hbx6]
  have n4 : w6.cell? ⟨w.heap.size, 4, none⟩ = some (.int .i64 (ix : Nat)) := by simp [World.cell?, hbx6]
  have n7 : w6.cell? ⟨w.heap.size, 7, none⟩ = some (.int .i64 cm) := by simp [World.cell?, hbx6]
  obtain ⟨z7, g7⟩ := h6.commit
  rw [hsC] at z7
  have hd6 := hd.only hO6 hag
  clear hd cd hB6 hB7 h5 hO5 hBe hbx3
  generalize diffN s.log ix es = D at *
  have f0 : decide (D < n) = true := by simp; omega
  have f1 : decide ((ix : Int) + D < C) = false := by simp; omega
  obtain ⟨i0, hi, hz0, hz1, hz2⟩ := info_parts info39
  obtain ⟨la, lc, rfl, hlc, hlm⟩ := h6.slice
  have hne := h6.ne
  have hlog2 : (follow s src).log = s.log := rfl
  rw [hLs] at h6 hlc hne
  obtain ⟨y4, g4⟩ := h6.slog
  have hblkg := h6.blk
  have h6' : Is w6 g (follow s src) (.slice la (follow s src).log.length lc) := by rw [hLs]; exact h6
  have htc := take_cells h6' (ix + D)
  rw [hlog2] at htc
  have hEn := HN.out
  obtain ⟨kk, rfl, hkk, hcc⟩ : ∃ kk, a = some ⟨kk, 0, none⟩ ∧ kk < w6.heap.size ∧ ∀ (i : Nat) (e : Ent), es[i]? = some e → w6.cell? ⟨kk, i * 2, none⟩ = some (.int .i64 e.term) ∧ w6.cell? ⟨kk, i * 2 + 1, none⟩ = some (.string e.data) := by
    cases a with
    | none => have := hd6.none_ rfl; rw [this] at hEn; simp at hEn; omega
    | some ad => obtain ⟨kk, e1, e2, e3⟩ := hd6.some_ ad rfl; exact ⟨kk, by rw [e1], e2, e3⟩
  have hdc := drop_cells hcc D (by omega)
  have hnone : la = none → ix + D = 0 ∧ ix + D = 0 := fun e => by have := (es_is h6').none_ e; rw [hlog2] at this; rw [this] at hL; simp at hL; omega
  have hlo : (ents (s.log.take (ix + D))).length = (ix + D) * 2 := by rw [ents_len, List.length_take]; omega
  have hln : (ents (es.drop D)).length = (n - D) * 2 := by rw [ents_len, List.length_drop]; omega
  have hcd : ¬ c = D := by omega
  have hat : ((ix : Int) + D).toNat = ix + D := by omega
  have hat2 : (ix : Int) + D ≤ lc := by omega
  have hat0 : (0 : Int) ≤ (ix : Int) + D := by omega
  have hdn : (D : Int) ≤ n := by omega
  have hdc2 : (n : Int) ≤ c := by omega
  clear hL hC hEn hcc hd6
  go_wp2_with fail
  refine wp_region_held_drew (S := fun w' => w'.cell? ⟨w.heap.size, 6, none⟩ = some (.slice (some ⟨kk, 0, none⟩) n c)) (by kernel_rfl) n6 (fun hHeld => ?_)
  refine' wpAnyH_take (i := 0) (oi := ({ dst := some 81, op := Go.Op.move (Go.Operand.tmp 0), type := 22, pos := "raft.go:232", after := #[], guard := none } : Oper)) (v := ?vb0) rfl (by kernel_rfl) (by kernel_rfl) (by kernel_rfl) (fun _ _ _ h => h) (Or.inl ⟨by rfl, ?yb0⟩) hHeld ?rb0
  case yb0 => (intro w hSw; try dsimp only at hSw); go_simp; try with_reducible rfl
  case rb0 =>
  try simp only [Act.put, List.setIfInBounds_toArray, List.set_cons_zero, List.set_cons_succ]
  refine' wpAnyH_take (i := 1) (oi := ({ dst := some 82, op := Go.Op.move (Go.Operand.tmp 0), type := 22, pos := "raft.go:232", after := #[], guard := none } : Oper)) (v := ?vb1) rfl (by kernel_rfl) (by kernel_rfl) (by kernel_rfl) (fun _ _ _ h => h) (Or.inl ⟨by rfl, ?yb1⟩) hHeld ?rb1
  case yb1 => (intro w hSw; try dsimp only at hSw); go_simp; try with_reducible rfl
  case rb1 =>
  try simp only [Act.put, List.setIfInBounds_toArray, List.set_cons_zero, List.set_cons_succ]
  refine' wpAnyH_take (i := 2) (oi := ({ dst := some 83, op := Go.Op.nilCheck (Go.Operand.tmp 82), type := 0, pos := "raft.go:232", after := #[{ on := 1, ground := Go.Ground.data }], guard := none } : Oper)) (v := ?vb2) rfl (by kernel_rfl) (by kernel_rfl) (by kernel_rfl) (fun _ _ _ h => h) (Or.inl ⟨by rfl, ?yb2⟩) hHeld ?rb2
  case yb2 => (intro w hSw; try dsimp only at hSw); go_simp; try with_reducible rfl
  case rb2 =>
  try simp only [Act.put, List.setIfInBounds_toArray, List.set_cons_zero, List.set_cons_succ]
  refine' wpAnyH_take (i := 3) (oi := ({ dst := some 84, op := Go.Op.fieldAddr 74 (Go.Operand.tmp 83) 2, type := 0, pos := "raft.go:232", after := #[{ on := 2, ground := Go.Ground.data }], guard := none } : Oper)) (v := ?vb3) rfl (by kernel_rfl) (by kernel_rfl) (by kernel_rfl) (fun _ _ _ h => h) (Or.inl ⟨by rfl, ?yb3⟩) hHeld ?rb3
  case yb3 => (intro w hSw; try dsimp only at hSw); go_simp; try with_reducible rfl
  case rb3 =>
  try simp only [Act.put, List.setIfInBounds_toArray, List.set_cons_zero, List.set_cons_succ]
  refine' wpAnyH_take (i := 4) (oi := ({ dst := some 85, op := Go.Op.fieldAddr 29 (Go.Operand.tmp 84) 2, type := 0, pos := "raft.go:232", after := #[{ on := 3, ground := Go.Ground.data }], guard := none } : Oper)) (v := ?vb4) rfl (by kernel_rfl) (by kernel_rfl) (by kernel_rfl) (fun _ _ _ h => h) (Or.inl ⟨by rfl, ?yb4⟩) hHeld ?rb4
  case yb4 => (intro w hSw; try dsimp only at hSw); go_simp; try with_reducible rfl
  case rb4 =>
  try simp only [Act.put, List.setIfInBounds_toArray, List.set_cons_zero, List.set_cons_succ]
  refine' wpAnyH_take (i := 6) (oi := ({ dst := some 87, op := Go.Op.move (Go.Operand.tmp 7), type := 3, pos := "raft.go:232", after := #[], guard := none } : Oper)) (v := ?vb6) rfl (by kernel_rfl) (by kernel_rfl) (by kernel_rfl) (fun _ _ _ h => h) (Or.inl ⟨by rfl, ?yb6⟩) hHeld ?rb6
  case yb6 => (intro w hSw; try dsimp only at hSw); go_simp; try with_reducible rfl
  case rb6 =>
  try simp only [Act.put, List.setIfInBounds_toArray, List.set_cons_zero, List.set_cons_succ]
  refine' wpAnyH_take (i := 9) (oi := ({ dst := some 90, op := Go.Op.fieldAddr 34 (Go.Operand.tmp 3) 6, type := 0, pos := "raft.go:232", after := #[], guard := none } : Oper)) (v := ?vb9) rfl (by kernel_rfl) (by kernel_rfl) (by kernel_rfl) (fun _ _ _ h => h) (Or.inl ⟨by rfl, ?yb9⟩) hHeld ?rb9
  case yb9 => (intro w hSw; try dsimp only at hSw); go_simp; try with_reducible rfl
  case rb9 =>
  try simp only [Act.put, List.setIfInBounds_toArray, List.set_cons_zero, List.set_cons_succ]
  refine' wpAnyH_take (i := 10) (oi := ({ dst := some 91, op := Go.Op.load 27 (Go.Operand.tmp 90), type := 27, pos := "raft.go:232", after := #[{ on := 9, ground := Go.Ground.data }], guard := none } : Oper)) (v := ?vb10) rfl (by kernel_rfl) (by kernel_rfl) (by kernel_rfl) (fun _ _ _ h => h) (Or.inl ⟨by rfl, ?yb10⟩) hHeld ?rb10
  case yb10 => (intro w hSw; try dsimp only at hSw); go_simp; try with_reducible rfl
  case rb10 =>
  try simp only [Act.put, List.setIfInBounds_toArray, List.set_cons_zero, List.set_cons_succ]
  refine' wpAnyH_take (i := 11) (oi := ({ dst := some 92, op := Go.Op.move (Go.Operand.tmp 5), type := 3, pos := "raft.go:232", after := #[], guard := none } : Oper)) (v := ?vb11) rfl (by kernel_rfl) (by kernel_rfl) (by kernel_rfl) (fun _ _ _ h => h) (Or.inl ⟨by rfl, ?yb11⟩) hHeld ?rb11
  case yb11 => (intro w hSw; try dsimp only at hSw); go_simp; try with_reducible rfl
  case rb11 =>
  try simp only [Act.put, List.setIfInBounds_toArray, List.set_cons_zero, List.set_cons_succ]
  refine' wpAnyH_take (i := 12) (oi := ({ dst := some 93, op := Go.Op.slice 27 (Go.Operand.tmp 91) (some (Go.Operand.tmp 92)) none none, type := 27, pos := "raft.go:232", after := #[{ on := 10, ground := Go.Ground.data }, { on := 11, ground := Go.Ground.data }], guard := none } : Oper)) (v := ?vb12) rfl (by kernel_rfl) (by kernel_rfl) (by kernel_rfl) (fun _ _ _ h => h) (Or.inl ⟨by rfl, ?yb12⟩) hHeld ?rb12
  case yb12 => (intro w hSw; try dsimp only at hSw); go_simp; try with_reducible rfl
  case rb12 =>
  try simp only [Act.put, List.setIfInBounds_toArray, List.set_cons_zero, List.set_cons_succ]
  refine wpAnyH_ready (rs := [5]) (by kernel_rfl) (by simp) ?_
  refine AllReadyH.cons rfl (fun K hK => ?_) AllReadyH.nil
  go_simp
  refine hK.out _ _ hHeld (fun _ => ?_)
  clear hK K
  try simp only [Act.put, List.setIfInBounds_toArray, List.set_cons_zero, List.set_cons_succ]
  refine' wpAnyH_take (i := 7) (oi := ({ dst := some 88, op := Go.Op.slice 27 (Go.Operand.tmp 86) none (some (Go.Operand.tmp 87)) none, type := 27, pos := "raft.go:232", after := #[{ on := 5, ground := Go.Ground.data }, { on := 6, ground := Go.Ground.data }], guard := none } : Oper)) (v := ?vb7) rfl (by kernel_rfl) (by kernel_rfl) (by kernel_rfl) (fun _ _ _ h => h) (Or.inl ⟨by rfl, ?yb7⟩) hHeld ?rb7
  case yb7 => (intro w hSw; try dsimp only at hSw); go_simp; try with_reducible rfl
  case rb7 =>
  try simp only [Act.put, List.setIfInBounds_toArray, List.set_cons_zero, List.set_cons_succ]
  refine wpAnyH_ready (rs := [8]) (by kernel_rfl) (by simp) ?_
  refine AllReadyH.cons rfl (fun K hK => ?_) AllReadyH.nil
  go_simp
  refine (clip_is la (ix + D) lc (by omega) hlm _).mono ?_
  rintro e w' ⟨rfl, rfl⟩
  refine hK.out _ _ hHeld (fun _ => ?_)
  clear hK K
  try simp only [Act.put, List.setIfInBounds_toArray, List.set_cons_zero, List.set_cons_succ]
  refine wpAnyH_ready (rs := [13]) (by kernel_rfl) (by simp) ?_
  refine AllReadyH.cons rfl (fun K hK => ?_) AllReadyH.nil
  refine step_append_grows rfl (.tmp 89) (.tmp 93) 27 rfl 39 i0 _ 2 24 Try.underlying27 hi hz0 hz1 hz2 rfl (by decide) la (ix + D) (ix + D) (ents (s.log.take (ix + D))) rfl hnone hlo htc ⟨kk, D * 2, none⟩ (n - D) (c - D) (ents (es.drop D)) rfl hln hdc (ents_one _) (by omega) (by unfold maxLen; omega) (by omega) ?_
  intro v' w1 hown hgrow
  obtain ⟨a', c', rfl⟩ := own_slice hown
  obtain ⟨q4, r4⟩ := keepG hgrow hblkg
  have hbx9 := (hgrow.block w.heap.size (Array.getElem?_eq_some_iff.1 hbx6).1 (by simp)).trans hbx6
  have n69 : w1.cell? ⟨w.heap.size, 6, none⟩ = some (.slice (some ⟨kk, 0, none⟩) n c) := by simp [World.cell?, hbx9]
  refine hK.out _ _ n69 (fun hHeld => ?_)
  clear hK K
  try simp only [Act.put, List.setIfInBounds_toArray, List.set_cons_zero, List.set_cons_succ]
  refine' wpAnyH_take (i := 14) (oi := ({ dst := some 95, op := Go.Op.nilCheck (Go.Operand.tmp 81), type := 0, pos := "raft.go:232", after := #[{ on := 0, ground := Go.Ground.data }, { on := 0, ground := Go.Ground.phase }, { on := 1, ground := Go.Ground.phase }, { on := 2, ground := Go.Ground.phase }, { on := 3, ground := Go.Ground.phase }, { on := 4, ground := Go.Ground.phase }, { on := 5, ground := Go.Ground.phase }, { on := 6, ground := Go.Ground.phase }, { on := 7, ground := Go.Ground.phase }, { on := 8, ground := Go.Ground.phase }, { on := 9, ground := Go.Ground.phase }, { on := 10, ground := Go.Ground.phase }, { on := 11, ground := Go.Ground.phase }, { on := 12, ground := Go.Ground.phase }, { on := 13, ground := Go.Ground.phase }], guard := none } : Oper)) (v := ?vb14) rfl (by kernel_rfl) (by kernel_rfl) (by kernel_rfl) (fun _ _ _ h => h) (Or.inl ⟨by rfl, ?yb14⟩) hHeld ?rb14
  case yb14 => (intro w hSw; try dsimp only at hSw); go_simp; try with_reducible rfl
  case rb14 =>
  try simp only [Act.put, List.setIfInBounds_toArray, List.set_cons_zero, List.set_cons_succ]
  refine' wpAnyH_take (i := 15) (oi := ({ dst := some 96, op := Go.Op.fieldAddr 74 (Go.Operand.tmp 95) 2, type := 0, pos := "raft.go:232", after := #[{ on := 14, ground := Go.Ground.data }, { on := 0, ground := Go.Ground.phase }, { on := 1, ground := Go.Ground.phase }, { on := 2, ground := Go.Ground.phase }, { on := 3, ground := Go.Ground.phase }, { on := 4, ground := Go.Ground.phase }, { on := 5, ground := Go.Ground.phase }, { on := 6, ground := Go.Ground.phase }, { on := 7, ground := Go.Ground.phase }, { on := 8, ground := Go.Ground.phase }, { on := 9, ground := Go.Ground.phase }, { on := 10, ground := Go.Ground.phase }, { on := 11, ground := Go.Ground.phase }, { on := 12, ground := Go.Ground.phase }, { on := 13, ground := Go.Ground.phase }], guard := none } : Oper)) (v := ?vb15) rfl (by kernel_rfl) (by kernel_rfl) (by kernel_rfl) (fun _ _ _ h => h) (Or.inl ⟨by rfl, ?yb15⟩) hHeld ?rb15
  case yb15 => (intro w hSw; try dsimp only at hSw); go_simp; try with_reducible rfl
  case rb15 =>
  try simp only [Act.put, List.setIfInBounds_toArray, List.set_cons_zero, List.set_cons_succ]
  refine' wpAnyH_take (i := 16) (oi := ({ dst := some 97, op := Go.Op.fieldAddr 29 (Go.Operand.tmp 96) 2, type := 0, pos := "raft.go:232", after := #[{ on := 15, ground := Go.Ground.data }, { on := 0, ground := Go.Ground.phase }, { on := 1, ground := Go.Ground.phase }, { on := 2, ground := Go.Ground.phase }, { on := 3, ground := Go.Ground.phase }, { on := 4, ground := Go.Ground.phase }, { on := 5, ground := Go.Ground.phase }, { on := 6, ground := Go.Ground.phase }, { on := 7, ground := Go.Ground.phase }, { on := 8, ground := Go.Ground.phase }, { on := 9, ground := Go.Ground.phase }, { on := 10, ground := Go.Ground.phase }, { on := 11, ground := Go.Ground.phase }, { on := 12, ground := Go.Ground.phase }, { on := 13, ground := Go.Ground.phase }], guard := none } : Oper)) (v := ?vb16) rfl (by kernel_rfl) (by kernel_rfl) (by kernel_rfl) (fun _ _ _ h => h) (Or.inl ⟨by rfl, ?yb16⟩) hHeld ?rb16
  case yb16 => (intro w hSw; try dsimp only at hSw); go_simp; try with_reducible rfl
  case rb16 =>
  try simp only [Act.put, List.setIfInBounds_toArray, List.set_cons_zero, List.set_cons_succ]
  refine wpAnyH_ready (rs := [17]) (by kernel_rfl) (by simp) ?_
  refine AllReadyH.cons rfl (fun K hK => ?_) AllReadyH.nil
  go_simp
  refine hK.out _ _ (by go_simp) (fun hHeld => ?_)
  clear hK K
  refine wpAnyH_done (by kernel_rfl) ?_ _
  try simp only [Act.put]
  go_simp
  have hlen : ix + D + (n - D) = (s.log.take (ix + D) ++ es.drop D).length := by
    rw [List.length_append, List.length_take, List.length_drop]; have := HN.out; have : s.log.length = L := hLs; omega
  rw [← ents_app] at hown
  have h9 : Is (w1.setCell ⟨g, 4, none⟩ (.slice a' (ix + D + (n - D)) c')) g (withLog (follow s src) (s.log.take (ix + D) ++ es.drop D)) (.slice a' (ix + D + (n - D)) c') := app_put (w := w6.drew) (h6'.drewN 1) hgrow hown hlen
  have hO9 : Only (fun k => k = g) w (w1.setCell ⟨g, 4, none⟩ (.slice a' (ix + D + (n - D)) c')) := ((hO6.drew).grown hgrow (by simp)).set (p := ⟨g, 4, none⟩) (.inl rfl) _
  have hbx10 := (Below.heap_setCell w1 ⟨g, 4, none⟩ (.slice a' (ix + D + (n - D)) c') w.heap.size (Ne.symm hgn)).trans hbx9
  have hv9 : ∀ k, (Value.slice a' (ix + D + (n - D)) c').ownBlock = some k → w.heap.size ≤ k := fun k hk => Nat.le_trans hO6.size (own_ge hown hk)
  have hSC : (withLog (follow s src) (s.log.take (ix + D) ++ es.drop D)).commit = C := hsC
  generalize (Value.slice a' (ix + D + (n - D)) c') = v9 at *
  generalize hs9 : (withLog (follow s src) (s.log.take (ix + D) ++ es.drop D)) = s9 at *
  generalize (w1.setCell ⟨g, 4, none⟩ v9) = W9 at *
  clear hgrow hown h6' hO6 hbx9 hbx6 q4 r4 n69 h6 hblkg n6 n4 n7 z7 g7 y4 g4 htc hdc hnone hlo hln hne hlen hsC
  have n7 : W9.cell? ⟨w.heap.size, 7, none⟩ = some (.int .i64 cm) := by simp [World.cell?, hbx10]
  obtain ⟨z7, g7⟩ := h9.commit
  rw [hSC] at z7
  clear hSC
  have hval : (if (C : Int) < if (ix : Int) + n < cm then (ix : Int) + n else cm then if (ix : Int) + n < cm then (ix : Int) + n else cm else C) = ((max C (min cm.toNat (ix + n)) : Nat) : Int) := by (repeat' split) <;> omega
  have h7 : Is (W9.setCell ⟨g, 7, none⟩ (.int .i64 (max C (min cm.toNat (ix + n)) : Nat))) g (withC s9 (max C (min cm.toNat (ix + n)))) v9 := h9.set (s' := withC s9 (max C (min cm.toNat (ix + n)))) rfl 7 (.int .i64 (max C (min cm.toNat (ix + n)) : Nat)) rfl
  have hO7 := Only.set (S := fun k => k = g) hO9 (p := ⟨g, 7, none⟩) (.inl rfl) (.int .i64 (max C (min cm.toNat (ix + n)) : Nat))
  have hbx7 := (Below.heap_setCell W9 ⟨g, 7, none⟩ (.int .i64 (max C (min cm.toNat (ix + n)) : Nat)) w.heap.size (Ne.symm hgn)).trans hbx10
  have HA := Lib.hid (show answerTo (follow s src) src 4 ((ix : Int) + n) true = answerTo (withC s9 (max C (min cm.toNat (ix + n)))) src 4 ((ix : Int) + n) true from by rw [← hs9]; rfl)
  have HS9 := Lib.hid hs9
  clear hs9
  generalize hX : max C (min cm.toNat (ix + n)) = X at *
  have HX := Lib.hid hX
  clear hX
  clear q q1 hdl hdx hat hat2 hat0 hdn hdc2 hcd f0 f1
  go_wp2_with fail
  go_region
  have h8 := h7.drewN 1
  have hO8 := hO7.drewN 1
  change Is (World.drew _) g _ _ at h8
  change Only _ _ (World.drew _) at hO8
  replace hbx7 : (World.drew (W9.setCell ⟨g, 7, none⟩ (.int .i64 (X : Nat)))).heap[w.heap.size]? = _ := hbx7
  generalize hW8 : (World.drew (W9.setCell ⟨g, 7, none⟩ (.int .i64 (X : Nat)))) = W8 at *
  clear hW8 h7 hO7 h9 hO9 hbx10 n7 z7 g7 hval
  obtain ⟨m0, m1, m2, m3, m4, m5, m6, m7, m8⟩ := msg_cells (Below.refl W8.heap.size W8) rfl hbx7
  go_wp2_with fail
  all_goals
    refine (answer_is g (withC s9 X) v9 ⟨k, src, dst, tm, ix, lt, [], cm, ok⟩ (some ⟨kk, 0, none⟩) n c 4 ((ix : Int) + n) true _ h8).mono ?_
    rintro e w9 ⟨out, rfl, hOut, hB9⟩
    go_wp2_with fail
    go_ret
    refine ⟨out, rfl, ?_⟩
    rw [HA.out]
    exact (Did.quiet h8 hB9 hOut).below (hO8.weak (fun _ e => .inl e)) (fun k hk => .inr (hv9 k hk)) hlt
end Rf
end Go.Proofs.Ytdacdkidjgbdoaa
