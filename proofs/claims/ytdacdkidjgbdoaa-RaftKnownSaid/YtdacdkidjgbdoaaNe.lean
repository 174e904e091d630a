/- The contract of the law RaftKnown. -/
import Derived.Test.YtdacdkidjgbdoaaNd
import Derived.Deep.RegionHeldLaw
set_option linter.unusedVariables false
set_option linter.unusedSimpArgs false
namespace Go.Proofs.Ytdacdkidjgbdoaa
open Go Go.RowKit
namespace Rf
attribute [local go_sem ↓] Go.wp_at_zero Go.wp_at_succ

def pt (S : List At) (j : Nat) : Value := match S[j]? with | some a => .pointer (some ⟨a.g, 0, none⟩) | none => .pointer none
/-- while the servers are made -/
structure K0 (w wr : World) (S : List At) : Prop where
  kn : Kn w wr S []
  arr : wr.heap[w.heap.size]? = some (.cells #[pt S 0, pt S 1, pt S 2] 23 (0, 0))
  st : ∀ j a, S[j]? = some a → a.s = n3 j
theorem K0.start (w : World) : K0 w (w.alloc (.cells #[.pointer none, .pointer none, .pointer none] 23)) [] := by
  refine ⟨(Kn.start w).below ((Below.refl _ w).alloc (Nat.le_refl _) _), heap_alloc_new w _, by simp⟩
theorem n3_may : mayB 0 (-1) [] ((3 : Nat) : Int) = true := by decide
theorem n3_new (i : Nat) (hi : i < 3) (w : World) : Calls Try.prog 8 #[.int .i64 i, .int .i64 3, .agg #[.int .i64 0, .int .i64 (-1), .slice none 0 0]] w (NewYes w (n3 i)) :=
  new_ok i 3 0 (-1) none 0 [] (by simp) w (hd_nil w) (by omega) (by omega) hi n3_may
theorem K0.new {w wr w' : World} {S : List At} (h : K0 w wr S) (hl : S.length < 3) {e : Ending} (hN : NewYes wr (n3 S.length) e w') :
    ∃ g v, e = .returned (.tuple #[.pointer (some ⟨g, 0, none⟩), .int .i64 0]) ∧ K0 w (w'.setCell ⟨w.heap.size, S.length, none⟩ (.pointer (some ⟨g, 0, none⟩))) (S ++ [⟨g, n3 S.length, v⟩]) ∧ w'.cell? ⟨w.heap.size, S.length, none⟩ = some (.pointer none) ∧ w'.frozen? ⟨w.heap.size, S.length, none⟩ = false ∧ w.heap.size < w'.heap.size := by
  obtain ⟨g, v, he, hK, hP⟩ := kn_new h.kn hN
  have ha := hP _ _ _ _ h.arr (by decide) (by decide)
  have hz := (Array.getElem?_eq_some_iff.1 ha).1
  have hK2 : Kn w (w'.setCell ⟨w.heap.size, S.length, none⟩ (.pointer (some ⟨g, 0, none⟩))) (S ++ [⟨g, n3 S.length, v⟩]) [] := by
    refine hK.other (T := fun k => k = w.heap.size) (Only.set (S := fun k => k = w.heap.size) (p := ⟨w.heap.size, S.length, none⟩) (Only.refl _ w') (Or.inl rfl) _) ?_
    rintro k rfl
    exact ⟨Nat.le_refl _, _, _, _, ha, by decide, by decide⟩
  refine ⟨g, v, he, ⟨hK2, ?_, ?_⟩, ?_, ?_, hz⟩
  · have hb : (w'.setCell ⟨w.heap.size, S.length, none⟩ (.pointer (some ⟨g, 0, none⟩))).heap[w.heap.size]? = some (.cells (#[pt S 0, pt S 1, pt S 2].setIfInBounds S.length (.pointer (some ⟨g, 0, none⟩))) 23 (0, 0)) := by
      simp only [World.setCell, Array.getElem?_modify, ha]
      simp
    rw [hb]
    obtain ⟨n, hn⟩ : ∃ n, S.length = n := ⟨_, rfl⟩
    rcases S with _ | ⟨a, _ | ⟨b, _ | ⟨c, r⟩⟩⟩
    · rfl
    · rfl
    · rfl
    · simp only [List.length_cons] at hl; omega
  · intro j a hj
    rcases Nat.lt_trichotomy j S.length with x | x | x
    · rw [List.getElem?_append_left x] at hj
      exact h.st j a hj
    · subst x
      simp at hj
      rw [← hj]
    · rw [List.getElem?_append_right (by omega), List.getElem?_eq_none (by simp; omega)] at hj
      cases hj
  · rcases S with _ | ⟨a, _ | ⟨b, _ | ⟨c, r⟩⟩⟩
    · simp [World.cell?, ha, pt]
    · simp [World.cell?, ha, pt]
    · simp [World.cell?, ha, pt]
    · simp only [List.length_cons] at hl; omega
  · simp [World.frozen?, ha]
theorem K0.done {w wr : World} {S : List At} (h : K0 w wr S) (hl : S.length = 3) : ∃ g0 g1 g2, K3 w wr g0 g1 g2 (n3 0) (n3 1) (n3 2) [] := by
  rcases S with _ | ⟨a, _ | ⟨b, _ | ⟨c, _ | ⟨d, r⟩⟩⟩⟩
  · simp at hl
  · simp at hl
  · simp at hl
  · have e0 := h.st 0 a rfl
    have e1 := h.st 1 b rfl
    have e2 := h.st 2 c rfl
    obtain ⟨g0, s0, v0⟩ := a
    obtain ⟨g1, s1, v1⟩ := b
    obtain ⟨g2, s2, v2⟩ := c
    dsimp only at e0 e1 e2
    subst e0 e1 e2
    exact ⟨g0, g1, g2, ⟨⟨v0, v1, v2, h.kn⟩, h.arr⟩⟩
  · simp at hl

theorem hd_one {w : World} {k : Nat} {t : Int} {d : ByteArray} (h : w.heap[k]? = some (.cells #[.int .i64 t, .string d] 39 (0, 0))) : Hd w (some ⟨k, 0, none⟩) [⟨t, d⟩] := by
  refine ⟨(fun e => by cases e), fun ad e => ?_⟩
  injection e with e
  refine ⟨k, e.symm, (Array.getElem?_eq_some_iff.1 h).1, fun i e he => ?_⟩
  rcases i with _ | i
  · simp at he
    subst he
    simp [World.cell?, h]
  · simp at he
def mk8 : Array Value := madeCells #[.int .i64 0, .string ⟨#[]⟩] 8192
theorem mk_run (w : World) : (Instr.makeSlice 27 (.int .i64 4096) (.int .i64 4096)).run Try.prog w = .ok (.slice (some ⟨w.heap.size, 0, none⟩) 4096 4096) (w.alloc (.cells mk8 39)) := by
  obtain ⟨i0, hi, hz0, hz1, hz2⟩ := info_parts info39
  have hr := run_make (P := Try.prog) w 27 39 i0 _ Try.underlying27 hi hz0 .i64 .i64 4096 4096 (by omega) (by omega) (by rw [hz2]; omega) (by omega)
  rw [hz1] at hr
  exact hr
theorem mk8_at (j : Nat) (hj : j < 4096) : mk8[j * 2]? = some (.int .i64 0) ∧ mk8[j * 2 + 1]? = some (.string ⟨#[]⟩) := by
  have h0 : j * 2 < 8192 := by omega
  have h1 : j * 2 + 1 < 8192 := by omega
  have e0 : (j * 2) % 2 = 0 := by omega
  have e1 : (j * 2 + 1) % 2 = 1 := by omega
  constructor
  · unfold mk8 madeCells
    rw [Array.getElem?_map, Array.getElem?_range, if_pos h0]
    show some (#[Value.int .i64 0, Value.string ⟨#[]⟩][(j * 2) % 2]!) = _
    rw [e0]
    rfl
  · unfold mk8 madeCells
    rw [Array.getElem?_map, Array.getElem?_range, if_pos h1]
    show some (#[Value.int .i64 0, Value.string ⟨#[]⟩][(j * 2 + 1) % 2]!) = _
    rw [e1]
    rfl
/-- the full log, made entry by entry -/
structure K8 (W : World) (i : Nat) (wr : World) : Prop where
  B : Below W.heap.size W wr
  blk : ∃ C, wr.heap[W.heap.size]? = some (.cells C 39 (0, 0)) ∧ ∀ j, j < 4096 → C[j * 2]? = some (.int .i64 (if j < i then 1 else 0)) ∧ C[j * 2 + 1]? = some (.string ⟨#[]⟩)
theorem K8.start (W : World) : K8 W 0 (W.alloc (.cells mk8 39)) :=
  ⟨(Below.refl _ W).alloc (Nat.le_refl _) _, mk8, heap_alloc_new W _, fun j hj => by simpa using mk8_at j hj⟩
theorem K8.step {W wr : World} {i : Nat} (h : K8 W i wr) (hi : i < 4096) : K8 W (i + 1) (wr.setCell ⟨W.heap.size, i * 2, none⟩ (.int .i64 1)) ∧ wr.cell? ⟨W.heap.size, i * 2, none⟩ = some (.int .i64 0) ∧ wr.frozen? ⟨W.heap.size, i * 2, none⟩ = false ∧ W.heap.size < wr.heap.size := by
  obtain ⟨hB, C, hb, hC⟩ := h
  have hz := (Array.getElem?_eq_some_iff.1 hb).1
  obtain ⟨c0, c1⟩ := hC i hi
  rw [if_neg (Nat.lt_irrefl i)] at c0
  refine ⟨⟨hB.setCell (p := ⟨W.heap.size, i * 2, none⟩) (Nat.le_refl _) _, C.setIfInBounds (i * 2) (.int .i64 1), ?_, ?_⟩, ?_, ?_, hz⟩
  · simp only [World.setCell, Array.getElem?_modify, hb]
    simp
  · intro j hj
    obtain ⟨d0, d1⟩ := hC j hj
    have hsz := (Array.getElem?_eq_some_iff.1 c0).1
    refine ⟨?_, ?_⟩
    · rw [Array.getElem?_setIfInBounds]
      by_cases e : i * 2 = j * 2
      · have : i = j := by omega
        subst this
        rw [if_pos rfl, if_pos hsz, if_pos (by omega)]
      · rw [if_neg e, d0]
        by_cases e2 : j < i
        · rw [if_pos e2, if_pos (by omega)]
        · rw [if_neg e2, if_neg (by omega)]
    · rw [Array.getElem?_setIfInBounds, if_neg (by omega), d1]
  · simp [World.cell?, hb, c0]
  · simp [World.frozen?, hb]
theorem K8.done {W wr : World} (h : K8 W 4096 wr) : Hd wr (some ⟨W.heap.size, 0, none⟩) kFull := by
  obtain ⟨hB, C, hb, hC⟩ := h
  refine ⟨(fun e => by cases e), fun ad e => ?_⟩
  injection e with e
  refine ⟨_, e.symm, (Array.getElem?_eq_some_iff.1 hb).1, fun i e he => ?_⟩
  have hi : i < 4096 := by have := (List.getElem?_eq_some_iff.1 he).1; rwa [kFull_len] at this
  unfold kFull at he
  rw [List.getElem?_replicate, if_pos hi] at he
  injection he with he
  subst he
  obtain ⟨d0, d1⟩ := hC i hi
  rw [if_pos hi] at d0
  simp only [World.cell?, hb]
  exact ⟨by simpa [kE] using d0, by simpa [kE] using d1⟩
theorem ok0a : Ok k0a := (n3_ok (j := 0) (by omega)).tick
theorem ok1a : Ok k1a := (n3_ok (j := 1) (by omega)).handle _
theorem ok1b : Ok k1b := ok1a.handle _
theorem ok0b : Ok k0b := ok0a.handle _
theorem ok1c : Ok k1c := ok1b.handle _
theorem ok0c : Ok k0c := ok0b.handle _
theorem ok0d : Ok k0d := ok0c.propose _

set_option maxRecDepth 100000 in
set_option maxHeartbeats 4000000 in
theorem known_is (w : World) : Calls Try.prog 3 #[] w fun e w' => e = .returned (.bool true) ∧ Below w.heap.size w w' := by
  have hw0 := K0.start w
  go_enter Try.func3, Try.ntmps3
  go_wp2_with fail
  go_loopw [2, 3, 4] (fun iv _ _ wr => ∃ S : List At, S.length ≤ 3 ∧ iv = .int .i64 S.length ∧ K0 w wr S) (fun iv _ _ _ => 3 - (intOf iv).toNat)
  case atStart => exact ⟨[], by simp, rfl, hw0⟩
  case round =>
    obtain ⟨S, hS, rfl, hw⟩ := hrel
    clear hw0
    rcases (by omega : S.length < 3 ∨ S.length = 3) with hl | hl
    · have hd : decide ((S.length : Int) < 3) = true := by simp; omega
      go_wp2_with fail
      refine (n3_new S.length hl _).mono ?_
      rintro e w1 hN
      obtain ⟨g, v, rfl, hK, c1, c2, hz⟩ := hw.new hl hN
      clear hN hw
      have hlt : (S.length : Int) < 3 := by omega
      have hwr : IntKind.i64.wrap ((S.length : Int) + 1) = ((S.length + 1 : Nat) : Int) := by rw [IntKind.wrap_i64] <;> omega
      go_wp2_with fail
      go_roundw
      case rel => exact ⟨_, by simp; omega, by simp, hK⟩
      case measure => simp [intOf]; omega
    · have e3 : (S.length : Int) = 3 := by omega
      obtain ⟨g0, g1, g2, hk⟩ := hw.done hl
      clear hw
      rw [e3]
      clear e3 hl hS
      have hd : decide ((3 : Int) < 3) = false := rfl
      obtain ⟨b0, b1, b2⟩ := hk.cells
      have hz := hk.size
      have ct : Calls Try.prog 9 #[.pointer (some ⟨g0, 0, none⟩)] wr (K3Some w wr g0 g1 g2 k0a (n3 1) (n3 2) [] [kA1, kA2]) := by
        have e := k3_tick0 hk (n3_ok (by omega)) (by rw [k_ask]; simp)
        rw [k_ask] at e
        exact e
      go_wp2_with fail
      refine ct.mono ?_
      rintro e w1 hT
      obtain ⟨k1, c1, a1, q1, a2, q2, rfl, hk1, hR1, hP1⟩ := k3_two 0 0 rfl rfl hT
      clear ct hT hk b0 b1 b2 hz hP1
      obtain ⟨b0, b1, b2⟩ := hk1.cells
      have hz := hk1.size
      obtain ⟨r0, r1, r2, r3, r4, r5, r6, r7, r8⟩ : w1.cell? ⟨k1, 0, none⟩ = some (.int .u8 1) ∧ w1.cell? ⟨k1, 1, none⟩ = some (.int .i64 0) ∧ w1.cell? ⟨k1, 2, none⟩ = some (.int .i64 1) ∧ w1.cell? ⟨k1, 3, none⟩ = some (.int .i64 1) ∧ w1.cell? ⟨k1, 4, none⟩ = some (.int .i64 0) ∧ w1.cell? ⟨k1, 5, none⟩ = some (.int .i64 0) ∧ w1.cell? ⟨k1, 6, none⟩ = some (.slice a1 0 q1) ∧ w1.cell? ⟨k1, 7, none⟩ = some (.int .i64 0) ∧ w1.cell? ⟨k1, 8, none⟩ = some (.bool false) := hR1.nine (i := 0) (p := (kA1, .slice a1 0 q1)) rfl
      go_wp2_with fail
      refine wp_region_held_drew (S := (fun w' => w'.cell? ⟨w.heap.size, 1, none⟩ = some ((.pointer (some ⟨g1, 0, none⟩))) ∧ w'.cell? ⟨k1, 0, none⟩ = some (.int .u8 1) ∧ w'.cell? ⟨k1, 1, none⟩ = some (.int .i64 0) ∧ w'.cell? ⟨k1, 2, none⟩ = some (.int .i64 1) ∧ w'.cell? ⟨k1, 3, none⟩ = some (.int .i64 1) ∧ w'.cell? ⟨k1, 4, none⟩ = some (.int .i64 0) ∧ w'.cell? ⟨k1, 5, none⟩ = some (.int .i64 0) ∧ w'.cell? ⟨k1, 6, none⟩ = some (.slice a1 0 q1) ∧ w'.cell? ⟨k1, 7, none⟩ = some (.int .i64 0) ∧ w'.cell? ⟨k1, 8, none⟩ = some (.bool false))) (by kernel_rfl) ⟨b1, r0, r1, r2, r3, r4, r5, r6, r7, r8⟩ (fun hHeld => ?_)
      refine' wpAnyH_take (i := 0) (oi := ({ dst := some 51, op := Go.Op.indexAddr 23 (Go.Operand.tmp 1) (Go.Operand.const (Go.Value.int Go.IntKind.i64 1)), type := 0, pos := "law.go:170", after := #[], guard := none } : Oper)) (v := ?v0) rfl (by kernel_rfl) (by kernel_rfl) (by kernel_rfl) (fun _ _ _ h => h) (Or.inl ⟨by rfl, ?y0⟩) hHeld ?r0
      case y0 => (intro w hSw; try dsimp only at hSw); go_simp; try with_reducible rfl
      case r0 =>
      try simp only [Act.put, List.setIfInBounds_toArray, List.set_cons_zero, List.set_cons_succ]
      refine' wpAnyH_take (i := 1) (oi := ({ dst := some 52, op := Go.Op.load 22 (Go.Operand.tmp 51), type := 22, pos := "law.go:170", after := #[{ on := 0, ground := Go.Ground.data }], guard := none } : Oper)) (v := ?v1) rfl (by kernel_rfl) (by kernel_rfl) (by kernel_rfl) (fun _ _ _ h => h) (Or.inl ⟨by rfl, ?y1⟩) hHeld ?r1
      case y1 => (intro w hSw; try dsimp only at hSw); go_simp; try with_reducible rfl
      case r1 =>
      try simp only [Act.put, List.setIfInBounds_toArray, List.set_cons_zero, List.set_cons_succ]
      refine' wpAnyH_take (i := 2) (oi := ({ dst := some 53, op := Go.Op.move (Go.Operand.tmp 5), type := 30, pos := "law.go:170", after := #[], guard := none } : Oper)) (v := ?v2) rfl (by kernel_rfl) (by kernel_rfl) (by kernel_rfl) (fun _ _ _ h => h) (Or.inl ⟨by rfl, ?y2⟩) hHeld ?r2
      case y2 => (intro w hSw; try dsimp only at hSw); go_simp; try with_reducible rfl
      case r2 =>
      try simp only [Act.put, List.setIfInBounds_toArray, List.set_cons_zero, List.set_cons_succ]
      refine' wpAnyH_take (i := 3) (oi := ({ dst := some 54, op := Go.Op.indexAddr 30 (Go.Operand.tmp 53) (Go.Operand.const (Go.Value.int Go.IntKind.i64 0)), type := 0, pos := "law.go:170", after := #[{ on := 2, ground := Go.Ground.data }], guard := none } : Oper)) (v := ?v3) rfl (by kernel_rfl) (by kernel_rfl) (by kernel_rfl) (fun _ _ _ h => h) (Or.inl ⟨by rfl, ?y3⟩) hHeld ?r3
      case y3 => (intro w hSw; try dsimp only at hSw); go_simp; try with_reducible rfl
      case r3 =>
      try simp only [Act.put, List.setIfInBounds_toArray, List.set_cons_zero, List.set_cons_succ]
      refine' wpAnyH_take (i := 4) (oi := ({ dst := some 55, op := Go.Op.load 34 (Go.Operand.tmp 54), type := 34, pos := "law.go:170", after := #[{ on := 3, ground := Go.Ground.data }], guard := none } : Oper)) (v := ?v4) rfl (by kernel_rfl) (by kernel_rfl) (by kernel_rfl) (fun _ _ _ h => h) (Or.inl ⟨by rfl, ?y4⟩) hHeld ?r4
      case y4 => (intro w hSw; try dsimp only at hSw); go_simp; try with_reducible rfl
      case r4 =>
      try simp only [Act.put, List.setIfInBounds_toArray, List.set_cons_zero, List.set_cons_succ]
      refine wpAnyH_ready (rs := [5]) (by kernel_rfl) (by simp) ?_
      refine AllReadyH.cons rfl (fun K hK => ?_) AllReadyH.nil
      go_simp
      have ch : Calls Try.prog 10 #[.pointer (some ⟨g1, 0, none⟩), .agg #[.int .u8 1, .int .i64 0, .int .i64 1, .int .i64 1, .int .i64 0, .int .i64 0, .slice a1 0 q1, .int .i64 0, .bool false]] w1.drew (K3Some w w1.drew g0 g1 g2 k0a k1a (n3 2) [(kA1, .slice a1 0 q1), (kA2, .slice a2 0 q2)] [kV]) := by
        have e := k3_handle1 (p := (kA1, .slice a1 0 q1)) hk1.drew (n3_ok (by omega)) (hk1.drew.lies (by simp)) (by simp [kA1]) (by rw [k_vote]; simp)
        rw [k_vote] at e
        exact e
      refine ch.mono ?_
      rintro e w2 hT
      obtain ⟨k2, c2, a3, q3, rfl, hk2, hR2, hP2⟩ := k3_one 0 rfl hT
      replace hR1 := hR1.drew.kp hP2
      clear ch hT hk1 b0 b1 b2 hz hP2 r0 r1 r2 r3 r4 r5 r6 r7 r8
      obtain ⟨b0, b1, b2⟩ := hk2.cells
      have hz := hk2.size
      obtain ⟨r0, r1, r2, r3, r4, r5, r6, r7, r8⟩ : w2.cell? ⟨k1, 0, none⟩ = some (.int .u8 1) ∧ w2.cell? ⟨k1, 1, none⟩ = some (.int .i64 0) ∧ w2.cell? ⟨k1, 2, none⟩ = some (.int .i64 1) ∧ w2.cell? ⟨k1, 3, none⟩ = some (.int .i64 1) ∧ w2.cell? ⟨k1, 4, none⟩ = some (.int .i64 0) ∧ w2.cell? ⟨k1, 5, none⟩ = some (.int .i64 0) ∧ w2.cell? ⟨k1, 6, none⟩ = some (.slice a1 0 q1) ∧ w2.cell? ⟨k1, 7, none⟩ = some (.int .i64 0) ∧ w2.cell? ⟨k1, 8, none⟩ = some (.bool false) := hR1.nine (i := 0) (p := (kA1, .slice a1 0 q1)) rfl
      refine hK.out _ _ ⟨b1, r0, r1, r2, r3, r4, r5, r6, r7, r8⟩ (fun hHeld => ?_)
      clear hK K
      try simp only [Act.put, List.setIfInBounds_toArray, List.set_cons_zero, List.set_cons_succ]
      refine' wpAnyH_take (i := 6) (oi := ({ dst := some 6, op := Go.Op.assign (Go.Operand.tmp 56), type := 30, pos := "law.go:170", after := #[{ on := 5, ground := Go.Ground.data }, { on := 5, ground := Go.Ground.chain }, { on := 0, ground := Go.Ground.phase }, { on := 1, ground := Go.Ground.phase }, { on := 2, ground := Go.Ground.phase }, { on := 3, ground := Go.Ground.phase }, { on := 4, ground := Go.Ground.phase }, { on := 5, ground := Go.Ground.phase }], guard := none } : Oper)) (v := ?v6) rfl (by kernel_rfl) (by kernel_rfl) (by kernel_rfl) (fun _ _ _ h => h) (Or.inl ⟨by rfl, ?y6⟩) hHeld ?r6
      case y6 => (intro w hSw; try dsimp only at hSw); go_simp; try with_reducible rfl
      case r6 =>
      try simp only [Act.put, List.setIfInBounds_toArray, List.set_cons_zero, List.set_cons_succ]
      refine wpAnyH_done (by kernel_rfl) ?_ _
      try simp only [Act.put]
      go_simp
      clear hHeld r0 r1 r2 r3 r4 r5 r6 r7 r8
      obtain ⟨r0, r1, r2, r3, r4, r5, r6, r7, r8⟩ : w2.cell? ⟨k1, 0, none⟩ = some (.int .u8 1) ∧ w2.cell? ⟨k1, 1, none⟩ = some (.int .i64 0) ∧ w2.cell? ⟨k1, 2, none⟩ = some (.int .i64 1) ∧ w2.cell? ⟨k1, 3, none⟩ = some (.int .i64 1) ∧ w2.cell? ⟨k1, 4, none⟩ = some (.int .i64 0) ∧ w2.cell? ⟨k1, 5, none⟩ = some (.int .i64 0) ∧ w2.cell? ⟨k1, 6, none⟩ = some (.slice a1 0 q1) ∧ w2.cell? ⟨k1, 7, none⟩ = some (.int .i64 0) ∧ w2.cell? ⟨k1, 8, none⟩ = some (.bool false) := hR1.nine (i := 0) (p := (kA1, .slice a1 0 q1)) rfl
      have hBa := (Below.refl _ w2).alloc (Nat.le_refl _) (.cells #[.int .u8 1, .int .i64 2, .int .i64 1, .int .i64 1, .int .i64 0, .int .i64 0, .slice a1 0 q1, .int .i64 0, .bool false] 34)
      have hk2b := hk2.below hBa
      have hR2b := hR2.below hBa
      go_wp2_with fail
      generalize (w2.alloc (.cells #[.int .u8 1, .int .i64 2, .int .i64 1, .int .i64 1, .int .i64 0, .int .i64 0, .slice a1 0 q1, .int .i64 0, .bool false] 34)) = w3 at *
      have ch : Calls Try.prog 10 #[.pointer (some ⟨g1, 0, none⟩), .agg #[.int .u8 1, .int .i64 2, .int .i64 1, .int .i64 1, .int .i64 0, .int .i64 0, .slice a1 0 q1, .int .i64 0, .bool false]] w3 (K3Some w w3 g0 g1 g2 k0a k1b (n3 2) [(kA1, .slice a1 0 q1), (kA2, .slice a2 0 q2), (kV, .slice a3 0 q3)] [kN]) := by
        have e := k3_handle1 (p := (kO, .slice a1 0 q1)) hk2b ok1a (hk2b.lies (p := (kA1, .slice a1 0 q1)) (by simp)) (by simp [kO]) (by rw [k_no]; simp)
        rw [k_no] at e
        exact e
      refine ch.mono ?_
      rintro e w4 hT
      obtain ⟨k3, c3, a4, q4, rfl, hk4, hR3, hP4⟩ := k3_one 0 rfl hT
      have hR2c := hR2b.kp hP4
      clear ch hT hk2 hk2b hR1 hR2 hR2b hBa hP4 r0 r1 r2 r3 r4 r5 r6 r7 r8 hz b0 b1 b2
      obtain ⟨b0, b1, b2⟩ := hk4.cells
      have hz := hk4.size
      obtain ⟨r0, r1, r2, r3, r4, r5, r6, r7, r8⟩ : w4.cell? ⟨k2, 0, none⟩ = some (.int .u8 2) ∧ w4.cell? ⟨k2, 1, none⟩ = some (.int .i64 1) ∧ w4.cell? ⟨k2, 2, none⟩ = some (.int .i64 0) ∧ w4.cell? ⟨k2, 3, none⟩ = some (.int .i64 1) ∧ w4.cell? ⟨k2, 4, none⟩ = some (.int .i64 0) ∧ w4.cell? ⟨k2, 5, none⟩ = some (.int .i64 0) ∧ w4.cell? ⟨k2, 6, none⟩ = some (.slice a3 0 q3) ∧ w4.cell? ⟨k2, 7, none⟩ = some (.int .i64 0) ∧ w4.cell? ⟨k2, 8, none⟩ = some (.bool true) := hR2c.nine (i := 0) (p := (kV, .slice a3 0 q3)) rfl
      obtain ⟨t0, t1, t2, t3, t4, t5, t6, t7, t8⟩ : w4.cell? ⟨k3, 0, none⟩ = some (.int .u8 2) ∧ w4.cell? ⟨k3, 1, none⟩ = some (.int .i64 1) ∧ w4.cell? ⟨k3, 2, none⟩ = some (.int .i64 2) ∧ w4.cell? ⟨k3, 3, none⟩ = some (.int .i64 1) ∧ w4.cell? ⟨k3, 4, none⟩ = some (.int .i64 0) ∧ w4.cell? ⟨k3, 5, none⟩ = some (.int .i64 0) ∧ w4.cell? ⟨k3, 6, none⟩ = some (.slice a4 0 q4) ∧ w4.cell? ⟨k3, 7, none⟩ = some (.int .i64 0) ∧ w4.cell? ⟨k3, 8, none⟩ = some (.bool false) := hR3.nine (i := 0) (p := (kN, .slice a4 0 q4)) rfl
      obtain ⟨v1, h1⟩ := hk4.is1
      have cv : Calls Try.prog 11 #[.pointer (some ⟨g1, 0, none⟩)] w4 (fun e w' => e = .returned (.int .i64 0) ∧ w4 = w') := by
        have e := vote_is2 g1 k1b v1 w4 h1 ok1b.nodes.1
        rw [k_1b] at e
        exact e
      go_wp2_with fail
      refine cv.mono ?_
      rintro e w5 ⟨rfl, rfl⟩
      clear cv h1
      go_wp2_with fail
      refine wp_region_held_drew (S := (fun w' => w'.cell? ⟨w.heap.size, 0, none⟩ = some ((.pointer (some ⟨g0, 0, none⟩))) ∧ w'.cell? ⟨k2, 0, none⟩ = some (.int .u8 2) ∧ w'.cell? ⟨k2, 1, none⟩ = some (.int .i64 1) ∧ w'.cell? ⟨k2, 2, none⟩ = some (.int .i64 0) ∧ w'.cell? ⟨k2, 3, none⟩ = some (.int .i64 1) ∧ w'.cell? ⟨k2, 4, none⟩ = some (.int .i64 0) ∧ w'.cell? ⟨k2, 5, none⟩ = some (.int .i64 0) ∧ w'.cell? ⟨k2, 6, none⟩ = some (.slice a3 0 q3) ∧ w'.cell? ⟨k2, 7, none⟩ = some (.int .i64 0) ∧ w'.cell? ⟨k2, 8, none⟩ = some (.bool true))) (by kernel_rfl) ⟨b0, r0, r1, r2, r3, r4, r5, r6, r7, r8⟩ (fun hHeld => ?_)
      refine' wpAnyH_take (i := 0) (oi := ({ dst := some 92, op := Go.Op.indexAddr 23 (Go.Operand.tmp 1) (Go.Operand.const (Go.Value.int Go.IntKind.i64 0)), type := 0, pos := "law.go:177", after := #[], guard := none } : Oper)) (v := ?va0) rfl (by kernel_rfl) (by kernel_rfl) (by kernel_rfl) (fun _ _ _ h => h) (Or.inl ⟨by rfl, ?ya0⟩) hHeld ?ra0
      case ya0 => (intro w hSw; try dsimp only at hSw); go_simp; try with_reducible rfl
      case ra0 =>
      try simp only [Act.put, List.setIfInBounds_toArray, List.set_cons_zero, List.set_cons_succ]
      refine' wpAnyH_take (i := 1) (oi := ({ dst := some 93, op := Go.Op.load 22 (Go.Operand.tmp 92), type := 22, pos := "law.go:177", after := #[{ on := 0, ground := Go.Ground.data }], guard := none } : Oper)) (v := ?va1) rfl (by kernel_rfl) (by kernel_rfl) (by kernel_rfl) (fun _ _ _ h => h) (Or.inl ⟨by rfl, ?ya1⟩) hHeld ?ra1
      case ya1 => (intro w hSw; try dsimp only at hSw); go_simp; try with_reducible rfl
      case ra1 =>
      try simp only [Act.put, List.setIfInBounds_toArray, List.set_cons_zero, List.set_cons_succ]
      refine' wpAnyH_take (i := 2) (oi := ({ dst := some 94, op := Go.Op.move (Go.Operand.tmp 6), type := 30, pos := "law.go:177", after := #[], guard := none } : Oper)) (v := ?va2) rfl (by kernel_rfl) (by kernel_rfl) (by kernel_rfl) (fun _ _ _ h => h) (Or.inl ⟨by rfl, ?ya2⟩) hHeld ?ra2
      case ya2 => (intro w hSw; try dsimp only at hSw); go_simp; try with_reducible rfl
      case ra2 =>
      try simp only [Act.put, List.setIfInBounds_toArray, List.set_cons_zero, List.set_cons_succ]
      refine' wpAnyH_take (i := 3) (oi := ({ dst := some 95, op := Go.Op.indexAddr 30 (Go.Operand.tmp 94) (Go.Operand.const (Go.Value.int Go.IntKind.i64 0)), type := 0, pos := "law.go:177", after := #[{ on := 2, ground := Go.Ground.data }], guard := none } : Oper)) (v := ?va3) rfl (by kernel_rfl) (by kernel_rfl) (by kernel_rfl) (fun _ _ _ h => h) (Or.inl ⟨by rfl, ?ya3⟩) hHeld ?ra3
      case ya3 => (intro w hSw; try dsimp only at hSw); go_simp; try with_reducible rfl
      case ra3 =>
      try simp only [Act.put, List.setIfInBounds_toArray, List.set_cons_zero, List.set_cons_succ]
      refine' wpAnyH_take (i := 4) (oi := ({ dst := some 96, op := Go.Op.load 34 (Go.Operand.tmp 95), type := 34, pos := "law.go:177", after := #[{ on := 3, ground := Go.Ground.data }], guard := none } : Oper)) (v := ?va4) rfl (by kernel_rfl) (by kernel_rfl) (by kernel_rfl) (fun _ _ _ h => h) (Or.inl ⟨by rfl, ?ya4⟩) hHeld ?ra4
      case ya4 => (intro w hSw; try dsimp only at hSw); go_simp; try with_reducible rfl
      case ra4 =>
      try simp only [Act.put, List.setIfInBounds_toArray, List.set_cons_zero, List.set_cons_succ]
      refine wpAnyH_ready (rs := [5]) (by kernel_rfl) (by simp) ?_
      refine AllReadyH.cons rfl (fun K hK => ?_) AllReadyH.nil
      go_simp
      have ch : Calls Try.prog 10 #[.pointer (some ⟨g0, 0, none⟩), .agg #[.int .u8 2, .int .i64 1, .int .i64 0, .int .i64 1, .int .i64 0, .int .i64 0, .slice a3 0 q3, .int .i64 0, .bool true]] w4.drew (K3Some w w4.drew g0 g1 g2 k0b k1b (n3 2) [(kA1, .slice a1 0 q1), (kA2, .slice a2 0 q2), (kV, .slice a3 0 q3), (kN, .slice a4 0 q4)] [kP 1, kP 2]) := by
        have e := k3_handle0 (p := (kV, .slice a3 0 q3)) hk4.drew ok0a (hk4.drew.lies (by simp)) (by simp [kV]) (by rw [k_app]; simp)
        rw [k_app] at e
        exact e
      refine ch.mono ?_
      rintro e w5 hT
      obtain ⟨k4, c4, a5, q5, a6, q6, rfl, hk5, hR4, hP5⟩ := k3_two 1 1 rfl rfl hT
      replace hR2c := hR2c.drew.kp hP5
      clear ch hT hk4 b0 b1 b2 hz hP5 hR3 r0 r1 r2 r3 r4 r5 r6 r7 r8 t0 t1 t2 t3 t4 t5 t6 t7 t8
      obtain ⟨b0, b1, b2⟩ := hk5.cells
      have hz := hk5.size
      obtain ⟨r0, r1, r2, r3, r4, r5, r6, r7, r8⟩ : w5.cell? ⟨k2, 0, none⟩ = some (.int .u8 2) ∧ w5.cell? ⟨k2, 1, none⟩ = some (.int .i64 1) ∧ w5.cell? ⟨k2, 2, none⟩ = some (.int .i64 0) ∧ w5.cell? ⟨k2, 3, none⟩ = some (.int .i64 1) ∧ w5.cell? ⟨k2, 4, none⟩ = some (.int .i64 0) ∧ w5.cell? ⟨k2, 5, none⟩ = some (.int .i64 0) ∧ w5.cell? ⟨k2, 6, none⟩ = some (.slice a3 0 q3) ∧ w5.cell? ⟨k2, 7, none⟩ = some (.int .i64 0) ∧ w5.cell? ⟨k2, 8, none⟩ = some (.bool true) := hR2c.nine (i := 0) (p := (kV, .slice a3 0 q3)) rfl
      refine hK.out _ _ ⟨b0, r0, r1, r2, r3, r4, r5, r6, r7, r8⟩ (fun hHeld => ?_)
      clear hK K
      try simp only [Act.put, List.setIfInBounds_toArray, List.set_cons_zero, List.set_cons_succ]
      refine' wpAnyH_take (i := 6) (oi := ({ dst := some 9, op := Go.Op.assign (Go.Operand.tmp 97), type := 30, pos := "law.go:177", after := #[{ on := 5, ground := Go.Ground.data }, { on := 5, ground := Go.Ground.chain }, { on := 0, ground := Go.Ground.phase }, { on := 1, ground := Go.Ground.phase }, { on := 2, ground := Go.Ground.phase }, { on := 3, ground := Go.Ground.phase }, { on := 4, ground := Go.Ground.phase }, { on := 5, ground := Go.Ground.phase }], guard := none } : Oper)) (v := ?va6) rfl (by kernel_rfl) (by kernel_rfl) (by kernel_rfl) (fun _ _ _ h => h) (Or.inl ⟨by rfl, ?ya6⟩) hHeld ?ra6
      case ya6 => (intro w hSw; try dsimp only at hSw); go_simp; try with_reducible rfl
      case ra6 =>
      try simp only [Act.put, List.setIfInBounds_toArray, List.set_cons_zero, List.set_cons_succ]
      refine wpAnyH_done (by kernel_rfl) ?_ _
      try simp only [Act.put]
      go_simp
      clear hHeld r0 r1 r2 r3 r4 r5 r6 r7 r8 hR2c
      obtain ⟨r0, r1, r2, r3, r4, r5, r6, r7, r8⟩ : w5.cell? ⟨k4, 0, none⟩ = some (.int .u8 3) ∧ w5.cell? ⟨k4, 1, none⟩ = some (.int .i64 0) ∧ w5.cell? ⟨k4, 2, none⟩ = some (.int .i64 1) ∧ w5.cell? ⟨k4, 3, none⟩ = some (.int .i64 1) ∧ w5.cell? ⟨k4, 4, none⟩ = some (.int .i64 0) ∧ w5.cell? ⟨k4, 5, none⟩ = some (.int .i64 0) ∧ w5.cell? ⟨k4, 6, none⟩ = some (.slice a5 1 q5) ∧ w5.cell? ⟨k4, 7, none⟩ = some (.int .i64 0) ∧ w5.cell? ⟨k4, 8, none⟩ = some (.bool false) := hR4.nine (i := 0) (p := ((kP 1), .slice a5 1 q5)) rfl
      obtain ⟨v0, h1⟩ := hk5.is0
      have cv : Calls Try.prog 12 #[.pointer (some ⟨g0, 0, none⟩)] w5 (fun e w' => e = .returned (.int .i64 0) ∧ w5 = w') := by
        have e := leader_is2 g0 k0b v0 w5 h1 ok0b.nodes.1
        rw [k_0b] at e
        exact e
      go_wp2_with fail
      refine cv.mono ?_
      rintro e w6 ⟨rfl, rfl⟩
      clear cv h1
      go_wp2_with fail
      refine wp_region_held_drew (S := (fun w' => w'.cell? ⟨w.heap.size, 1, none⟩ = some ((.pointer (some ⟨g1, 0, none⟩))) ∧ w'.cell? ⟨k4, 0, none⟩ = some (.int .u8 3) ∧ w'.cell? ⟨k4, 1, none⟩ = some (.int .i64 0) ∧ w'.cell? ⟨k4, 2, none⟩ = some (.int .i64 1) ∧ w'.cell? ⟨k4, 3, none⟩ = some (.int .i64 1) ∧ w'.cell? ⟨k4, 4, none⟩ = some (.int .i64 0) ∧ w'.cell? ⟨k4, 5, none⟩ = some (.int .i64 0) ∧ w'.cell? ⟨k4, 6, none⟩ = some (.slice a5 1 q5) ∧ w'.cell? ⟨k4, 7, none⟩ = some (.int .i64 0) ∧ w'.cell? ⟨k4, 8, none⟩ = some (.bool false))) (by kernel_rfl) ⟨b1, r0, r1, r2, r3, r4, r5, r6, r7, r8⟩ (fun hHeld => ?_)
      refine' wpAnyH_take (i := 0) (oi := ({ dst := some 115, op := Go.Op.indexAddr 23 (Go.Operand.tmp 1) (Go.Operand.const (Go.Value.int Go.IntKind.i64 1)), type := 0, pos := "law.go:181", after := #[], guard := none } : Oper)) (v := ?vb0) rfl (by kernel_rfl) (by kernel_rfl) (by kernel_rfl) (fun _ _ _ h => h) (Or.inl ⟨by rfl, ?yb0⟩) hHeld ?rb0
      case yb0 => (intro w hSw; try dsimp only at hSw); go_simp; try with_reducible rfl
      case rb0 =>
      try simp only [Act.put, List.setIfInBounds_toArray, List.set_cons_zero, List.set_cons_succ]
      refine' wpAnyH_take (i := 1) (oi := ({ dst := some 116, op := Go.Op.load 22 (Go.Operand.tmp 115), type := 22, pos := "law.go:181", after := #[{ on := 0, ground := Go.Ground.data }], guard := none } : Oper)) (v := ?vb1) rfl (by kernel_rfl) (by kernel_rfl) (by kernel_rfl) (fun _ _ _ h => h) (Or.inl ⟨by rfl, ?yb1⟩) hHeld ?rb1
      case yb1 => (intro w hSw; try dsimp only at hSw); go_simp; try with_reducible rfl
      case rb1 =>
      try simp only [Act.put, List.setIfInBounds_toArray, List.set_cons_zero, List.set_cons_succ]
      refine' wpAnyH_take (i := 2) (oi := ({ dst := some 117, op := Go.Op.move (Go.Operand.tmp 9), type := 30, pos := "law.go:181", after := #[], guard := none } : Oper)) (v := ?vb2) rfl (by kernel_rfl) (by kernel_rfl) (by kernel_rfl) (fun _ _ _ h => h) (Or.inl ⟨by rfl, ?yb2⟩) hHeld ?rb2
      case yb2 => (intro w hSw; try dsimp only at hSw); go_simp; try with_reducible rfl
      case rb2 =>
      try simp only [Act.put, List.setIfInBounds_toArray, List.set_cons_zero, List.set_cons_succ]
      refine' wpAnyH_take (i := 3) (oi := ({ dst := some 118, op := Go.Op.indexAddr 30 (Go.Operand.tmp 117) (Go.Operand.const (Go.Value.int Go.IntKind.i64 0)), type := 0, pos := "law.go:181", after := #[{ on := 2, ground := Go.Ground.data }], guard := none } : Oper)) (v := ?vb3) rfl (by kernel_rfl) (by kernel_rfl) (by kernel_rfl) (fun _ _ _ h => h) (Or.inl ⟨by rfl, ?yb3⟩) hHeld ?rb3
      case yb3 => (intro w hSw; try dsimp only at hSw); go_simp; try with_reducible rfl
      case rb3 =>
      try simp only [Act.put, List.setIfInBounds_toArray, List.set_cons_zero, List.set_cons_succ]
      refine' wpAnyH_take (i := 4) (oi := ({ dst := some 119, op := Go.Op.load 34 (Go.Operand.tmp 118), type := 34, pos := "law.go:181", after := #[{ on := 3, ground := Go.Ground.data }], guard := none } : Oper)) (v := ?vb4) rfl (by kernel_rfl) (by kernel_rfl) (by kernel_rfl) (fun _ _ _ h => h) (Or.inl ⟨by rfl, ?yb4⟩) hHeld ?rb4
      case yb4 => (intro w hSw; try dsimp only at hSw); go_simp; try with_reducible rfl
      case rb4 =>
      try simp only [Act.put, List.setIfInBounds_toArray, List.set_cons_zero, List.set_cons_succ]
      refine wpAnyH_ready (rs := [5]) (by kernel_rfl) (by simp) ?_
      refine AllReadyH.cons rfl (fun K hK => ?_) AllReadyH.nil
      go_simp
      have ch : Calls Try.prog 10 #[.pointer (some ⟨g1, 0, none⟩), .agg #[.int .u8 3, .int .i64 0, .int .i64 1, .int .i64 1, .int .i64 0, .int .i64 0, .slice a5 1 q5, .int .i64 0, .bool false]] w5.drew (K3Some w w5.drew g0 g1 g2 k0b k1c (n3 2) [(kA1, .slice a1 0 q1), (kA2, .slice a2 0 q2), (kV, .slice a3 0 q3), (kN, .slice a4 0 q4), ((kP 1), .slice a5 1 q5), ((kP 2), .slice a6 1 q6)] [kB]) := by
        have e := k3_handle1 (p := ((kP 1), .slice a5 1 q5)) hk5.drew ok1b (hk5.drew.lies (by simp)) (by simp [kP]) (by rw [k_back]; simp)
        rw [k_back] at e
        exact e
      refine ch.mono ?_
      rintro e w6 hT
      obtain ⟨k5, c5, a7, q7, rfl, hk6, hR5, hP6⟩ := k3_one 0 rfl hT
      replace hR4 := hR4.drew.kp hP6
      clear ch hT hk5 b0 b1 b2 hz hP6 r0 r1 r2 r3 r4 r5 r6 r7 r8
      obtain ⟨b0, b1, b2⟩ := hk6.cells
      have hz := hk6.size
      obtain ⟨r0, r1, r2, r3, r4, r5, r6, r7, r8⟩ : w6.cell? ⟨k4, 0, none⟩ = some (.int .u8 3) ∧ w6.cell? ⟨k4, 1, none⟩ = some (.int .i64 0) ∧ w6.cell? ⟨k4, 2, none⟩ = some (.int .i64 1) ∧ w6.cell? ⟨k4, 3, none⟩ = some (.int .i64 1) ∧ w6.cell? ⟨k4, 4, none⟩ = some (.int .i64 0) ∧ w6.cell? ⟨k4, 5, none⟩ = some (.int .i64 0) ∧ w6.cell? ⟨k4, 6, none⟩ = some (.slice a5 1 q5) ∧ w6.cell? ⟨k4, 7, none⟩ = some (.int .i64 0) ∧ w6.cell? ⟨k4, 8, none⟩ = some (.bool false) := hR4.nine (i := 0) (p := ((kP 1), .slice a5 1 q5)) rfl
      refine hK.out _ _ ⟨b1, r0, r1, r2, r3, r4, r5, r6, r7, r8⟩ (fun hHeld => ?_)
      clear hK K
      try simp only [Act.put, List.setIfInBounds_toArray, List.set_cons_zero, List.set_cons_succ]
      refine' wpAnyH_take (i := 6) (oi := ({ dst := some 10, op := Go.Op.assign (Go.Operand.tmp 120), type := 30, pos := "law.go:181", after := #[{ on := 5, ground := Go.Ground.data }, { on := 5, ground := Go.Ground.chain }, { on := 0, ground := Go.Ground.phase }, { on := 1, ground := Go.Ground.phase }, { on := 2, ground := Go.Ground.phase }, { on := 3, ground := Go.Ground.phase }, { on := 4, ground := Go.Ground.phase }, { on := 5, ground := Go.Ground.phase }], guard := none } : Oper)) (v := ?vb6) rfl (by kernel_rfl) (by kernel_rfl) (by kernel_rfl) (fun _ _ _ h => h) (Or.inl ⟨by rfl, ?yb6⟩) hHeld ?rb6
      case yb6 => (intro w hSw; try dsimp only at hSw); go_simp; try with_reducible rfl
      case rb6 =>
      try simp only [Act.put, List.setIfInBounds_toArray, List.set_cons_zero, List.set_cons_succ]
      refine wpAnyH_done (by kernel_rfl) ?_ _
      try simp only [Act.put]
      go_simp
      clear hHeld r0 r1 r2 r3 r4 r5 r6 r7 r8 hR4
      obtain ⟨r0, r1, r2, r3, r4, r5, r6, r7, r8⟩ : w6.cell? ⟨k5, 0, none⟩ = some (.int .u8 4) ∧ w6.cell? ⟨k5, 1, none⟩ = some (.int .i64 1) ∧ w6.cell? ⟨k5, 2, none⟩ = some (.int .i64 0) ∧ w6.cell? ⟨k5, 3, none⟩ = some (.int .i64 1) ∧ w6.cell? ⟨k5, 4, none⟩ = some (.int .i64 1) ∧ w6.cell? ⟨k5, 5, none⟩ = some (.int .i64 0) ∧ w6.cell? ⟨k5, 6, none⟩ = some (.slice a7 0 q7) ∧ w6.cell? ⟨k5, 7, none⟩ = some (.int .i64 0) ∧ w6.cell? ⟨k5, 8, none⟩ = some (.bool true) := hR5.nine (i := 0) (p := (kB, .slice a7 0 q7)) rfl
      go_wp2_with fail
      refine wp_region_held_drew (S := (fun w' => w'.cell? ⟨w.heap.size, 0, none⟩ = some ((.pointer (some ⟨g0, 0, none⟩))) ∧ w'.cell? ⟨k5, 0, none⟩ = some (.int .u8 4) ∧ w'.cell? ⟨k5, 1, none⟩ = some (.int .i64 1) ∧ w'.cell? ⟨k5, 2, none⟩ = some (.int .i64 0) ∧ w'.cell? ⟨k5, 3, none⟩ = some (.int .i64 1) ∧ w'.cell? ⟨k5, 4, none⟩ = some (.int .i64 1) ∧ w'.cell? ⟨k5, 5, none⟩ = some (.int .i64 0) ∧ w'.cell? ⟨k5, 6, none⟩ = some (.slice a7 0 q7) ∧ w'.cell? ⟨k5, 7, none⟩ = some (.int .i64 0) ∧ w'.cell? ⟨k5, 8, none⟩ = some (.bool true))) (by kernel_rfl) ⟨b0, r0, r1, r2, r3, r4, r5, r6, r7, r8⟩ (fun hHeld => ?_)
      refine' wpAnyH_take (i := 0) (oi := ({ dst := some 121, op := Go.Op.move (Go.Operand.tmp 10), type := 30, pos := "law.go:182", after := #[], guard := none } : Oper)) (v := ?vc0) rfl (by kernel_rfl) (by kernel_rfl) (by kernel_rfl) (fun _ _ _ h => h) (Or.inl ⟨by rfl, ?yc0⟩) hHeld ?rc0
      case yc0 => (intro w hSw; try dsimp only at hSw); go_simp; try with_reducible rfl
      case rc0 =>
      try simp only [Act.put, List.setIfInBounds_toArray, List.set_cons_zero, List.set_cons_succ]
      refine' wpAnyH_take (i := 1) (oi := ({ dst := some 122, op := Go.Op.call { callee := Go.Callee.builtin Go.Builtin.len, args := #[Go.Operand.tmp 121], argTypes := #[30] }, type := 3, pos := "law.go:182", after := #[{ on := 0, ground := Go.Ground.data }], guard := none } : Oper)) (v := ?vc1) rfl (by kernel_rfl) (by kernel_rfl) (by kernel_rfl) (fun _ _ _ h => h) (Or.inl ⟨by rfl, ?yc1⟩) hHeld ?rc1
      case yc1 => (intro w hSw; try dsimp only at hSw); go_simp; try with_reducible rfl
      case rc1 =>
      try simp only [Act.put, List.setIfInBounds_toArray, List.set_cons_zero, List.set_cons_succ]
      refine' wpAnyH_take (i := 2) (oi := ({ dst := some 123, op := Go.Op.binOp Go.BinOp.neq 3 (Go.Operand.tmp 122) (Go.Operand.const (Go.Value.int Go.IntKind.i64 1)) 3, type := 4, pos := "law.go:182", after := #[{ on := 1, ground := Go.Ground.data }], guard := none } : Oper)) (v := ?vc2) rfl (by kernel_rfl) (by kernel_rfl) (by kernel_rfl) (fun _ _ _ h => h) (Or.inl ⟨by rfl, ?yc2⟩) hHeld ?rc2
      case yc2 => (intro w hSw; try dsimp only at hSw); go_simp; try with_reducible rfl
      case rc2 =>
      try simp only [Act.put, List.setIfInBounds_toArray, List.set_cons_zero, List.set_cons_succ]
      refine' wpAnyH_take (i := 3) (oi := ({ dst := some 124, op := Go.Op.move (Go.Operand.tmp 123), type := 4, pos := "law.go:182", after := #[{ on := 2, ground := Go.Ground.data }], guard := none } : Oper)) (v := ?vc3) rfl (by kernel_rfl) (by kernel_rfl) (by kernel_rfl) (fun _ _ _ h => h) (Or.inl ⟨by rfl, ?yc3⟩) hHeld ?rc3
      case yc3 => (intro w hSw; try dsimp only at hSw); go_simp; try with_reducible rfl
      case rc3 =>
      try simp only [Act.put, List.setIfInBounds_toArray, List.set_cons_zero, List.set_cons_succ]
      refine' wpAnyH_take (i := 4) (oi := ({ dst := some 125, op := Go.Op.move (Go.Operand.tmp 10), type := 30, pos := "law.go:182", after := #[{ on := 3, ground := Go.Ground.guard }], guard := some (3, false) } : Oper)) (v := ?vc4) rfl (by kernel_rfl) (by kernel_rfl) (by kernel_rfl) (fun _ _ _ h => h) (Or.inl ⟨by rfl, ?yc4⟩) hHeld ?rc4
      case yc4 => (intro w hSw; try dsimp only at hSw); go_simp; try with_reducible rfl
      case rc4 =>
      try simp only [Act.put, List.setIfInBounds_toArray, List.set_cons_zero, List.set_cons_succ]
      refine' wpAnyH_take (i := 5) (oi := ({ dst := some 126, op := Go.Op.indexAddr 30 (Go.Operand.tmp 125) (Go.Operand.const (Go.Value.int Go.IntKind.i64 0)), type := 0, pos := "law.go:182", after := #[{ on := 4, ground := Go.Ground.data }, { on := 3, ground := Go.Ground.guard }], guard := some (3, false) } : Oper)) (v := ?vc5) rfl (by kernel_rfl) (by kernel_rfl) (by kernel_rfl) (fun _ _ _ h => h) (Or.inl ⟨by rfl, ?yc5⟩) hHeld ?rc5
      case yc5 => (intro w hSw; try dsimp only at hSw); go_simp; try with_reducible rfl
      case rc5 =>
      try simp only [Act.put, List.setIfInBounds_toArray, List.set_cons_zero, List.set_cons_succ]
      refine' wpAnyH_take (i := 6) (oi := ({ dst := some 127, op := Go.Op.fieldAddr 34 (Go.Operand.tmp 126) 8, type := 0, pos := "law.go:182", after := #[{ on := 5, ground := Go.Ground.data }, { on := 3, ground := Go.Ground.guard }], guard := some (3, false) } : Oper)) (v := ?vc6) rfl (by kernel_rfl) (by kernel_rfl) (by kernel_rfl) (fun _ _ _ h => h) (Or.inl ⟨by rfl, ?yc6⟩) hHeld ?rc6
      case yc6 => (intro w hSw; try dsimp only at hSw); go_simp; try with_reducible rfl
      case rc6 =>
      try simp only [Act.put, List.setIfInBounds_toArray, List.set_cons_zero, List.set_cons_succ]
      refine' wpAnyH_take (i := 7) (oi := ({ dst := some 128, op := Go.Op.load 4 (Go.Operand.tmp 127), type := 4, pos := "law.go:182", after := #[{ on := 6, ground := Go.Ground.data }, { on := 3, ground := Go.Ground.guard }], guard := some (3, false) } : Oper)) (v := ?vc7) rfl (by kernel_rfl) (by kernel_rfl) (by kernel_rfl) (fun _ _ _ h => h) (Or.inl ⟨by rfl, ?yc7⟩) hHeld ?rc7
      case yc7 => (intro w hSw; try dsimp only at hSw); go_simp; try with_reducible rfl
      case rc7 =>
      try simp only [Act.put, List.setIfInBounds_toArray, List.set_cons_zero, List.set_cons_succ]
      refine' wpAnyH_take (i := 8) (oi := ({ dst := some 129, op := Go.Op.unOp Go.UnOp.not 4 (Go.Operand.tmp 128), type := 4, pos := "law.go:182", after := #[{ on := 7, ground := Go.Ground.data }, { on := 3, ground := Go.Ground.guard }], guard := some (3, false) } : Oper)) (v := ?vc8) rfl (by kernel_rfl) (by kernel_rfl) (by kernel_rfl) (fun _ _ _ h => h) (Or.inl ⟨by rfl, ?yc8⟩) hHeld ?rc8
      case yc8 => (intro w hSw; try dsimp only at hSw); go_simp; try with_reducible rfl
      case rc8 =>
      try simp only [Act.put, List.setIfInBounds_toArray, List.set_cons_zero, List.set_cons_succ]
      refine' wpAnyH_take (i := 9) (oi := ({ dst := some 130, op := Go.Op.pick (Go.Operand.tmp 124) (Go.Operand.const (Go.Value.bool true)) (Go.Operand.tmp 129), type := 4, pos := "law.go:182", after := #[{ on := 3, ground := Go.Ground.data }, { on := 8, ground := Go.Ground.data }], guard := none } : Oper)) (v := ?vc9) rfl (by kernel_rfl) (by kernel_rfl) (by kernel_rfl) (fun _ _ _ h => h) (Or.inl ⟨by rfl, ?yc9⟩) hHeld ?rc9
      case yc9 => (intro w hSw; try dsimp only at hSw); go_simp; try with_reducible rfl
      case rc9 =>
      try simp only [Act.put, List.setIfInBounds_toArray, List.set_cons_zero, List.set_cons_succ]
      refine' wpAnyH_take (i := 10) (oi := ({ dst := some 131, op := Go.Op.move (Go.Operand.tmp 130), type := 4, pos := "law.go:182", after := #[{ on := 9, ground := Go.Ground.data }, { on := 3, ground := Go.Ground.chain }], guard := none } : Oper)) (v := ?vc10) rfl (by kernel_rfl) (by kernel_rfl) (by kernel_rfl) (fun _ _ _ h => h) (Or.inl ⟨by rfl, ?yc10⟩) hHeld ?rc10
      case yc10 => (intro w hSw; try dsimp only at hSw); go_simp; try with_reducible rfl
      case rc10 =>
      try simp only [Act.put, List.setIfInBounds_toArray, List.set_cons_zero, List.set_cons_succ]
      refine' wpAnyH_take (i := 11) (oi := ({ dst := some 132, op := Go.Op.move (Go.Operand.tmp 10), type := 30, pos := "law.go:182", after := #[{ on := 10, ground := Go.Ground.guard }], guard := some (10, false) } : Oper)) (v := ?vc11) rfl (by kernel_rfl) (by kernel_rfl) (by kernel_rfl) (fun _ _ _ h => h) (Or.inl ⟨by rfl, ?yc11⟩) hHeld ?rc11
      case yc11 => (intro w hSw; try dsimp only at hSw); go_simp; try with_reducible rfl
      case rc11 =>
      try simp only [Act.put, List.setIfInBounds_toArray, List.set_cons_zero, List.set_cons_succ]
      refine' wpAnyH_take (i := 12) (oi := ({ dst := some 133, op := Go.Op.indexAddr 30 (Go.Operand.tmp 132) (Go.Operand.const (Go.Value.int Go.IntKind.i64 0)), type := 0, pos := "law.go:182", after := #[{ on := 11, ground := Go.Ground.data }, { on := 10, ground := Go.Ground.guard }], guard := some (10, false) } : Oper)) (v := ?vc12) rfl (by kernel_rfl) (by kernel_rfl) (by kernel_rfl) (fun _ _ _ h => h) (Or.inl ⟨by rfl, ?yc12⟩) hHeld ?rc12
      case yc12 => (intro w hSw; try dsimp only at hSw); go_simp; try with_reducible rfl
      case rc12 =>
      try simp only [Act.put, List.setIfInBounds_toArray, List.set_cons_zero, List.set_cons_succ]
      refine' wpAnyH_take (i := 13) (oi := ({ dst := some 134, op := Go.Op.fieldAddr 34 (Go.Operand.tmp 133) 4, type := 0, pos := "law.go:182", after := #[{ on := 12, ground := Go.Ground.data }, { on := 10, ground := Go.Ground.guard }], guard := some (10, false) } : Oper)) (v := ?vc13) rfl (by kernel_rfl) (by kernel_rfl) (by kernel_rfl) (fun _ _ _ h => h) (Or.inl ⟨by rfl, ?yc13⟩) hHeld ?rc13
      case yc13 => (intro w hSw; try dsimp only at hSw); go_simp; try with_reducible rfl
      case rc13 =>
      try simp only [Act.put, List.setIfInBounds_toArray, List.set_cons_zero, List.set_cons_succ]
      refine' wpAnyH_take (i := 14) (oi := ({ dst := some 135, op := Go.Op.load 3 (Go.Operand.tmp 134), type := 3, pos := "law.go:182", after := #[{ on := 13, ground := Go.Ground.data }, { on := 10, ground := Go.Ground.guard }], guard := some (10, false) } : Oper)) (v := ?vc14) rfl (by kernel_rfl) (by kernel_rfl) (by kernel_rfl) (fun _ _ _ h => h) (Or.inl ⟨by rfl, ?yc14⟩) hHeld ?rc14
      case yc14 => (intro w hSw; try dsimp only at hSw); go_simp; try with_reducible rfl
      case rc14 =>
      try simp only [Act.put, List.setIfInBounds_toArray, List.set_cons_zero, List.set_cons_succ]
      refine' wpAnyH_take (i := 15) (oi := ({ dst := some 136, op := Go.Op.binOp Go.BinOp.neq 3 (Go.Operand.tmp 135) (Go.Operand.const (Go.Value.int Go.IntKind.i64 1)) 3, type := 4, pos := "law.go:182", after := #[{ on := 14, ground := Go.Ground.data }, { on := 10, ground := Go.Ground.guard }], guard := some (10, false) } : Oper)) (v := ?vc15) rfl (by kernel_rfl) (by kernel_rfl) (by kernel_rfl) (fun _ _ _ h => h) (Or.inl ⟨by rfl, ?yc15⟩) hHeld ?rc15
      case yc15 => (intro w hSw; try dsimp only at hSw); go_simp; try with_reducible rfl
      case rc15 =>
      try simp only [Act.put, List.setIfInBounds_toArray, List.set_cons_zero, List.set_cons_succ]
      refine' wpAnyH_take (i := 16) (oi := ({ dst := some 137, op := Go.Op.pick (Go.Operand.tmp 131) (Go.Operand.const (Go.Value.bool true)) (Go.Operand.tmp 136), type := 4, pos := "law.go:182", after := #[{ on := 10, ground := Go.Ground.data }, { on := 15, ground := Go.Ground.data }], guard := none } : Oper)) (v := ?vc16) rfl (by kernel_rfl) (by kernel_rfl) (by kernel_rfl) (fun _ _ _ h => h) (Or.inl ⟨by rfl, ?yc16⟩) hHeld ?rc16
      case yc16 => (intro w hSw; try dsimp only at hSw); go_simp; try with_reducible rfl
      case rc16 =>
      try simp only [Act.put, List.setIfInBounds_toArray, List.set_cons_zero, List.set_cons_succ]
      refine' wpAnyH_take (i := 17) (oi := ({ dst := some 138, op := Go.Op.move (Go.Operand.tmp 137), type := 4, pos := "law.go:182", after := #[{ on := 16, ground := Go.Ground.data }, { on := 10, ground := Go.Ground.chain }], guard := none } : Oper)) (v := ?vc17) rfl (by kernel_rfl) (by kernel_rfl) (by kernel_rfl) (fun _ _ _ h => h) (Or.inl ⟨by rfl, ?yc17⟩) hHeld ?rc17
      case yc17 => (intro w hSw; try dsimp only at hSw); go_simp; try with_reducible rfl
      case rc17 =>
      try simp only [Act.put, List.setIfInBounds_toArray, List.set_cons_zero, List.set_cons_succ]
      refine' wpAnyH_take (i := 18) (oi := ({ dst := some 139, op := Go.Op.indexAddr 23 (Go.Operand.tmp 1) (Go.Operand.const (Go.Value.int Go.IntKind.i64 0)), type := 0, pos := "law.go:182", after := #[{ on := 17, ground := Go.Ground.guard }], guard := some (17, false) } : Oper)) (v := ?vc18) rfl (by kernel_rfl) (by kernel_rfl) (by kernel_rfl) (fun _ _ _ h => h) (Or.inl ⟨by rfl, ?yc18⟩) hHeld ?rc18
      case yc18 => (intro w hSw; try dsimp only at hSw); go_simp; try with_reducible rfl
      case rc18 =>
      try simp only [Act.put, List.setIfInBounds_toArray, List.set_cons_zero, List.set_cons_succ]
      refine' wpAnyH_take (i := 19) (oi := ({ dst := some 140, op := Go.Op.load 22 (Go.Operand.tmp 139), type := 22, pos := "law.go:182", after := #[{ on := 18, ground := Go.Ground.data }, { on := 17, ground := Go.Ground.guard }], guard := some (17, false) } : Oper)) (v := ?vc19) rfl (by kernel_rfl) (by kernel_rfl) (by kernel_rfl) (fun _ _ _ h => h) (Or.inl ⟨by rfl, ?yc19⟩) hHeld ?rc19
      case yc19 => (intro w hSw; try dsimp only at hSw); go_simp; try with_reducible rfl
      case rc19 =>
      try simp only [Act.put, List.setIfInBounds_toArray, List.set_cons_zero, List.set_cons_succ]
      refine' wpAnyH_take (i := 20) (oi := ({ dst := some 141, op := Go.Op.move (Go.Operand.tmp 10), type := 30, pos := "law.go:182", after := #[{ on := 17, ground := Go.Ground.guard }], guard := some (17, false) } : Oper)) (v := ?vc20) rfl (by kernel_rfl) (by kernel_rfl) (by kernel_rfl) (fun _ _ _ h => h) (Or.inl ⟨by rfl, ?yc20⟩) hHeld ?rc20
      case yc20 => (intro w hSw; try dsimp only at hSw); go_simp; try with_reducible rfl
      case rc20 =>
      try simp only [Act.put, List.setIfInBounds_toArray, List.set_cons_zero, List.set_cons_succ]
      refine' wpAnyH_take (i := 21) (oi := ({ dst := some 142, op := Go.Op.indexAddr 30 (Go.Operand.tmp 141) (Go.Operand.const (Go.Value.int Go.IntKind.i64 0)), type := 0, pos := "law.go:182", after := #[{ on := 20, ground := Go.Ground.data }, { on := 17, ground := Go.Ground.guard }], guard := some (17, false) } : Oper)) (v := ?vc21) rfl (by kernel_rfl) (by kernel_rfl) (by kernel_rfl) (fun _ _ _ h => h) (Or.inl ⟨by rfl, ?yc21⟩) hHeld ?rc21
      case yc21 => (intro w hSw; try dsimp only at hSw); go_simp; try with_reducible rfl
      case rc21 =>
      try simp only [Act.put, List.setIfInBounds_toArray, List.set_cons_zero, List.set_cons_succ]
      refine' wpAnyH_take (i := 22) (oi := ({ dst := some 143, op := Go.Op.load 34 (Go.Operand.tmp 142), type := 34, pos := "law.go:182", after := #[{ on := 21, ground := Go.Ground.data }, { on := 17, ground := Go.Ground.guard }], guard := some (17, false) } : Oper)) (v := ?vc22) rfl (by kernel_rfl) (by kernel_rfl) (by kernel_rfl) (fun _ _ _ h => h) (Or.inl ⟨by rfl, ?yc22⟩) hHeld ?rc22
      case yc22 => (intro w hSw; try dsimp only at hSw); go_simp; try with_reducible rfl
      case rc22 =>
      try simp only [Act.put, List.setIfInBounds_toArray, List.set_cons_zero, List.set_cons_succ]
      refine wpAnyH_ready (rs := [23]) (by kernel_rfl) (by simp) ?_
      refine AllReadyH.cons rfl (fun K hK => ?_) AllReadyH.nil
      go_simp
      have ch : Calls Try.prog 10 #[.pointer (some ⟨g0, 0, none⟩), .agg #[.int .u8 4, .int .i64 1, .int .i64 0, .int .i64 1, .int .i64 1, .int .i64 0, .slice a7 0 q7, .int .i64 0, .bool true]] w6.drew (K3None w w6.drew g0 g1 g2 k0c k1c (n3 2) [(kA1, .slice a1 0 q1), (kA2, .slice a2 0 q2), (kV, .slice a3 0 q3), (kN, .slice a4 0 q4), ((kP 1), .slice a5 1 q5), ((kP 2), .slice a6 1 q6), (kB, .slice a7 0 q7)]) :=
        k3_deaf0 (p := (kB, .slice a7 0 q7)) hk6.drew ok0b (hk6.drew.lies (by simp)) (by simp [kB]) k_none
      refine ch.mono ?_
      rintro e w7 hT
      obtain ⟨aa, c6, rfl, hk7, hP7⟩ := hT
      replace hR5 := hR5.drew.kp hP7
      clear ch hk6 b0 b1 b2 hz hP7 r0 r1 r2 r3 r4 r5 r6 r7 r8
      obtain ⟨b0, b1, b2⟩ := hk7.cells
      have hz := hk7.size
      obtain ⟨r0, r1, r2, r3, r4, r5, r6, r7, r8⟩ : w7.cell? ⟨k5, 0, none⟩ = some (.int .u8 4) ∧ w7.cell? ⟨k5, 1, none⟩ = some (.int .i64 1) ∧ w7.cell? ⟨k5, 2, none⟩ = some (.int .i64 0) ∧ w7.cell? ⟨k5, 3, none⟩ = some (.int .i64 1) ∧ w7.cell? ⟨k5, 4, none⟩ = some (.int .i64 1) ∧ w7.cell? ⟨k5, 5, none⟩ = some (.int .i64 0) ∧ w7.cell? ⟨k5, 6, none⟩ = some (.slice a7 0 q7) ∧ w7.cell? ⟨k5, 7, none⟩ = some (.int .i64 0) ∧ w7.cell? ⟨k5, 8, none⟩ = some (.bool true) := hR5.nine (i := 0) (p := (kB, .slice a7 0 q7)) rfl
      refine hK.out _ _ ⟨b0, r0, r1, r2, r3, r4, r5, r6, r7, r8⟩ (fun hHeld => ?_)
      clear hK K
      try simp only [Act.put, List.setIfInBounds_toArray, List.set_cons_zero, List.set_cons_succ]
      refine' wpAnyH_take (i := 24) (oi := ({ dst := some 145, op := Go.Op.call { callee := Go.Callee.builtin Go.Builtin.len, args := #[Go.Operand.tmp 144], argTypes := #[30] }, type := 3, pos := "law.go:182", after := #[{ on := 23, ground := Go.Ground.data }, { on := 17, ground := Go.Ground.guard }], guard := some (17, false) } : Oper)) (v := ?vc24) rfl (by kernel_rfl) (by kernel_rfl) (by kernel_rfl) (fun _ _ _ h => h) (Or.inl ⟨by rfl, ?yc24⟩) hHeld ?rc24
      case yc24 => (intro w hSw; try dsimp only at hSw); go_simp; try with_reducible rfl
      case rc24 =>
      try simp only [Act.put, List.setIfInBounds_toArray, List.set_cons_zero, List.set_cons_succ]
      refine' wpAnyH_take (i := 25) (oi := ({ dst := some 146, op := Go.Op.binOp Go.BinOp.neq 3 (Go.Operand.tmp 145) (Go.Operand.const (Go.Value.int Go.IntKind.i64 0)) 3, type := 4, pos := "law.go:182", after := #[{ on := 24, ground := Go.Ground.data }, { on := 17, ground := Go.Ground.guard }], guard := some (17, false) } : Oper)) (v := ?vc25) rfl (by kernel_rfl) (by kernel_rfl) (by kernel_rfl) (fun _ _ _ h => h) (Or.inl ⟨by rfl, ?yc25⟩) hHeld ?rc25
      case yc25 => (intro w hSw; try dsimp only at hSw); go_simp; try with_reducible rfl
      case rc25 =>
      try simp only [Act.put, List.setIfInBounds_toArray, List.set_cons_zero, List.set_cons_succ]
      refine' wpAnyH_take (i := 26) (oi := ({ dst := some 147, op := Go.Op.pick (Go.Operand.tmp 138) (Go.Operand.const (Go.Value.bool true)) (Go.Operand.tmp 146), type := 4, pos := "law.go:182", after := #[{ on := 17, ground := Go.Ground.data }, { on := 25, ground := Go.Ground.data }], guard := none } : Oper)) (v := ?vc26) rfl (by kernel_rfl) (by kernel_rfl) (by kernel_rfl) (fun _ _ _ h => h) (Or.inl ⟨by rfl, ?yc26⟩) hHeld ?rc26
      case yc26 => (intro w hSw; try dsimp only at hSw); go_simp; try with_reducible rfl
      case rc26 =>
      try simp only [Act.put, List.setIfInBounds_toArray, List.set_cons_zero, List.set_cons_succ]
      refine' wpAnyH_take (i := 27) (oi := ({ dst := some 148, op := Go.Op.move (Go.Operand.tmp 147), type := 4, pos := "law.go:182", after := #[{ on := 26, ground := Go.Ground.data }, { on := 23, ground := Go.Ground.chain }], guard := none } : Oper)) (v := ?vc27) rfl (by kernel_rfl) (by kernel_rfl) (by kernel_rfl) (fun _ _ _ h => h) (Or.inl ⟨by rfl, ?yc27⟩) hHeld ?rc27
      case yc27 => (intro w hSw; try dsimp only at hSw); go_simp; try with_reducible rfl
      case rc27 =>
      try simp only [Act.put, List.setIfInBounds_toArray, List.set_cons_zero, List.set_cons_succ]
      refine' wpAnyH_take (i := 28) (oi := ({ dst := some 149, op := Go.Op.indexAddr 23 (Go.Operand.tmp 1) (Go.Operand.const (Go.Value.int Go.IntKind.i64 0)), type := 0, pos := "law.go:182", after := #[{ on := 27, ground := Go.Ground.guard }], guard := some (27, false) } : Oper)) (v := ?vc28) rfl (by kernel_rfl) (by kernel_rfl) (by kernel_rfl) (fun _ _ _ h => h) (Or.inl ⟨by rfl, ?yc28⟩) hHeld ?rc28
      case yc28 => (intro w hSw; try dsimp only at hSw); go_simp; try with_reducible rfl
      case rc28 =>
      try simp only [Act.put, List.setIfInBounds_toArray, List.set_cons_zero, List.set_cons_succ]
      refine' wpAnyH_take (i := 29) (oi := ({ dst := some 150, op := Go.Op.load 22 (Go.Operand.tmp 149), type := 22, pos := "law.go:182", after := #[{ on := 28, ground := Go.Ground.data }, { on := 27, ground := Go.Ground.guard }], guard := some (27, false) } : Oper)) (v := ?vc29) rfl (by kernel_rfl) (by kernel_rfl) (by kernel_rfl) (fun _ _ _ h => h) (Or.inl ⟨by rfl, ?yc29⟩) hHeld ?rc29
      case yc29 => (intro w hSw; try dsimp only at hSw); go_simp; try with_reducible rfl
      case rc29 =>
      try simp only [Act.put, List.setIfInBounds_toArray, List.set_cons_zero, List.set_cons_succ]
      refine wpAnyH_ready (rs := [30]) (by kernel_rfl) (by simp) ?_
      refine AllReadyH.cons rfl (fun K hK => ?_) AllReadyH.nil
      go_simp
      obtain ⟨v0, h1⟩ := hk7.is0
      have cv : Calls Try.prog 13 #[.pointer (some ⟨g0, 0, none⟩)] w7 (fun e w' => e = .returned (.int .i64 1) ∧ w7 = w') := by
        have e := commit_is2 g0 k0c v0 w7 h1 ok0c.nodes.1
        rw [k_0c] at e
        exact e
      refine cv.mono ?_
      rintro e w8 ⟨rfl, rfl⟩
      clear cv h1
      refine hK.out _ _ hHeld (fun hHeld => ?_)
      clear hK K
      try simp only [Act.put, List.setIfInBounds_toArray, List.set_cons_zero, List.set_cons_succ]
      refine' wpAnyH_take (i := 31) (oi := ({ dst := some 152, op := Go.Op.binOp Go.BinOp.neq 3 (Go.Operand.tmp 151) (Go.Operand.const (Go.Value.int Go.IntKind.i64 1)) 3, type := 4, pos := "law.go:182", after := #[{ on := 30, ground := Go.Ground.data }, { on := 27, ground := Go.Ground.guard }], guard := some (27, false) } : Oper)) (v := ?vc31) rfl (by kernel_rfl) (by kernel_rfl) (by kernel_rfl) (fun _ _ _ h => h) (Or.inl ⟨by rfl, ?yc31⟩) hHeld ?rc31
      case yc31 => (intro w hSw; try dsimp only at hSw); go_simp; try with_reducible rfl
      case rc31 =>
      try simp only [Act.put, List.setIfInBounds_toArray, List.set_cons_zero, List.set_cons_succ]
      refine' wpAnyH_take (i := 32) (oi := ({ dst := some 153, op := Go.Op.pick (Go.Operand.tmp 148) (Go.Operand.const (Go.Value.bool true)) (Go.Operand.tmp 152), type := 4, pos := "law.go:182", after := #[{ on := 27, ground := Go.Ground.data }, { on := 31, ground := Go.Ground.data }], guard := none } : Oper)) (v := ?vc32) rfl (by kernel_rfl) (by kernel_rfl) (by kernel_rfl) (fun _ _ _ h => h) (Or.inl ⟨by rfl, ?yc32⟩) hHeld ?rc32
      case yc32 => (intro w hSw; try dsimp only at hSw); go_simp; try with_reducible rfl
      case rc32 =>
      try simp only [Act.put, List.setIfInBounds_toArray, List.set_cons_zero, List.set_cons_succ]
      refine wpAnyH_done (by kernel_rfl) ?_ _
      try simp only [Act.put]
      go_simp
      clear hHeld r0 r1 r2 r3 r4 r5 r6 r7 r8 hR5
      go_wp2_with fail
      have cp : Calls Try.prog 14 #[.pointer (some ⟨g0, 0, none⟩), .string ⟨#[120]⟩] w7 (fun e w' => e = .returned (.tuple #[.int .i64 2, .int .i64 0]) ∧ K3 w w' g0 g1 g2 k0d k1c (n3 2) [(kA1, .slice a1 0 q1), (kA2, .slice a2 0 q2), (kV, .slice a3 0 q3), (kN, .slice a4 0 q4), ((kP 1), .slice a5 1 q5), ((kP 2), .slice a6 1 q6), (kB, .slice a7 0 q7)] ∧ Kp w7 w') := by
        have e := k3_propose0 xText hk7 ok0c
        rw [k_prop.1, k_prop.2] at e
        exact e
      refine cp.mono ?_
      rintro e w8 ⟨rfl, hk8, -⟩
      clear cp hk7 hz b0 b1 b2
      obtain ⟨b0, b1, b2⟩ := hk8.cells
      have hz := hk8.size
      go_wp2_with fail
      have ct : Calls Try.prog 9 #[.pointer (some ⟨g0, 0, none⟩)] w8 (K3Some w w8 g0 g1 g2 (tickS k0d) k1c (n3 2) [(kA1, .slice a1 0 q1), (kA2, .slice a2 0 q2), (kV, .slice a3 0 q3), (kN, .slice a4 0 q4), ((kP 1), .slice a5 1 q5), ((kP 2), .slice a6 1 q6), (kB, .slice a7 0 q7)] [kQ1, kQ2]) := by
        have e := k3_tick0 hk8 ok0d (by rw [k_next]; simp)
        rw [k_next] at e
        exact e
      refine ct.mono ?_
      rintro e w9 hT
      obtain ⟨k6, c7, a8, q8, a9, q9, rfl, hk9, hR6, -⟩ := k3_two 1 2 rfl rfl hT
      clear ct hT hk8 b0 b1 b2 hz
      obtain ⟨b0, b1, b2⟩ := hk9.cells
      have hz := hk9.size
      go_wp2_with fail
      have cp : Calls Try.prog 14 #[.pointer (some ⟨g2, 0, none⟩), .string ⟨#[121]⟩] w9 (fun e w' => e = .returned (.tuple #[.int .i64 0, .int .i64 270]) ∧ K3 w w' g0 g1 g2 (tickS k0d) k1c (proposeS (n3 2) ⟨#[121]⟩) [(kA1, .slice a1 0 q1), (kA2, .slice a2 0 q2), (kV, .slice a3 0 q3), (kN, .slice a4 0 q4), ((kP 1), .slice a5 1 q5), ((kP 2), .slice a6 1 q6), (kB, .slice a7 0 q7), (kQ1, .slice a8 1 q8), (kQ2, .slice a9 2 q9)] ∧ Kp w9 w') := by
        have e := k3_propose2 ⟨#[121]⟩ hk9 (n3_ok (by omega))
        rw [k_y] at e
        exact e
      refine cp.mono ?_
      rintro e w10 ⟨rfl, hk10, hP10⟩
      have hB := hk10.B
      replace hR6 := hR6.kp hP10
      clear cp hk9 hk10 hP10 b0 b1 b2 hz
      go_wp2_with fail
      refine (new_arg 3 3 0 (-1) none 0 0 w10 (by omega)).mono ?_
      rintro e w11 ⟨rfl, hB1⟩
      replace hB := hB.trans (hB1.mono hB.size)
      replace hR6 := hR6.below hB1
      clear hB1
      go_wp2_with fail
      refine (new_arg 0 8 0 (-1) none 0 0 w11 (by omega)).mono ?_
      rintro e w12 ⟨rfl, hB1⟩
      replace hB := hB.trans (hB1.mono hB.size)
      replace hR6 := hR6.below hB1
      clear hB1
      go_wp2_with fail
      have hBa := (Below.refl _ w12).alloc (Nat.le_refl _) (.cells #[.int .i64 2, .string ⟨#[]⟩] 39)
      have hbn := heap_alloc_new w12 (.cells #[.int .i64 2, .string ⟨#[]⟩] 39)
      replace hB := hB.trans (hBa.mono hB.size)
      replace hR6 := hR6.below hBa
      clear hBa
      have cn : Calls Try.prog 8 #[.int .i64 0, .int .i64 1, .agg #[.int .i64 1, .int .i64 (-1), .slice (some ⟨w12.heap.size, 0, none⟩) 1 1]] _ (NewNo _ 3) :=
        new_shape 0 1 1 (-1) (some ⟨w12.heap.size, 0, none⟩) 1 [⟨2, ⟨#[]⟩⟩] (by simp) (w12.alloc (.cells #[.int .i64 2, .string ⟨#[]⟩] 39)) (hd_one hbn) (by omega) (by omega) (by omega) (by omega) k_shape
      refine cn.mono ?_
      rintro e w13 ⟨rfl, hB1⟩
      replace hB := hB.trans (hB1.mono hB.size)
      replace hR6 := hR6.below hB1
      clear hB1 cn hbn
      have hmk := mk_run
      go_wp2_with fail
      have h8 := K8.start w13
      clear hmk
      generalize (w13.alloc (.cells mk8 39)) = W8 at h8 ⊢
      go_loopw [23] (fun iv wr => ∃ i : Nat, i ≤ 4096 ∧ iv = .int .i64 i ∧ K8 w13 i wr) (fun iv _ => 4096 - (intOf iv).toNat)
      case atStart => exact ⟨0, by omega, rfl, h8⟩
      case round =>
        obtain ⟨i, hi, rfl, h9⟩ := hrel
        clear h8
        rcases (by omega : i < 4096 ∨ i = 4096) with hl | hl
        · have hd9 : decide ((i : Int) < 4096) = true := by simp; omega
          obtain ⟨hK, c1, c2, hz⟩ := h9.step hl
          clear h9
          have hlt : (i : Int) < 4096 := by omega
          have hwr : IntKind.i64.wrap ((i : Int) + 1) = ((i + 1 : Nat) : Int) := by rw [IntKind.wrap_i64] <;> omega
          go_wp2_with fail
          go_roundw
          case rel => exact ⟨i + 1, by omega, by simp, hK⟩
          case measure => simp [intOf]; omega
        · subst hl
          have hd9 : decide ((4096 : Int) < 4096) = false := rfl
          have hh := h9.done
          have hB1 := h9.B
          replace hB := hB.trans (hB1.mono hB.size)
          replace hR6 := hR6.below hB1
          clear hB1 h9 hi
          have cn : Calls Try.prog 8 #[.int .i64 0, .int .i64 1, .agg #[.int .i64 1152921504606846975, .int .i64 0, .slice (some ⟨w13.heap.size, 0, none⟩) 4096 4096]] wr (NewYes wr kOne) := by
            have e := new_ok 0 1 1152921504606846975 0 (some ⟨w13.heap.size, 0, none⟩) 4096 kFull (by rw [kFull_len]; omega) wr hh (by omega) (by omega) (by omega) k_may
            rw [kFull_len] at e
            exact e
          go_wp2_with fail
          refine cn.mono ?_
          rintro e w14 hN
          have hKn : Kn w wr [] [] := ⟨Mem.nil wr, hB, by simp⟩
          obtain ⟨g3, v3, rfl, hk14, hP14⟩ := kn_new hKn hN
          replace hR6 := hR6.kp hP14
          clear cn hN hKn hP14 hh hB
          obtain ⟨r0, r1, r2, r3, r4, r5, r6, r7, r8⟩ : w14.cell? ⟨k6, 0, none⟩ = some (.int .u8 3) ∧ w14.cell? ⟨k6, 1, none⟩ = some (.int .i64 0) ∧ w14.cell? ⟨k6, 2, none⟩ = some (.int .i64 1) ∧ w14.cell? ⟨k6, 3, none⟩ = some (.int .i64 1) ∧ w14.cell? ⟨k6, 4, none⟩ = some (.int .i64 1) ∧ w14.cell? ⟨k6, 5, none⟩ = some (.int .i64 1) ∧ w14.cell? ⟨k6, 6, none⟩ = some (.slice a8 1 q8) ∧ w14.cell? ⟨k6, 7, none⟩ = some (.int .i64 1) ∧ w14.cell? ⟨k6, 8, none⟩ = some (.bool false) := hR6.nine (i := 0) (p := (kQ1, .slice a8 1 q8)) rfl
          obtain ⟨t0, t1, t2, t3, t4, t5, t6, t7, t8⟩ : w14.cell? ⟨k6, 9, none⟩ = some (.int .u8 3) ∧ w14.cell? ⟨k6, 10, none⟩ = some (.int .i64 0) ∧ w14.cell? ⟨k6, 11, none⟩ = some (.int .i64 2) ∧ w14.cell? ⟨k6, 12, none⟩ = some (.int .i64 1) ∧ w14.cell? ⟨k6, 13, none⟩ = some (.int .i64 0) ∧ w14.cell? ⟨k6, 14, none⟩ = some (.int .i64 0) ∧ w14.cell? ⟨k6, 15, none⟩ = some (.slice a9 2 q9) ∧ w14.cell? ⟨k6, 16, none⟩ = some (.int .i64 1) ∧ w14.cell? ⟨k6, 17, none⟩ = some (.bool false) := hR6.nine (i := 1) (p := (kQ2, .slice a9 2 q9)) rfl
          have ct := kn_tick (i := 0) (a := ⟨g3, kOne, v3⟩) hk14 rfl kOne_ok
          have o1 : Ok (tickS kOne) := kOne_ok.tick
          have oc := kOne_commit
          have orl := kOne_role
          have op := kOne_prop ⟨#[122]⟩ (by decide)
          dsimp only at ct
          generalize tickM kOne = m1 at *
          generalize tickS kOne = s1 at *
          go_wp2_with fail
          refine ct.mono ?_
          rintro e w15 ⟨out, v4, l, rfl, hk15, -, -, -⟩
          clear ct hk14 hR6 r0 r1 r2 r3 r4 r5 r6 r7 r8 t0 t1 t2 t3 t4 t5 t6 t7 t8
          have cp := kn_propose (i := 0) (a := ⟨g3, s1, v4⟩) ⟨#[122]⟩ hk15 rfl o1
          dsimp only at cp
          rw [op.1, op.2] at cp
          generalize proposeN s1 ⟨#[122]⟩ = n1 at *
          go_wp2_with fail
          refine cp.mono ?_
          rintro e w16 ⟨rfl, v5, hk16, -⟩
          clear cp hk15 op
          have cn : Calls Try.prog 8 #[.int .i64 0, .int .i64 2, .agg #[.int .i64 1152921504606846976, .int .i64 (-1), .slice none 0 0]] w16 (NewYes w16 kTwo) :=
            new_ok 0 2 1152921504606846976 (-1) none 0 [] (by simp) w16 (hd_nil w16) (by omega) (by omega) (by omega) kTwo_may
          go_wp2_with fail
          refine cn.mono ?_
          rintro e w17 hN
          obtain ⟨g4, v6, rfl, hk17, -⟩ := kn_new hk16 hN
          clear cn hN hk16
          go_wp2_with fail
          refine (awake_is w17).mono ?_
          rintro e w18 ⟨rfl, hB18⟩
          have hk18 := hk17.below hB18
          clear hB18 hk17
          have h1 : Is w18 g3 s1 v5 := hk18.mem.is ⟨g3, s1, v5⟩ (by simp)
          have cv : Calls Try.prog 13 #[.pointer (some ⟨g3, 0, none⟩)] w18 (fun e w' => e = .returned (.int .i64 0) ∧ w18 = w') := by
            have e := commit_is2 g3 s1 v5 w18 h1 o1.nodes.1
            rw [oc] at e
            exact e
          have cr : Calls Try.prog 16 #[.pointer (some ⟨g3, 0, none⟩)] w18 (fun e w' => e = .returned (.int .u8 2) ∧ w18 = w') := by
            have e := role_is2 g3 s1 v5 w18 h1 o1.nodes.1
            rw [orl] at e
            exact e
          clear h1
          go_wp2_with fail
          refine cv.mono ?_
          rintro e w19 ⟨rfl, rfl⟩
          clear cv
          go_wp2_with fail
          refine cr.mono ?_
          rintro e w19 ⟨rfl, rfl⟩
          clear cr
          have ct : Calls Try.prog 9 #[.pointer (some ⟨g4, 0, none⟩)] w18 (KnDeed w w18 [⟨g3, s1, v5⟩, ⟨g4, kTwo, v6⟩] l 1 ⟨g4, kTwo, v6⟩ kTwo []) := by
            have e := kn_tick (i := 1) (a := ⟨g4, kTwo, v6⟩) hk18 rfl kTwo_ok
            dsimp only at e
            rw [kTwo_tick.1, kTwo_tick.2] at e
            exact e
          go_wp2_with fail
          refine ct.mono ?_
          rintro e w19 hD
          obtain ⟨b, c, v7, rfl, hk19, -⟩ := kn_none (S' := []) hD
          clear ct hD hk18
          have h1 : Is w19 g4 kTwo v7 := hk19.mem.is ⟨g4, kTwo, v7⟩ (by simp)
          have cr : Calls Try.prog 16 #[.pointer (some ⟨g4, 0, none⟩)] w19 (fun e w' => e = .returned (.int .u8 0) ∧ w19 = w') := role_is2 g4 kTwo v7 w19 h1 kTwo_ok.nodes.1
          clear h1
          go_wp2_with fail
          refine cr.mono ?_
          rintro e w20 ⟨rfl, rfl⟩
          go_wp2_with fail
          go_ret
          exact ⟨rfl, hk19.B⟩

end Rf
end Go.Proofs.Ytdacdkidjgbdoaa
