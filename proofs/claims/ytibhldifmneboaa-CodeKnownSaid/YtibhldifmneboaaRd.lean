/- Contracts of package code's reader: next, number, whole, bytes, num. -/
import Derived.Test.YtibhldifmneboaaPl
import Derived.Test.YtibhldifmneboaaCd
import Derived.Test.YtibhldifmneboaaBt
namespace Go.Proofs.Ytibhldifmneboaa
open Go.RowKit
namespace Rd
open Cd
set_option linter.unusedVariables false

/-- the reader's block -/
def At (w : World) (g : Nat) (A : Option Addr) (n c p : Nat) : Prop := w.heap[g]? = some (.cells #[.slice A n c, .int .i64 p] 104 (0, 0))
/-- the bytes that are read; they lie below block g -/
def Byt (w : World) (g : Nat) (A : Option Addr) (xs : List UInt8) : Prop :=
  0 < xs.length → ∃ ad, A = some ad ∧ ad.block < g ∧ ∀ j u, xs[j]? = some u → w.cell? (ad.add j) = some (.int .u8 (u.toNat : Int))
/-- what a fault is -/
def fault (p : Int) (e : Int) : Value := .iface 115 (.agg #[.int .i64 p, .int .i64 e])

theorem fail_any (p : Int) (er : Int) (w : World) : Calls Try.prog 79 #[.int .i64 p, .int .i64 er] w fun e w' => e = .panicked [{ v := fault p er, recovered := false }] ∧ w = w' := by
  go_enter Try.func79, Try.ntmps79
  go_wp2
  exact ⟨rfl, rfl, rfl⟩

theorem At.cells {w : World} {g : Nat} {A : Option Addr} {n c p : Nat} (h : At w g A n c p) : w.cell? ⟨g, 0, none⟩ = some (.slice A n c) ∧ w.cell? ⟨g, 1, none⟩ = some (.int .i64 p) ∧ w.frozen? ⟨g, 1, none⟩ = false := by
  unfold At at h
  simp [World.cell?, World.frozen?, h]
theorem At.lt {w : World} {g : Nat} {A : Option Addr} {n c p : Nat} (h : At w g A n c p) : g < w.heap.size := (Array.getElem?_eq_some_iff.1 h).1

def End (g : Nat) (A : Option Addr) (n c p : Nat) (v : Value) (w : World) (e : Ending) (w' : World) : Prop := e = .returned v ∧ At w' g A n c p ∧ w.grownBy w' (some g)
def Out_ (g : Nat) (p : Nat) (er : Int) (w : World) (e : Ending) (w' : World) : Prop := e = .panicked [{ v := fault p er, recovered := false }] ∧ w.grownBy w' (some g)

theorem G_drewN (g : Nat) (w : World) (k : Nat) : w.grownBy (w.drewN k) (some g) := ⟨rfl, rfl, rfl, Nat.le_refl _, fun _ _ _ => rfl⟩
theorem G_set {w w1 : World} {g : Nat} (h : w.grownBy w1 (some g)) (o : Nat) (u : Value) : w.grownBy (w1.setCell ⟨g, o, none⟩ u) (some g) :=
  ⟨h.os, h.tape, h.output, by simpa [World.setCell] using h.size, fun i hi hne => (Below.heap_setCell w1 _ u i (fun e => hne (by rw [e]))).trans (h.block i hi hne)⟩
theorem G_draw {w w1 : World} {g : Nat} (h : w.grownBy w1 (some g)) (k : Nat) : w.grownBy (w1.drewN k) (some g) := ⟨h.os, h.tape, h.output, h.size, h.block⟩
theorem G_trans {w w1 w2 : World} {g : Nat} (h : w.grownBy w1 (some g)) (k : w1.grownBy w2 (some g)) : w.grownBy w2 (some g) :=
  ⟨k.os.trans h.os, k.tape.trans h.tape, k.output.trans h.output, Nat.le_trans h.size k.size, fun i hi hne => (k.block i (Nat.lt_of_lt_of_le hi h.size) hne).trans (h.block i hi hne)⟩
theorem At.set {w : World} {g : Nat} {A : Option Addr} {n c p : Nat} (h : At w g A n c p) (q : Nat) : At (w.setCell ⟨g, 1, none⟩ (.int .i64 q)) g A n c q := by
  unfold At at h ⊢
  simp [World.setCell, Array.getElem?_modify, h]

theorem block_add (a : Addr) (n : Nat) : (a.add n).block = a.block := by unfold Addr.add; split <;> rfl

theorem At.draw {w : World} {g : Nat} {A : Option Addr} {n c p : Nat} (h : At w g A n c p) (k : Nat) : At (w.drewN k) g A n c p := h

theorem next_no (g : Nat) (A : Option Addr) (n c : Nat) (hn : n ≤ 30000) (w : World) (h : At w g A n c n) : Calls Try.prog 91 #[.pointer (some ⟨g, 0, none⟩)] w (Out_ g n 4 w) := by
  obtain ⟨h0, h1, h2⟩ := h.cells
  have cf := fun w => fail_any n 4 w
  go_enter Try.func91, Try.ntmps91
  go_wp2
  go_quiet (fail)
  go_wp2_with fail
  refine (cf _).mono ?_
  rintro e w1 ⟨rfl, rfl⟩
  go_wp2
  exact ⟨rfl, rfl, G_drewN _ _ _⟩

theorem Byt.at_ {w : World} {g : Nat} {A : Option Addr} {xs : List UInt8} (h : Byt w g A xs) {p : Nat} {u : UInt8} (hp : xs[p]? = some u) : ∃ ad, A = some ad ∧ ad.block < g ∧ w.cell? (ad.add p) = some (.int .u8 (u.toNat : Int)) := by
  have hl := (List.getElem?_eq_some_iff.1 hp).1
  obtain ⟨ad, e, hb, hc⟩ := h (by omega)
  exact ⟨ad, e, hb, hc p u hp⟩

theorem next_ok (g : Nat) (A : Option Addr) (n c p : Nat) (xs : List UInt8) (u : UInt8) (hn : n ≤ 30000) (hx : xs.length = n) (hu : xs[p]? = some u) (w : World) (h : At w g A n c p) (hb : Byt w g A xs) :
    Calls Try.prog 91 #[.pointer (some ⟨g, 0, none⟩)] w (End g A n c (p + 1) (.int .u8 (u.toNat : Int)) w) := by
  obtain ⟨h0, h1, h2⟩ := h.cells
  have hp : p < n := by have := (List.getElem?_eq_some_iff.1 hu).1; omega
  obtain ⟨ad, rfl, hlt, hc⟩ := hb.at_ hu
  clear hb hu hx
  have hne : ((p : Int) == (n : Int)) = false := by simp only [beq_eq_false_iff_ne, ne_eq]; omega
  have ew : IntKind.i64.wrap (p : Int) = (p : Int) := by rw [IntKind.wrap_i64]; omega
  have hset : ∀ (W : World) (v : Value), (W.setCell ⟨g, 1, none⟩ v).cell? (ad.add p) = W.cell? (ad.add p) := fun W v => World.cell?_setCell_other _ _ _ _ (fun e => by have := congrArg Addr.block e; rw [block_add] at this; simp at this; omega)
  go_enter Try.func91, Try.ntmps91
  go_wp2
  go_quiet (fail)
  go_wp2
  go_quiet (fail)
  go_wp2
  go_ret
  exact ⟨rfl, (At.set h _).draw nq, G_draw (G_set (G_drewN _ _ _) _ _) _⟩

/-- the ending that a reader's method comes to -/
def Come {α : Type} (g : Nat) (A : Option Addr) (n c p : Nat) (val : α → Value) (o : Out α) (w : World) (e : Ending) (w' : World) : Prop :=
  match o with
  | .ok x k => End g A n c (p + k) (val x) w e w'
  | .no a er => Out_ g (p + a) er w e w'

theorem drop_at {xs : List UInt8} {p : Nat} {u : UInt8} (h : xs[p]? = some u) : xs.drop p = u :: xs.drop (p + 1) := by
  obtain ⟨hl, e⟩ := List.getElem?_eq_some_iff.1 h
  rw [List.drop_eq_getElem_cons hl, e]

def Val64 (x : Nat) : Value := .int .u64 (x : Int)

theorem Byt.keep {w w1 : World} {g : Nat} {A : Option Addr} {xs : List UInt8} (h : Byt w g A xs) (hg : w.grownBy w1 (some g)) (hz : g < w.heap.size) : Byt w1 g A xs := fun hx => by
  obtain ⟨ad, e, hb, hc⟩ := h hx
  exact ⟨ad, e, hb, fun j u hu => (World.cell?_of_block (hg.block _ (by rw [block_add]; omega) (by rw [block_add]; intro e; injection e; omega))).trans (hc j u hu)⟩

theorem out_at {g : Nat} {p p' : Int} {er : Int} {w w' : World} (h : w.grownBy w' (some g)) (hp : p = p') : (Ending.panicked [{ v := fault p er, recovered := false }] = .panicked [{ v := fault p' er, recovered := false }]) ∧ w.grownBy w' (some g) := ⟨by rw [hp], h⟩

set_option maxHeartbeats 1000000 in
set_option maxRecDepth 100000 in
theorem number_any (g : Nat) (A : Option Addr) (n c p : Nat) (xs : List UInt8) (hn : n ≤ 30000) (hx : xs.length = n) (hp : p ≤ n) (w : World) (h : At w g A n c p) (hb : Byt w g A xs) :
    Calls Try.prog 67 #[.pointer (some ⟨g, 0, none⟩)] w (Come g A n c p Val64 (number (xs.drop p)) w) := by
  have hlt := h.lt
  obtain ⟨R, hR⟩ : ∃ R, R = number (xs.drop p) := ⟨_, rfl⟩
  rw [← hR]
  have HR := Lib.hid (show numGo 0 0 (xs.drop (p + 0)) = R from hR.symm)
  have HB := Lib.hid hb
  have HX := Lib.hid hx
  clear hR hb hx
  go_enter Try.func67, Try.ntmps67
  go_wp2
  go_loopw [3, 4, 5] (fun t i _ wr => ∃ q acc : Nat, q ≤ 9 ∧ p + q ≤ n ∧ Hid (acc < 128 ^ q) ∧ t = .int .u64 acc ∧ i = .int .i64 q ∧ Hid (numGo q acc (xs.drop (p + q)) = R) ∧ At wr g A n c (p + q) ∧ w.grownBy wr (some g)) (fun _ i _ _ => 9 - (intOf i).toNat)
  case atStart => exact ⟨0, 0, by omega, by omega, Lib.hid (by omega), rfl, rfl, HR, h, G_drewN g w 0⟩
  case round =>
    obtain ⟨q, acc, hq, hpq, hacc, rfl, rfl, HE, hat, hg⟩ := hrel
    clear h
    rcases Nat.lt_or_ge (p + q) n with hlt2 | hge
    · obtain ⟨u, hu⟩ : ∃ u, xs[p + q]? = some u := ⟨_, List.getElem?_eq_getElem (by have := HX.out; omega)⟩
      have cn := next_ok g A n c (p + q) xs u hn HX.out hu wr hat (HB.out.keep hg hlt)
      have E1 := HE.out
      rw [drop_at hu, numGo] at E1
      have hul : u.toNat < 256 := u.toNat_lt
      have hu0 : u = 0 ↔ u.toNat = 0 := ⟨fun h => by rw [h]; rfl, fun h => UInt8.toNat_inj.1 h⟩
      have hu1 : u = 1 ↔ u.toNat = 1 := ⟨fun h => by rw [h]; rfl, fun h => UInt8.toNat_inj.1 h⟩
      clear hu HE
      by_cases bad : (u = 0 ∧ 0 < q) ∨ (q = 9 ∧ u ≠ 1)
      · rw [if_pos bad] at E1
        rw [hu0, Ne, hu1] at bad
        clear hu0 hu1
        replace E1 := Lib.hid E1
        have cf := fun w => fail_any ((p : Int) + (q : Int)) 3 w
        by_cases z : u.toNat = 0
        · have b1 : ((u.toNat : Int) == 0) = true := by simp only [beq_iff_eq]; omega
          have b2 : 0 < (q : Int) := by omega
          clear z bad
          go_wp2_with fail
          refine cn.mono ?_
          rintro e w1 ⟨rfl, a1, g1⟩
          obtain ⟨x0, x1, -⟩ := a1.cells
          go_wp2_with fail
          refine (cf _).mono ?_
          rintro e w1 ⟨rfl, rfl⟩
          go_wp2
          refine ⟨rfl, ?_⟩
          rw [← E1.out]
          exact out_at (G_trans hg g1) (by simp)
        · have b1 : ((u.toNat : Int) == 0) = false := by simp only [beq_eq_false_iff_ne, ne_eq]; omega
          have b2 : ((q : Int) == 9) = true := by simp only [beq_iff_eq]; omega
          have b3 : ((u.toNat : Int) != 1) = true := by simp only [bne_iff_ne, ne_eq]; omega
          clear z bad
          go_wp2_with fail
          refine cn.mono ?_
          rintro e w1 ⟨rfl, a1, g1⟩
          obtain ⟨x0, x1, -⟩ := a1.cells
          go_wp2_with fail
          refine (cf _).mono ?_
          rintro e w1 ⟨rfl, rfl⟩
          go_wp2
          refine ⟨rfl, ?_⟩
          rw [← E1.out]
          exact out_at (G_trans hg g1) (by simp)
      · rw [if_neg bad] at E1
        have hb9 : q = 9 → u.toNat = 1 := fun h => by
          rcases Classical.em (u.toNat = 1) with k | k
          · exact k
          · exact absurd (.inr ⟨h, fun e => k (hu1.1 e)⟩) bad
        have hb0 : u.toNat = 0 → q = 0 := fun h => by
          rcases Nat.eq_zero_or_pos q with k | k
          · exact k
          · exact absurd (.inl ⟨hu0.2 h, k⟩) bad
        obtain ⟨s1, s2, s3⟩ := Bt.step acc q u.toNat hq hacc.out hul (fun h => by have := hb9 h; omega)
        obtain ⟨acc', ha'⟩ : ∃ a, a = acc + u.toNat % 128 * 128 ^ q := ⟨_, rfl⟩
        rw [← ha'] at s1 s2 s3 E1
        have S1 := Lib.hid s1
        have S3 := Lib.hid s3
        clear s1 s3 ha' hu0 hu1 bad
        by_cases small : u.toNat < 128
        · rw [if_pos small] at E1
          replace E1 := Lib.hid E1
          have b5 : (u.toNat : Int) < 128 := by omega
          by_cases z : u.toNat = 0
          · obtain rfl : q = 0 := hb0 z
            have S0 := S1.out
            rw [Nat.mul_zero, Int.pow_zero, Int.mul_one] at S0
            have HS0 := Lib.hid S0
            clear S0 S1
            have b1 : ((u.toNat : Int) == 0) = true := by simp only [beq_iff_eq]; omega
            clear z hb9 hb0 small
            go_wp2_with fail
            refine cn.mono ?_
            rintro e w1 ⟨rfl, a1, g1⟩
            go_wp2
            rw [HS0.out]
            go_ret
            rw [← E1.out]
            exact ⟨rfl, a1, G_trans hg g1⟩
          · by_cases nine : q = 9
            · have h9 := hb9 nine
              have b1 : ((u.toNat : Int) == 0) = false := by simp only [beq_eq_false_iff_ne, ne_eq]; omega
              have b3 : ((q : Int) == 9) = true := by simp only [beq_iff_eq]; omega
              have b4 : ((u.toNat : Int) != 1) = false := by simp only [bne_eq_false_iff_eq]; omega
              clear z h9 nine hb9 hb0 small
              go_wp2_with fail
              refine cn.mono ?_
              rintro e w1 ⟨rfl, a1, g1⟩
              go_wp2
              rw [S1.out]
              go_ret
              rw [← E1.out]
              exact ⟨rfl, a1, G_trans hg g1⟩
            · skip
              have b1 : ((u.toNat : Int) == 0) = false := by simp only [beq_eq_false_iff_ne, ne_eq]; omega
              have b3 : ((q : Int) == 9) = false := by simp only [beq_eq_false_iff_ne, ne_eq]; omega
              clear z nine hb9 hb0 small
              go_wp2_with fail
              refine cn.mono ?_
              rintro e w1 ⟨rfl, a1, g1⟩
              go_wp2
              rw [S1.out]
              go_ret
              rw [← E1.out]
              exact ⟨rfl, a1, G_trans hg g1⟩
        · rw [if_neg small] at E1
          replace E1 : numGo (q + 1) acc' (List.drop (p + (q + 1)) xs) = R := E1
          replace E1 := Lib.hid E1
          have b5 : 128 ≤ (u.toNat : Int) := by omega
          have nine : ¬ q = 9 := fun h => by have := hb9 h; omega
          have z : ¬ u.toNat = 0 := by omega
          have b1 : ((u.toNat : Int) == 0) = false := by simp only [beq_eq_false_iff_ne, ne_eq]; omega
          have b3 : ((q : Int) == 9) = false := by simp only [beq_eq_false_iff_ne, ne_eq]; omega
          have q8 : q ≤ 8 := by omega
          clear z nine hb9 hb0 small
          go_wp2_with fail
          refine cn.mono ?_
          rintro e w1 ⟨rfl, a1, g1⟩
          go_wp2
          rw [S1.out]
          go_roundw
          case rel => exact ⟨q + 1, acc', by omega, by omega, S3, rfl, by go_num, E1, a1, G_trans hg g1⟩
          case measure => simp [intOf]; omega
    · have E1 := HE.out
      rw [List.drop_eq_nil_of_le (by have := HX.out; omega), numGo] at E1
      have epq : p + q = n := by omega
      rw [epq] at hat
      have cn := next_no g A n c hn wr hat
      replace E1 := Lib.hid E1
      have EN := Lib.hid epq
      clear epq HE
      go_wp2_with fail
      refine cn.mono ?_
      rintro e w1 ⟨rfl, g1⟩
      go_wp2
      refine ⟨rfl, ?_⟩
      rw [← E1.out]
      exact out_at (G_trans hg g1) (by have := EN.out; omega)
end Rd
end Go.Proofs.Ytibhldifmneboaa
