/- Contract of package code's reader: num, a complex number. -/
import Derived.Test.YtibhldifmneboaaRe
import Derived.RegionTactic
import Derived.BigRegion
import Derived.Deep.RegionWith
namespace Go.Proofs.Ytibhldifmneboaa
open Go.RowKit
namespace Rd
open Cd Pl
set_option linter.unusedVariables false

theorem num_short (g : Nat) (A : Option Addr) (n c p : Nat) (hn : n ≤ 30000) (hp : p ≤ n) (hs : n - p < 16) (w : World) (h : At w g A n c p) :
    Calls Try.prog 71 #[.pointer (some ⟨g, 0, none⟩)] w (Out_ g n 4 w) := by
  have cN := fun w h => bytes_no g A n c p 16 hs (by omega) hn hp w h
  obtain ⟨h0, h1, h2⟩ := h.cells
  replace cN := cN w h
  clear hs
  go_enter Try.func71, Try.ntmps71
  go_wp2_with fail
  refine cN.mono ?_
  rintro e w1 ⟨rfl, g1⟩
  go_wp2
  exact ⟨rfl, rfl, g1⟩

theorem index_str (S : List UInt8) (i : Nat) (u : UInt8) (h : S[i]? = some u) (w : World) : (Instr.index 9 (.string ⟨S.toArray⟩) (.int .i64 (i : Int))).run Try.prog w = .ok (.int .u8 (u.toNat : Int)) w := by
  obtain ⟨hl, e⟩ := List.getElem?_eq_some_iff.1 h
  rw [run_index_string w 9 _ .i64 i Try.underlying9]
  have h1 : i < (⟨S.toArray⟩ : ByteArray).size := by show i < S.toArray.size; simpa using hl
  have h2 : (⟨S.toArray⟩ : ByteArray)[i]'h1 = u := by rw [← e]; rfl
  simp [h1, h2]

def ValZ (z : Nat × Nat) : Value := .complex .f64 z.1 z.2

theorem blk_set0 {W : World} {B : Nat} {x y u : Value} (h : W.heap[B]? = some (.cells #[x, y] 118 (0, 0))) : (W.setCell ⟨B, 0, none⟩ u).heap[B]? = some (.cells #[u, y] 118 (0, 0)) := by
  simp [World.setCell, Array.getElem?_modify, h]
theorem blk_set1 {W : World} {B : Nat} {x y u : Value} (h : W.heap[B]? = some (.cells #[x, y] 118 (0, 0))) : (W.setCell ⟨B, 1, none⟩ u).heap[B]? = some (.cells #[x, u] 118 (0, 0)) := by
  simp [World.setCell, Array.getElem?_modify, h]
theorem G_below {w w1 w2 : World} {g : Nat} (h : w.grownBy w1 (some g)) (k : Below w1.heap.size w1 w2) : w.grownBy w2 (some g) :=
  ⟨k.os.trans h.os, k.tape.trans h.tape, k.output.trans h.output, Nat.le_trans h.size k.size, fun i hi hne => (k.block i (Nat.lt_of_lt_of_le hi h.size)).trans (h.block i hi hne)⟩
theorem At.below {w w1 : World} {g : Nat} {A : Option Addr} {n c p : Nat} (h : At w g A n c p) (k : Below w.heap.size w w1) : At w1 g A n c p := (k.block g h.lt).trans h

set_option maxHeartbeats 1000000 in
theorem num_long (g : Nat) (A : Option Addr) (n c p : Nat) (xs : List UInt8) (hn : n ≤ 30000) (hc : n ≤ c) (hx : xs.length = n) (hp : p + 16 ≤ n) (w : World) (h : At w g A n c p) (hb : Byt w g A xs) :
    Calls Try.prog 71 #[.pointer (some ⟨g, 0, none⟩)] w (Come g A n c p ValZ (fineBits fineB (xs.drop p)) w) := by
  have cO := fun w h hb => bytes_ok g A n c p 16 xs hn hc hx hp w h hb
  obtain ⟨h0, h1, h2⟩ := h.cells
  replace cO := cO w h hb
  have hl : ((xs.drop p).take 16).length = 16 := by rw [List.length_take, List.length_drop]; omega
  have hD : ¬ (xs.drop p).length < 16 := by rw [List.length_drop]; omega
  obtain ⟨R, hR⟩ : ∃ R, R = fineBits fineB (xs.drop p) := ⟨_, rfl⟩
  rw [← hR]
  unfold fineBits at hR
  rw [if_neg hD] at hR
  generalize (xs.drop p).take 16 = S at *
  have HL := Lib.hid hl
  have HR := Lib.hid hR
  clear hl hR hD hb hx
  go_enter Try.func71, Try.ntmps71
  go_wp2_with fail
  refine cO.mono ?_
  rintro e w1 ⟨rfl, a1, g1⟩
  go_wp2
  go_loopw [6, 14] (fun _ t wr => ∃ i : Nat, i ≤ 16 ∧ t = .int .i64 i ∧ wr.heap[w1.heap.size]? = some (.cells #[.int .u64 (hiv S i), .int .u64 (lov S i)] 118 (0, 0)) ∧ Below w1.heap.size w1 wr) (fun _ t _ => 16 - (intOf t).toNat)
  case atStart => exact ⟨0, by omega, rfl, heap_alloc_new _ _, (Below.refl _ _).alloc (Nat.le_refl _) _⟩
  case round =>
    obtain ⟨i, hi, rfl, hblk, hbel⟩ := hrel
    have c0 : wr.cell? ⟨w1.heap.size, 0, none⟩ = some (.int .u64 (hiv S i : Int)) := by simp [World.cell?, hblk]
    have c1 : wr.cell? ⟨w1.heap.size, 1, none⟩ = some (.int .u64 (lov S i : Int)) := by simp [World.cell?, hblk]
    have f0 : wr.frozen? ⟨w1.heap.size, 0, none⟩ = false := by simp [World.frozen?, hblk]
    have f1 : wr.frozen? ⟨w1.heap.size, 1, none⟩ = false := by simp [World.frozen?, hblk]
    have HB := Lib.hid hbel
    have HK := Lib.hid hblk
    clear hbel hblk
    rcases Nat.lt_or_ge i 8 with h8 | h8
    · obtain ⟨u, hu⟩ : ∃ u, S[i]? = some u := ⟨_, List.getElem?_eq_getElem (by have := HL.out; omega)⟩
      have hix := fun w => index_str S i u hu w
      obtain ⟨s1, s2, s3⟩ := hiv_step hu h8
      have hbits := Bt.be_bits (hiv S i) u.toNat s3 u.toNat_lt
      rw [← s1] at hbits
      have S2 := Lib.hid s2
      have HBt := Lib.hid hbits
      have e8 : (i : Int) / 8 = 0 := by omega
      have e9 : IntKind.i64.wrap ((i : Int) / 8) = 0 := by rw [e8]; rfl
      clear s1 s2 s3 hu hbits
      go_wp2
      go_region
      go_wp2
      rw [HBt.out]
      go_roundw
      case rel => exact ⟨i + 1, by omega, rfl, by rw [S2.out]; exact blk_set0 HK.out, (HB.out.setCell (p := ⟨w1.heap.size, 0, none⟩) (Nat.le_refl _) _).drew⟩
      case measure => simp [intOf]; omega
    · rcases Nat.lt_or_ge i 16 with h16 | h16
      · obtain ⟨u, hu⟩ : ∃ u, S[i]? = some u := ⟨_, List.getElem?_eq_getElem (by have := HL.out; omega)⟩
        have hix := fun w => index_str S i u hu w
        obtain ⟨s1, s2, s3⟩ := lov_step hu h8 h16
        have hbits := Bt.be_bits (lov S i) u.toNat s3 u.toNat_lt
        rw [← s1] at hbits
        have S2 := Lib.hid s2
        have HBt := Lib.hid hbits
        have e8 : (i : Int) / 8 = 1 := by omega
        have e9 : IntKind.i64.wrap ((i : Int) / 8) = 1 := by rw [e8]; rfl
        clear s1 s2 s3 hu hbits
        go_wp2
        go_region
        go_wp2
        rw [HBt.out]
        go_roundw
        case rel => exact ⟨i + 1, by omega, rfl, by rw [S2.out]; exact blk_set1 HK.out, (HB.out.setCell (p := ⟨w1.heap.size, 1, none⟩) (Nat.le_refl _) _).drew⟩
        case measure => simp [intOf]; omega
      · obtain rfl : i = 16 := by omega
        have hfb := fun b w => run_frombits b w
        have l1 := hiv_lt S 16
        have l2 := lov_lt S 16 (by omega)
        have hat := At.below a1 HB.out
        have hgr := G_below g1 HB.out
        have HA := Lib.hid hat
        have HG := Lib.hid hgr
        clear hat hgr HK
        generalize hiv S 16 = X at *
        generalize lov S 16 = Y at *
        have cF := fun w => fine_any X Y l1 l2 w
        have cX := fun w => fail_any (p : Int) 20 w
        cases hf : fineB X Y with
        | true =>
          rw [hf] at cF
          have hr := HR.out
          rw [hf, if_pos rfl] at hr
          have HRR := Lib.hid hr
          clear hr hf HR cX
          go_wp2
          go_region
          go_wp2_with fail
          refine (cF _).mono ?_
          rintro e w3 ⟨rfl, m, rfl⟩
          go_wp2
          go_ret
          rw [HRR.out]
          exact ⟨rfl, HA.out.draw _, G_draw HG.out _⟩
        | false =>
          rw [hf] at cF
          have hr := HR.out
          rw [hf, if_neg (by simp)] at hr
          have HRR := Lib.hid hr
          clear hr hf HR
          go_wp2
          go_region
          go_wp2_with fail
          refine (cF _).mono ?_
          rintro e w3 ⟨rfl, m, rfl⟩
          go_wp2_with fail
          refine (cX _).mono ?_
          rintro e w4 ⟨rfl, rfl⟩
          go_wp2
          refine ⟨rfl, ?_⟩
          rw [HRR.out]
          exact out_at (G_draw HG.out _) (by simp)

theorem num_any (g : Nat) (A : Option Addr) (n c p : Nat) (xs : List UInt8) (hn : n ≤ 30000) (hc : n ≤ c) (hx : xs.length = n) (hp : p ≤ n) (w : World) (h : At w g A n c p) (hb : Byt w g A xs) :
    Calls Try.prog 71 #[.pointer (some ⟨g, 0, none⟩)] w (Come g A n c p ValZ (fineBits fineB (xs.drop p)) w) := by
  rcases Nat.lt_or_ge (n - p) 16 with hs | hs
  · have e : fineBits fineB (xs.drop p) = .no (n - p) 4 := by
      unfold fineBits
      rw [List.length_drop, hx, if_pos hs]
    rw [e]
    refine (num_short g A n c p hn hp hs w h).mono ?_
    rintro e w1 ⟨rfl, g1⟩
    exact out_at g1 (by omega)
  · exact num_long g A n c p xs hn hc hx (by omega) w h hb
end Rd
end Go.Proofs.Ytibhldifmneboaa
