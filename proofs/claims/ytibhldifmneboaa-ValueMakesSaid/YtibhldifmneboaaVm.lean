/- ValueMakes returns true at every whole number, every text and every two floats, and leaves all old memory as it was: four walks, by the text's length and by whether the number is fine. -/
import Derived.Test.YtibhldifmneboaaAl
namespace Go.Proofs.Ytibhldifmneboaa
open Go.RowKit
namespace Mk
open Fl Pl
attribute [local go_sem] st_complex
/-- what the walks come to -/
def Done (w : World) (e : Ending) (w' : World) : Prop := e = .returned (.bool true) ∧ Below w.heap.size w w'
theorem then_ {w w1 w2 : World} (h : Below w.heap.size w w1) (k : Below w1.heap.size w1 w2) : Below w.heap.size w w2 := h.trans (k.mono h.size)

set_option maxHeartbeats 1000000 in
set_option maxRecDepth 100000 in
theorem vm_tf (x : Int) (s : ByteArray) (a b : Nat) (ha : a < 18446744073709551616) (hb : b < 18446744073709551616) (hs : s.size ≤ 4095) (hf : fineB (pz a) (pz b) = true) (w : World) :
    Calls Try.prog 4 #[.int .i64 x, .string s, .float .f64 a, .float .f64 b] w (Done w) := by
  have cT := fun w => Text_ok s (by omega) w
  have cN := fun w => Num_ok a b ha hb hf w
  have cP := fun w => Plain2_any a b ha hb w
  have cF := fun w => fine2_any (pz a) (pz b) w
  rw [hf] at cF
  clear hf ha hb
  have B0 := Below.refl w.heap.size w
  go_enter Try.func4, Try.ntmps4
  go_wp2_with fail
  refine (cT _).mono ?_
  rintro e w1 ⟨t, rfl, zt, nt, K⟩
  have B1 := then_ B0 K
  replace zt : w.heap.size ≤ t := Nat.le_trans B0.size zt
  clear K B0
  go_wp2_with fail
  refine (cN _).mono ?_
  rintro e w2 ⟨n, rfl, zn, nn, K⟩
  have B2 := then_ B1 K
  replace nt := nt.below K
  replace zn : w.heap.size ≤ n := Nat.le_trans B1.size zn
  clear K B1
  go_wp2_with fail
  refine (rText_any _ _).mono ?_
  rintro e w3 ⟨rt, rfl, zrt, nrt, K⟩
  have B3 := then_ B2 K
  replace nt := nt.below K
  replace nn := nn.below K
  replace zrt : w.heap.size ≤ rt := Nat.le_trans B2.size zrt
  clear K B2
  go_wp2_with fail
  refine (Alike_same t rt _ _ _ _ _ _ _ nt nrt).mono ?_
  rintro e w4 ⟨rfl, K⟩
  have B4 := then_ B3 K
  replace nt := nt.below K
  replace nn := nn.below K
  replace nrt := nrt.below K
  clear K B3
  clear nt zt
  clear nrt zrt
  go_wp2_with fail
  refine (cP _).mono ?_
  rintro e w5 ⟨rfl, rfl⟩
  go_wp2_with fail
  refine (cF _).mono ?_
  rintro e w6 ⟨rfl, rfl⟩
  go_wp2_with fail
  refine (rNum_any _ _ _).mono ?_
  rintro e w7 ⟨rn, rfl, zrn, nrn, K⟩
  have B7 := then_ B4 K
  replace nn := nn.below K
  replace zrn : w.heap.size ≤ rn := Nat.le_trans B4.size zrn
  clear K B4
  go_wp2_with fail
  refine (Alike_same n rn _ _ _ _ _ _ _ nn nrn).mono ?_
  rintro e w8 ⟨rfl, K⟩
  have B8 := then_ B7 K
  replace nn := nn.below K
  replace nrn := nrn.below K
  clear K B7
  clear nrn zrn
  obtain ⟨c0, c1, c2, c3, c4⟩ := nn.cells
  go_wp2_with fail
  refine (cF _).mono ?_
  rintro e w9 ⟨rfl, rfl⟩
  clear c0 c1 c2 c3 c4
  clear nn zn
  go_wp2_with fail
  refine (Int_any _ _).mono ?_
  rintro e w10 ⟨i, rfl, zi, ni, K⟩
  have B10 := then_ B8 K
  replace zi : w.heap.size ≤ i := Nat.le_trans B8.size zi
  clear K B8
  go_wp2_with fail
  refine (Bool_true _).mono ?_
  rintro e w11 ⟨b, rfl, zb, nb, K⟩
  have B11 := then_ B10 K
  have qib : i < b := Nat.lt_of_lt_of_le ni.lt zb
  replace ni := ni.below K
  replace zb : w.heap.size ≤ b := Nat.le_trans B10.size zb
  clear K B10
  go_wp2_with fail
  refine (Bool_false _).mono ?_
  rintro e w12 ⟨c, rfl, zc, nc, K⟩
  have B12 := then_ B11 K
  have qic : i < c := Nat.lt_of_lt_of_le ni.lt zc
  have qbc : b < c := Nat.lt_of_lt_of_le nb.lt zc
  replace ni := ni.below K
  replace nb := nb.below K
  replace zc : w.heap.size ≤ c := Nat.le_trans B11.size zc
  clear K B11
  go_wp2_with fail
  refine (None_any _).mono ?_
  rintro e w13 ⟨d, rfl, zd, nd, K⟩
  have B13 := then_ B12 K
  have qid : i < d := Nat.lt_of_lt_of_le ni.lt zd
  have qbd : b < d := Nat.lt_of_lt_of_le nb.lt zd
  have qcd : c < d := Nat.lt_of_lt_of_le nc.lt zd
  replace ni := ni.below K
  replace nb := nb.below K
  replace nc := nc.below K
  replace zd : w.heap.size ≤ d := Nat.le_trans B12.size zd
  clear K B12
  go_wp2_with fail
  refine (rInt_any _ _).mono ?_
  rintro e w14 ⟨ri, rfl, zri, nri, K⟩
  have B14 := then_ B13 K
  replace ni := ni.below K
  replace nb := nb.below K
  replace nc := nc.below K
  replace nd := nd.below K
  replace zri : w.heap.size ≤ ri := Nat.le_trans B13.size zri
  clear K B13
  go_wp2_with fail
  refine (Alike_same i ri _ _ _ _ _ _ _ ni nri).mono ?_
  rintro e w15 ⟨rfl, K⟩
  have B15 := then_ B14 K
  replace ni := ni.below K
  replace nb := nb.below K
  replace nc := nc.below K
  replace nd := nd.below K
  replace nri := nri.below K
  clear K B14
  clear nri zri
  go_wp2_with fail
  refine (rTrue_any _).mono ?_
  rintro e w16 ⟨rb, rfl, zrb, nrb, K⟩
  have B16 := then_ B15 K
  replace ni := ni.below K
  replace nb := nb.below K
  replace nc := nc.below K
  replace nd := nd.below K
  replace zrb : w.heap.size ≤ rb := Nat.le_trans B15.size zrb
  clear K B15
  go_wp2_with fail
  refine (Alike_same b rb _ _ _ _ _ _ _ nb nrb).mono ?_
  rintro e w17 ⟨rfl, K⟩
  have B17 := then_ B16 K
  replace ni := ni.below K
  replace nb := nb.below K
  replace nc := nc.below K
  replace nd := nd.below K
  replace nrb := nrb.below K
  clear K B16
  clear nrb zrb
  go_wp2_with fail
  refine (rFalse_any _).mono ?_
  rintro e w18 ⟨rc, rfl, zrc, nrc, K⟩
  have B18 := then_ B17 K
  replace ni := ni.below K
  replace nb := nb.below K
  replace nc := nc.below K
  replace nd := nd.below K
  replace zrc : w.heap.size ≤ rc := Nat.le_trans B17.size zrc
  clear K B17
  go_wp2_with fail
  refine (Alike_same c rc _ _ _ _ _ _ _ nc nrc).mono ?_
  rintro e w19 ⟨rfl, K⟩
  have B19 := then_ B18 K
  replace ni := ni.below K
  replace nb := nb.below K
  replace nc := nc.below K
  replace nd := nd.below K
  replace nrc := nrc.below K
  clear K B18
  clear nrc zrc
  go_wp2_with fail
  refine (rNone_any _).mono ?_
  rintro e w20 ⟨rd, rfl, zrd, nrd, K⟩
  have B20 := then_ B19 K
  replace ni := ni.below K
  replace nb := nb.below K
  replace nc := nc.below K
  replace nd := nd.below K
  replace zrd : w.heap.size ≤ rd := Nat.le_trans B19.size zrd
  clear K B19
  go_wp2_with fail
  refine (Alike_same d rd _ _ _ _ _ _ _ nd nrd).mono ?_
  rintro e w21 ⟨rfl, K⟩
  have B21 := then_ B20 K
  replace ni := ni.below K
  replace nb := nb.below K
  replace nc := nc.below K
  replace nd := nd.below K
  replace nrd := nrd.below K
  clear K B20
  clear nrd zrd
  obtain ⟨-, -, i2, -, -⟩ := ni.cells
  have fi := ni.frozen 2
  have li := ni.lt
  obtain ⟨-, -, b2, -, -⟩ := nb.cells
  have fb := nb.frozen 2
  have lb := nb.lt
  obtain ⟨c0, -, -, -, -⟩ := nc.cells
  have fc := nc.frozen 0
  have lc := nc.lt
  obtain ⟨d0, -, -, -, -⟩ := nd.cells
  have fd := nd.frozen 0
  have ld := nd.lt
  have eib : ¬ i = b := by omega
  have ebi : ¬ b = i := by omega
  clear qib
  have eic : ¬ i = c := by omega
  have eci : ¬ c = i := by omega
  clear qic
  have eid : ¬ i = d := by omega
  have edi : ¬ d = i := by omega
  clear qid
  have ebc : ¬ b = c := by omega
  have ecb : ¬ c = b := by omega
  clear qbc
  have ebd : ¬ b = d := by omega
  have edb : ¬ d = b := by omega
  clear qbd
  have ecd : ¬ c = d := by omega
  have edc : ¬ d = c := by omega
  clear qcd
  clear ni nb nc nd
  have KS : ∀ v u : Value, Below w.heap.size w ((((w21.setCell ⟨i, 2, none⟩ v).setCell ⟨b, 2, none⟩ u).setCell ⟨c, 0, none⟩ (.int .u8 9)).setCell ⟨d, 0, none⟩ (.int .u8 9)) := fun v u =>
    (((B21.setCell (p := ⟨i, 2, none⟩) zi _).setCell (p := ⟨b, 2, none⟩) zb _).setCell (p := ⟨c, 0, none⟩) zc _).setCell (p := ⟨d, 0, none⟩) zd _
  go_wp2_with fail
  refine (Int_any _ _).mono ?_
  rintro e w22 ⟨j, rfl, -, nj, K⟩
  have B22 := then_ (KS _ _) K
  clear K KS B21
  go_wp2_with fail
  refine (rInt_any _ _).mono ?_
  rintro e w23 ⟨rj, rfl, -, nrj, K⟩
  have B23 := then_ B22 K
  replace nj := nj.below K
  clear K B22
  go_wp2_with fail
  refine (Alike_same j rj _ _ _ _ _ _ _ nj nrj).mono ?_
  rintro e w24 ⟨rfl, K⟩
  have B24 := then_ B23 K
  replace nj := nj.below K
  replace nrj := nrj.below K
  clear K B23
  clear nj
  clear nrj
  go_wp2_with fail
  refine (Bool_true _).mono ?_
  rintro e w25 ⟨p, rfl, -, np, K⟩
  have B25 := then_ B24 K
  clear K B24
  go_wp2_with fail
  refine (rTrue_any _).mono ?_
  rintro e w26 ⟨rp, rfl, -, nrp, K⟩
  have B26 := then_ B25 K
  replace np := np.below K
  clear K B25
  go_wp2_with fail
  refine (Alike_same p rp _ _ _ _ _ _ _ np nrp).mono ?_
  rintro e w27 ⟨rfl, K⟩
  have B27 := then_ B26 K
  replace np := np.below K
  replace nrp := nrp.below K
  clear K B26
  clear np
  clear nrp
  go_wp2_with fail
  refine (Bool_false _).mono ?_
  rintro e w28 ⟨q, rfl, -, nq, K⟩
  have B28 := then_ B27 K
  clear K B27
  go_wp2_with fail
  refine (rFalse_any _).mono ?_
  rintro e w29 ⟨rq, rfl, -, nrq, K⟩
  have B29 := then_ B28 K
  replace nq := nq.below K
  clear K B28
  go_wp2_with fail
  refine (Alike_same q rq _ _ _ _ _ _ _ nq nrq).mono ?_
  rintro e w30 ⟨rfl, K⟩
  have B30 := then_ B29 K
  replace nq := nq.below K
  replace nrq := nrq.below K
  clear K B29
  clear nq
  clear nrq
  go_wp2_with fail
  refine (None_any _).mono ?_
  rintro e w31 ⟨u, rfl, -, nu, K⟩
  have B31 := then_ B30 K
  clear K B30
  go_wp2_with fail
  refine (rNone_any _).mono ?_
  rintro e w32 ⟨ru, rfl, -, nru, K⟩
  have B32 := then_ B31 K
  replace nu := nu.below K
  clear K B31
  go_wp2_with fail
  refine (Alike_same u ru _ _ _ _ _ _ _ nu nru).mono ?_
  rintro e w33 ⟨rfl, K⟩
  have B33 := then_ B32 K
  replace nu := nu.below K
  replace nru := nru.below K
  clear K B32
  clear nu
  clear nru
  go_wp2
  go_ret
  exact ⟨rfl, B33⟩
set_option maxHeartbeats 1000000 in
set_option maxRecDepth 100000 in
theorem vm_t (x : Int) (s : ByteArray) (a b : Nat) (ha : a < 18446744073709551616) (hb : b < 18446744073709551616) (hs : s.size ≤ 4095) (hf : fineB (pz a) (pz b) = false) (w : World) :
    Calls Try.prog 4 #[.int .i64 x, .string s, .float .f64 a, .float .f64 b] w (Done w) := by
  have cT := fun w => Text_ok s (by omega) w
  have cN := fun w => Num_no a b ha hb hf w
  have cP := fun w => Plain2_any a b ha hb w
  have cF := fun w => fine2_any (pz a) (pz b) w
  rw [hf] at cF
  clear hf ha hb
  have B0 := Below.refl w.heap.size w
  go_enter Try.func4, Try.ntmps4
  go_wp2_with fail
  refine (cT _).mono ?_
  rintro e w1 ⟨t, rfl, zt, nt, K⟩
  have B1 := then_ B0 K
  replace zt : w.heap.size ≤ t := Nat.le_trans B0.size zt
  clear K B0
  go_wp2_with fail
  refine (cN _).mono ?_
  rintro e w2 ⟨rfl, K⟩
  have B2 := then_ B1 K
  replace nt := nt.below K
  clear K B1
  go_wp2_with fail
  refine (rText_any _ _).mono ?_
  rintro e w3 ⟨rt, rfl, zrt, nrt, K⟩
  have B3 := then_ B2 K
  replace nt := nt.below K
  replace zrt : w.heap.size ≤ rt := Nat.le_trans B2.size zrt
  clear K B2
  go_wp2_with fail
  refine (Alike_same t rt _ _ _ _ _ _ _ nt nrt).mono ?_
  rintro e w4 ⟨rfl, K⟩
  have B4 := then_ B3 K
  replace nt := nt.below K
  replace nrt := nrt.below K
  clear K B3
  clear nt zt
  clear nrt zrt
  go_wp2_with fail
  refine (cP _).mono ?_
  rintro e w5 ⟨rfl, rfl⟩
  go_wp2_with fail
  refine (cF _).mono ?_
  rintro e w6 ⟨rfl, rfl⟩
  go_wp2_with fail
  refine (Int_any _ _).mono ?_
  rintro e w7 ⟨i, rfl, zi, ni, K⟩
  have B7 := then_ B4 K
  replace zi : w.heap.size ≤ i := Nat.le_trans B4.size zi
  clear K B4
  go_wp2_with fail
  refine (Bool_true _).mono ?_
  rintro e w8 ⟨b, rfl, zb, nb, K⟩
  have B8 := then_ B7 K
  have qib : i < b := Nat.lt_of_lt_of_le ni.lt zb
  replace ni := ni.below K
  replace zb : w.heap.size ≤ b := Nat.le_trans B7.size zb
  clear K B7
  go_wp2_with fail
  refine (Bool_false _).mono ?_
  rintro e w9 ⟨c, rfl, zc, nc, K⟩
  have B9 := then_ B8 K
  have qic : i < c := Nat.lt_of_lt_of_le ni.lt zc
  have qbc : b < c := Nat.lt_of_lt_of_le nb.lt zc
  replace ni := ni.below K
  replace nb := nb.below K
  replace zc : w.heap.size ≤ c := Nat.le_trans B8.size zc
  clear K B8
  go_wp2_with fail
  refine (None_any _).mono ?_
  rintro e w10 ⟨d, rfl, zd, nd, K⟩
  have B10 := then_ B9 K
  have qid : i < d := Nat.lt_of_lt_of_le ni.lt zd
  have qbd : b < d := Nat.lt_of_lt_of_le nb.lt zd
  have qcd : c < d := Nat.lt_of_lt_of_le nc.lt zd
  replace ni := ni.below K
  replace nb := nb.below K
  replace nc := nc.below K
  replace zd : w.heap.size ≤ d := Nat.le_trans B9.size zd
  clear K B9
  go_wp2_with fail
  refine (rInt_any _ _).mono ?_
  rintro e w11 ⟨ri, rfl, zri, nri, K⟩
  have B11 := then_ B10 K
  replace ni := ni.below K
  replace nb := nb.below K
  replace nc := nc.below K
  replace nd := nd.below K
  replace zri : w.heap.size ≤ ri := Nat.le_trans B10.size zri
  clear K B10
  go_wp2_with fail
  refine (Alike_same i ri _ _ _ _ _ _ _ ni nri).mono ?_
  rintro e w12 ⟨rfl, K⟩
  have B12 := then_ B11 K
  replace ni := ni.below K
  replace nb := nb.below K
  replace nc := nc.below K
  replace nd := nd.below K
  replace nri := nri.below K
  clear K B11
  clear nri zri
  go_wp2_with fail
  refine (rTrue_any _).mono ?_
  rintro e w13 ⟨rb, rfl, zrb, nrb, K⟩
  have B13 := then_ B12 K
  replace ni := ni.below K
  replace nb := nb.below K
  replace nc := nc.below K
  replace nd := nd.below K
  replace zrb : w.heap.size ≤ rb := Nat.le_trans B12.size zrb
  clear K B12
  go_wp2_with fail
  refine (Alike_same b rb _ _ _ _ _ _ _ nb nrb).mono ?_
  rintro e w14 ⟨rfl, K⟩
  have B14 := then_ B13 K
  replace ni := ni.below K
  replace nb := nb.below K
  replace nc := nc.below K
  replace nd := nd.below K
  replace nrb := nrb.below K
  clear K B13
  clear nrb zrb
  go_wp2_with fail
  refine (rFalse_any _).mono ?_
  rintro e w15 ⟨rc, rfl, zrc, nrc, K⟩
  have B15 := then_ B14 K
  replace ni := ni.below K
  replace nb := nb.below K
  replace nc := nc.below K
  replace nd := nd.below K
  replace zrc : w.heap.size ≤ rc := Nat.le_trans B14.size zrc
  clear K B14
  go_wp2_with fail
  refine (Alike_same c rc _ _ _ _ _ _ _ nc nrc).mono ?_
  rintro e w16 ⟨rfl, K⟩
  have B16 := then_ B15 K
  replace ni := ni.below K
  replace nb := nb.below K
  replace nc := nc.below K
  replace nd := nd.below K
  replace nrc := nrc.below K
  clear K B15
  clear nrc zrc
  go_wp2_with fail
  refine (rNone_any _).mono ?_
  rintro e w17 ⟨rd, rfl, zrd, nrd, K⟩
  have B17 := then_ B16 K
  replace ni := ni.below K
  replace nb := nb.below K
  replace nc := nc.below K
  replace nd := nd.below K
  replace zrd : w.heap.size ≤ rd := Nat.le_trans B16.size zrd
  clear K B16
  go_wp2_with fail
  refine (Alike_same d rd _ _ _ _ _ _ _ nd nrd).mono ?_
  rintro e w18 ⟨rfl, K⟩
  have B18 := then_ B17 K
  replace ni := ni.below K
  replace nb := nb.below K
  replace nc := nc.below K
  replace nd := nd.below K
  replace nrd := nrd.below K
  clear K B17
  clear nrd zrd
  obtain ⟨-, -, i2, -, -⟩ := ni.cells
  have fi := ni.frozen 2
  have li := ni.lt
  obtain ⟨-, -, b2, -, -⟩ := nb.cells
  have fb := nb.frozen 2
  have lb := nb.lt
  obtain ⟨c0, -, -, -, -⟩ := nc.cells
  have fc := nc.frozen 0
  have lc := nc.lt
  obtain ⟨d0, -, -, -, -⟩ := nd.cells
  have fd := nd.frozen 0
  have ld := nd.lt
  have eib : ¬ i = b := by omega
  have ebi : ¬ b = i := by omega
  clear qib
  have eic : ¬ i = c := by omega
  have eci : ¬ c = i := by omega
  clear qic
  have eid : ¬ i = d := by omega
  have edi : ¬ d = i := by omega
  clear qid
  have ebc : ¬ b = c := by omega
  have ecb : ¬ c = b := by omega
  clear qbc
  have ebd : ¬ b = d := by omega
  have edb : ¬ d = b := by omega
  clear qbd
  have ecd : ¬ c = d := by omega
  have edc : ¬ d = c := by omega
  clear qcd
  clear ni nb nc nd
  have KS : ∀ v u : Value, Below w.heap.size w ((((w18.setCell ⟨i, 2, none⟩ v).setCell ⟨b, 2, none⟩ u).setCell ⟨c, 0, none⟩ (.int .u8 9)).setCell ⟨d, 0, none⟩ (.int .u8 9)) := fun v u =>
    (((B18.setCell (p := ⟨i, 2, none⟩) zi _).setCell (p := ⟨b, 2, none⟩) zb _).setCell (p := ⟨c, 0, none⟩) zc _).setCell (p := ⟨d, 0, none⟩) zd _
  go_wp2_with fail
  refine (Int_any _ _).mono ?_
  rintro e w19 ⟨j, rfl, -, nj, K⟩
  have B19 := then_ (KS _ _) K
  clear K KS B18
  go_wp2_with fail
  refine (rInt_any _ _).mono ?_
  rintro e w20 ⟨rj, rfl, -, nrj, K⟩
  have B20 := then_ B19 K
  replace nj := nj.below K
  clear K B19
  go_wp2_with fail
  refine (Alike_same j rj _ _ _ _ _ _ _ nj nrj).mono ?_
  rintro e w21 ⟨rfl, K⟩
  have B21 := then_ B20 K
  replace nj := nj.below K
  replace nrj := nrj.below K
  clear K B20
  clear nj
  clear nrj
  go_wp2_with fail
  refine (Bool_true _).mono ?_
  rintro e w22 ⟨p, rfl, -, np, K⟩
  have B22 := then_ B21 K
  clear K B21
  go_wp2_with fail
  refine (rTrue_any _).mono ?_
  rintro e w23 ⟨rp, rfl, -, nrp, K⟩
  have B23 := then_ B22 K
  replace np := np.below K
  clear K B22
  go_wp2_with fail
  refine (Alike_same p rp _ _ _ _ _ _ _ np nrp).mono ?_
  rintro e w24 ⟨rfl, K⟩
  have B24 := then_ B23 K
  replace np := np.below K
  replace nrp := nrp.below K
  clear K B23
  clear np
  clear nrp
  go_wp2_with fail
  refine (Bool_false _).mono ?_
  rintro e w25 ⟨q, rfl, -, nq, K⟩
  have B25 := then_ B24 K
  clear K B24
  go_wp2_with fail
  refine (rFalse_any _).mono ?_
  rintro e w26 ⟨rq, rfl, -, nrq, K⟩
  have B26 := then_ B25 K
  replace nq := nq.below K
  clear K B25
  go_wp2_with fail
  refine (Alike_same q rq _ _ _ _ _ _ _ nq nrq).mono ?_
  rintro e w27 ⟨rfl, K⟩
  have B27 := then_ B26 K
  replace nq := nq.below K
  replace nrq := nrq.below K
  clear K B26
  clear nq
  clear nrq
  go_wp2_with fail
  refine (None_any _).mono ?_
  rintro e w28 ⟨u, rfl, -, nu, K⟩
  have B28 := then_ B27 K
  clear K B27
  go_wp2_with fail
  refine (rNone_any _).mono ?_
  rintro e w29 ⟨ru, rfl, -, nru, K⟩
  have B29 := then_ B28 K
  replace nu := nu.below K
  clear K B28
  go_wp2_with fail
  refine (Alike_same u ru _ _ _ _ _ _ _ nu nru).mono ?_
  rintro e w30 ⟨rfl, K⟩
  have B30 := then_ B29 K
  replace nu := nu.below K
  replace nru := nru.below K
  clear K B29
  clear nu
  clear nru
  go_wp2
  go_ret
  exact ⟨rfl, B30⟩
set_option maxHeartbeats 1000000 in
set_option maxRecDepth 100000 in
theorem vm_f (x : Int) (s : ByteArray) (a b : Nat) (ha : a < 18446744073709551616) (hb : b < 18446744073709551616) (hs : 4095 < s.size) (hf : fineB (pz a) (pz b) = true) (w : World) :
    Calls Try.prog 4 #[.int .i64 x, .string s, .float .f64 a, .float .f64 b] w (Done w) := by
  have cT := fun w => Text_no s (by omega) w
  have cN := fun w => Num_ok a b ha hb hf w
  have cP := fun w => Plain2_any a b ha hb w
  have cF := fun w => fine2_any (pz a) (pz b) w
  rw [hf] at cF
  clear hf ha hb
  have B0 := Below.refl w.heap.size w
  go_enter Try.func4, Try.ntmps4
  go_wp2_with fail
  refine (cT _).mono ?_
  rintro e w1 ⟨rfl, K⟩
  have B1 := then_ B0 K
  clear K B0
  go_wp2_with fail
  refine (cN _).mono ?_
  rintro e w2 ⟨n, rfl, zn, nn, K⟩
  have B2 := then_ B1 K
  replace zn : w.heap.size ≤ n := Nat.le_trans B1.size zn
  clear K B1
  go_wp2_with fail
  refine (cP _).mono ?_
  rintro e w3 ⟨rfl, rfl⟩
  go_wp2_with fail
  refine (cF _).mono ?_
  rintro e w4 ⟨rfl, rfl⟩
  go_wp2_with fail
  refine (rNum_any _ _ _).mono ?_
  rintro e w5 ⟨rn, rfl, zrn, nrn, K⟩
  have B5 := then_ B2 K
  replace nn := nn.below K
  replace zrn : w.heap.size ≤ rn := Nat.le_trans B2.size zrn
  clear K B2
  go_wp2_with fail
  refine (Alike_same n rn _ _ _ _ _ _ _ nn nrn).mono ?_
  rintro e w6 ⟨rfl, K⟩
  have B6 := then_ B5 K
  replace nn := nn.below K
  replace nrn := nrn.below K
  clear K B5
  clear nrn zrn
  obtain ⟨c0, c1, c2, c3, c4⟩ := nn.cells
  go_wp2_with fail
  refine (cF _).mono ?_
  rintro e w7 ⟨rfl, rfl⟩
  clear c0 c1 c2 c3 c4
  clear nn zn
  go_wp2_with fail
  refine (Int_any _ _).mono ?_
  rintro e w8 ⟨i, rfl, zi, ni, K⟩
  have B8 := then_ B6 K
  replace zi : w.heap.size ≤ i := Nat.le_trans B6.size zi
  clear K B6
  go_wp2_with fail
  refine (Bool_true _).mono ?_
  rintro e w9 ⟨b, rfl, zb, nb, K⟩
  have B9 := then_ B8 K
  have qib : i < b := Nat.lt_of_lt_of_le ni.lt zb
  replace ni := ni.below K
  replace zb : w.heap.size ≤ b := Nat.le_trans B8.size zb
  clear K B8
  go_wp2_with fail
  refine (Bool_false _).mono ?_
  rintro e w10 ⟨c, rfl, zc, nc, K⟩
  have B10 := then_ B9 K
  have qic : i < c := Nat.lt_of_lt_of_le ni.lt zc
  have qbc : b < c := Nat.lt_of_lt_of_le nb.lt zc
  replace ni := ni.below K
  replace nb := nb.below K
  replace zc : w.heap.size ≤ c := Nat.le_trans B9.size zc
  clear K B9
  go_wp2_with fail
  refine (None_any _).mono ?_
  rintro e w11 ⟨d, rfl, zd, nd, K⟩
  have B11 := then_ B10 K
  have qid : i < d := Nat.lt_of_lt_of_le ni.lt zd
  have qbd : b < d := Nat.lt_of_lt_of_le nb.lt zd
  have qcd : c < d := Nat.lt_of_lt_of_le nc.lt zd
  replace ni := ni.below K
  replace nb := nb.below K
  replace nc := nc.below K
  replace zd : w.heap.size ≤ d := Nat.le_trans B10.size zd
  clear K B10
  go_wp2_with fail
  refine (rInt_any _ _).mono ?_
  rintro e w12 ⟨ri, rfl, zri, nri, K⟩
  have B12 := then_ B11 K
  replace ni := ni.below K
  replace nb := nb.below K
  replace nc := nc.below K
  replace nd := nd.below K
  replace zri : w.heap.size ≤ ri := Nat.le_trans B11.size zri
  clear K B11
  go_wp2_with fail
  refine (Alike_same i ri _ _ _ _ _ _ _ ni nri).mono ?_
  rintro e w13 ⟨rfl, K⟩
  have B13 := then_ B12 K
  replace ni := ni.below K
  replace nb := nb.below K
  replace nc := nc.below K
  replace nd := nd.below K
  replace nri := nri.below K
  clear K B12
  clear nri zri
  go_wp2_with fail
  refine (rTrue_any _).mono ?_
  rintro e w14 ⟨rb, rfl, zrb, nrb, K⟩
  have B14 := then_ B13 K
  replace ni := ni.below K
  replace nb := nb.below K
  replace nc := nc.below K
  replace nd := nd.below K
  replace zrb : w.heap.size ≤ rb := Nat.le_trans B13.size zrb
  clear K B13
  go_wp2_with fail
  refine (Alike_same b rb _ _ _ _ _ _ _ nb nrb).mono ?_
  rintro e w15 ⟨rfl, K⟩
  have B15 := then_ B14 K
  replace ni := ni.below K
  replace nb := nb.below K
  replace nc := nc.below K
  replace nd := nd.below K
  replace nrb := nrb.below K
  clear K B14
  clear nrb zrb
  go_wp2_with fail
  refine (rFalse_any _).mono ?_
  rintro e w16 ⟨rc, rfl, zrc, nrc, K⟩
  have B16 := then_ B15 K
  replace ni := ni.below K
  replace nb := nb.below K
  replace nc := nc.below K
  replace nd := nd.below K
  replace zrc : w.heap.size ≤ rc := Nat.le_trans B15.size zrc
  clear K B15
  go_wp2_with fail
  refine (Alike_same c rc _ _ _ _ _ _ _ nc nrc).mono ?_
  rintro e w17 ⟨rfl, K⟩
  have B17 := then_ B16 K
  replace ni := ni.below K
  replace nb := nb.below K
  replace nc := nc.below K
  replace nd := nd.below K
  replace nrc := nrc.below K
  clear K B16
  clear nrc zrc
  go_wp2_with fail
  refine (rNone_any _).mono ?_
  rintro e w18 ⟨rd, rfl, zrd, nrd, K⟩
  have B18 := then_ B17 K
  replace ni := ni.below K
  replace nb := nb.below K
  replace nc := nc.below K
  replace nd := nd.below K
  replace zrd : w.heap.size ≤ rd := Nat.le_trans B17.size zrd
  clear K B17
  go_wp2_with fail
  refine (Alike_same d rd _ _ _ _ _ _ _ nd nrd).mono ?_
  rintro e w19 ⟨rfl, K⟩
  have B19 := then_ B18 K
  replace ni := ni.below K
  replace nb := nb.below K
  replace nc := nc.below K
  replace nd := nd.below K
  replace nrd := nrd.below K
  clear K B18
  clear nrd zrd
  obtain ⟨-, -, i2, -, -⟩ := ni.cells
  have fi := ni.frozen 2
  have li := ni.lt
  obtain ⟨-, -, b2, -, -⟩ := nb.cells
  have fb := nb.frozen 2
  have lb := nb.lt
  obtain ⟨c0, -, -, -, -⟩ := nc.cells
  have fc := nc.frozen 0
  have lc := nc.lt
  obtain ⟨d0, -, -, -, -⟩ := nd.cells
  have fd := nd.frozen 0
  have ld := nd.lt
  have eib : ¬ i = b := by omega
  have ebi : ¬ b = i := by omega
  clear qib
  have eic : ¬ i = c := by omega
  have eci : ¬ c = i := by omega
  clear qic
  have eid : ¬ i = d := by omega
  have edi : ¬ d = i := by omega
  clear qid
  have ebc : ¬ b = c := by omega
  have ecb : ¬ c = b := by omega
  clear qbc
  have ebd : ¬ b = d := by omega
  have edb : ¬ d = b := by omega
  clear qbd
  have ecd : ¬ c = d := by omega
  have edc : ¬ d = c := by omega
  clear qcd
  clear ni nb nc nd
  have KS : ∀ v u : Value, Below w.heap.size w ((((w19.setCell ⟨i, 2, none⟩ v).setCell ⟨b, 2, none⟩ u).setCell ⟨c, 0, none⟩ (.int .u8 9)).setCell ⟨d, 0, none⟩ (.int .u8 9)) := fun v u =>
    (((B19.setCell (p := ⟨i, 2, none⟩) zi _).setCell (p := ⟨b, 2, none⟩) zb _).setCell (p := ⟨c, 0, none⟩) zc _).setCell (p := ⟨d, 0, none⟩) zd _
  go_wp2_with fail
  refine (Int_any _ _).mono ?_
  rintro e w20 ⟨j, rfl, -, nj, K⟩
  have B20 := then_ (KS _ _) K
  clear K KS B19
  go_wp2_with fail
  refine (rInt_any _ _).mono ?_
  rintro e w21 ⟨rj, rfl, -, nrj, K⟩
  have B21 := then_ B20 K
  replace nj := nj.below K
  clear K B20
  go_wp2_with fail
  refine (Alike_same j rj _ _ _ _ _ _ _ nj nrj).mono ?_
  rintro e w22 ⟨rfl, K⟩
  have B22 := then_ B21 K
  replace nj := nj.below K
  replace nrj := nrj.below K
  clear K B21
  clear nj
  clear nrj
  go_wp2_with fail
  refine (Bool_true _).mono ?_
  rintro e w23 ⟨p, rfl, -, np, K⟩
  have B23 := then_ B22 K
  clear K B22
  go_wp2_with fail
  refine (rTrue_any _).mono ?_
  rintro e w24 ⟨rp, rfl, -, nrp, K⟩
  have B24 := then_ B23 K
  replace np := np.below K
  clear K B23
  go_wp2_with fail
  refine (Alike_same p rp _ _ _ _ _ _ _ np nrp).mono ?_
  rintro e w25 ⟨rfl, K⟩
  have B25 := then_ B24 K
  replace np := np.below K
  replace nrp := nrp.below K
  clear K B24
  clear np
  clear nrp
  go_wp2_with fail
  refine (Bool_false _).mono ?_
  rintro e w26 ⟨q, rfl, -, nq, K⟩
  have B26 := then_ B25 K
  clear K B25
  go_wp2_with fail
  refine (rFalse_any _).mono ?_
  rintro e w27 ⟨rq, rfl, -, nrq, K⟩
  have B27 := then_ B26 K
  replace nq := nq.below K
  clear K B26
  go_wp2_with fail
  refine (Alike_same q rq _ _ _ _ _ _ _ nq nrq).mono ?_
  rintro e w28 ⟨rfl, K⟩
  have B28 := then_ B27 K
  replace nq := nq.below K
  replace nrq := nrq.below K
  clear K B27
  clear nq
  clear nrq
  go_wp2_with fail
  refine (None_any _).mono ?_
  rintro e w29 ⟨u, rfl, -, nu, K⟩
  have B29 := then_ B28 K
  clear K B28
  go_wp2_with fail
  refine (rNone_any _).mono ?_
  rintro e w30 ⟨ru, rfl, -, nru, K⟩
  have B30 := then_ B29 K
  replace nu := nu.below K
  clear K B29
  go_wp2_with fail
  refine (Alike_same u ru _ _ _ _ _ _ _ nu nru).mono ?_
  rintro e w31 ⟨rfl, K⟩
  have B31 := then_ B30 K
  replace nu := nu.below K
  replace nru := nru.below K
  clear K B30
  clear nu
  clear nru
  go_wp2
  go_ret
  exact ⟨rfl, B31⟩
set_option maxHeartbeats 1000000 in
set_option maxRecDepth 100000 in
theorem vm_ (x : Int) (s : ByteArray) (a b : Nat) (ha : a < 18446744073709551616) (hb : b < 18446744073709551616) (hs : 4095 < s.size) (hf : fineB (pz a) (pz b) = false) (w : World) :
    Calls Try.prog 4 #[.int .i64 x, .string s, .float .f64 a, .float .f64 b] w (Done w) := by
  have cT := fun w => Text_no s (by omega) w
  have cN := fun w => Num_no a b ha hb hf w
  have cP := fun w => Plain2_any a b ha hb w
  have cF := fun w => fine2_any (pz a) (pz b) w
  rw [hf] at cF
  clear hf ha hb
  have B0 := Below.refl w.heap.size w
  go_enter Try.func4, Try.ntmps4
  go_wp2_with fail
  refine (cT _).mono ?_
  rintro e w1 ⟨rfl, K⟩
  have B1 := then_ B0 K
  clear K B0
  go_wp2_with fail
  refine (cN _).mono ?_
  rintro e w2 ⟨rfl, K⟩
  have B2 := then_ B1 K
  clear K B1
  go_wp2_with fail
  refine (cP _).mono ?_
  rintro e w3 ⟨rfl, rfl⟩
  go_wp2_with fail
  refine (cF _).mono ?_
  rintro e w4 ⟨rfl, rfl⟩
  go_wp2_with fail
  refine (Int_any _ _).mono ?_
  rintro e w5 ⟨i, rfl, zi, ni, K⟩
  have B5 := then_ B2 K
  replace zi : w.heap.size ≤ i := Nat.le_trans B2.size zi
  clear K B2
  go_wp2_with fail
  refine (Bool_true _).mono ?_
  rintro e w6 ⟨b, rfl, zb, nb, K⟩
  have B6 := then_ B5 K
  have qib : i < b := Nat.lt_of_lt_of_le ni.lt zb
  replace ni := ni.below K
  replace zb : w.heap.size ≤ b := Nat.le_trans B5.size zb
  clear K B5
  go_wp2_with fail
  refine (Bool_false _).mono ?_
  rintro e w7 ⟨c, rfl, zc, nc, K⟩
  have B7 := then_ B6 K
  have qic : i < c := Nat.lt_of_lt_of_le ni.lt zc
  have qbc : b < c := Nat.lt_of_lt_of_le nb.lt zc
  replace ni := ni.below K
  replace nb := nb.below K
  replace zc : w.heap.size ≤ c := Nat.le_trans B6.size zc
  clear K B6
  go_wp2_with fail
  refine (None_any _).mono ?_
  rintro e w8 ⟨d, rfl, zd, nd, K⟩
  have B8 := then_ B7 K
  have qid : i < d := Nat.lt_of_lt_of_le ni.lt zd
  have qbd : b < d := Nat.lt_of_lt_of_le nb.lt zd
  have qcd : c < d := Nat.lt_of_lt_of_le nc.lt zd
  replace ni := ni.below K
  replace nb := nb.below K
  replace nc := nc.below K
  replace zd : w.heap.size ≤ d := Nat.le_trans B7.size zd
  clear K B7
  go_wp2_with fail
  refine (rInt_any _ _).mono ?_
  rintro e w9 ⟨ri, rfl, zri, nri, K⟩
  have B9 := then_ B8 K
  replace ni := ni.below K
  replace nb := nb.below K
  replace nc := nc.below K
  replace nd := nd.below K
  replace zri : w.heap.size ≤ ri := Nat.le_trans B8.size zri
  clear K B8
  go_wp2_with fail
  refine (Alike_same i ri _ _ _ _ _ _ _ ni nri).mono ?_
  rintro e w10 ⟨rfl, K⟩
  have B10 := then_ B9 K
  replace ni := ni.below K
  replace nb := nb.below K
  replace nc := nc.below K
  replace nd := nd.below K
  replace nri := nri.below K
  clear K B9
  clear nri zri
  go_wp2_with fail
  refine (rTrue_any _).mono ?_
  rintro e w11 ⟨rb, rfl, zrb, nrb, K⟩
  have B11 := then_ B10 K
  replace ni := ni.below K
  replace nb := nb.below K
  replace nc := nc.below K
  replace nd := nd.below K
  replace zrb : w.heap.size ≤ rb := Nat.le_trans B10.size zrb
  clear K B10
  go_wp2_with fail
  refine (Alike_same b rb _ _ _ _ _ _ _ nb nrb).mono ?_
  rintro e w12 ⟨rfl, K⟩
  have B12 := then_ B11 K
  replace ni := ni.below K
  replace nb := nb.below K
  replace nc := nc.below K
  replace nd := nd.below K
  replace nrb := nrb.below K
  clear K B11
  clear nrb zrb
  go_wp2_with fail
  refine (rFalse_any _).mono ?_
  rintro e w13 ⟨rc, rfl, zrc, nrc, K⟩
  have B13 := then_ B12 K
  replace ni := ni.below K
  replace nb := nb.below K
  replace nc := nc.below K
  replace nd := nd.below K
  replace zrc : w.heap.size ≤ rc := Nat.le_trans B12.size zrc
  clear K B12
  go_wp2_with fail
  refine (Alike_same c rc _ _ _ _ _ _ _ nc nrc).mono ?_
  rintro e w14 ⟨rfl, K⟩
  have B14 := then_ B13 K
  replace ni := ni.below K
  replace nb := nb.below K
  replace nc := nc.below K
  replace nd := nd.below K
  replace nrc := nrc.below K
  clear K B13
  clear nrc zrc
  go_wp2_with fail
  refine (rNone_any _).mono ?_
  rintro e w15 ⟨rd, rfl, zrd, nrd, K⟩
  have B15 := then_ B14 K
  replace ni := ni.below K
  replace nb := nb.below K
  replace nc := nc.below K
  replace nd := nd.below K
  replace zrd : w.heap.size ≤ rd := Nat.le_trans B14.size zrd
  clear K B14
  go_wp2_with fail
  refine (Alike_same d rd _ _ _ _ _ _ _ nd nrd).mono ?_
  rintro e w16 ⟨rfl, K⟩
  have B16 := then_ B15 K
  replace ni := ni.below K
  replace nb := nb.below K
  replace nc := nc.below K
  replace nd := nd.below K
  replace nrd := nrd.below K
  clear K B15
  clear nrd zrd
  obtain ⟨-, -, i2, -, -⟩ := ni.cells
  have fi := ni.frozen 2
  have li := ni.lt
  obtain ⟨-, -, b2, -, -⟩ := nb.cells
  have fb := nb.frozen 2
  have lb := nb.lt
  obtain ⟨c0, -, -, -, -⟩ := nc.cells
  have fc := nc.frozen 0
  have lc := nc.lt
  obtain ⟨d0, -, -, -, -⟩ := nd.cells
  have fd := nd.frozen 0
  have ld := nd.lt
  have eib : ¬ i = b := by omega
  have ebi : ¬ b = i := by omega
  clear qib
  have eic : ¬ i = c := by omega
  have eci : ¬ c = i := by omega
  clear qic
  have eid : ¬ i = d := by omega
  have edi : ¬ d = i := by omega
  clear qid
  have ebc : ¬ b = c := by omega
  have ecb : ¬ c = b := by omega
  clear qbc
  have ebd : ¬ b = d := by omega
  have edb : ¬ d = b := by omega
  clear qbd
  have ecd : ¬ c = d := by omega
  have edc : ¬ d = c := by omega
  clear qcd
  clear ni nb nc nd
  have KS : ∀ v u : Value, Below w.heap.size w ((((w16.setCell ⟨i, 2, none⟩ v).setCell ⟨b, 2, none⟩ u).setCell ⟨c, 0, none⟩ (.int .u8 9)).setCell ⟨d, 0, none⟩ (.int .u8 9)) := fun v u =>
    (((B16.setCell (p := ⟨i, 2, none⟩) zi _).setCell (p := ⟨b, 2, none⟩) zb _).setCell (p := ⟨c, 0, none⟩) zc _).setCell (p := ⟨d, 0, none⟩) zd _
  go_wp2_with fail
  refine (Int_any _ _).mono ?_
  rintro e w17 ⟨j, rfl, -, nj, K⟩
  have B17 := then_ (KS _ _) K
  clear K KS B16
  go_wp2_with fail
  refine (rInt_any _ _).mono ?_
  rintro e w18 ⟨rj, rfl, -, nrj, K⟩
  have B18 := then_ B17 K
  replace nj := nj.below K
  clear K B17
  go_wp2_with fail
  refine (Alike_same j rj _ _ _ _ _ _ _ nj nrj).mono ?_
  rintro e w19 ⟨rfl, K⟩
  have B19 := then_ B18 K
  replace nj := nj.below K
  replace nrj := nrj.below K
  clear K B18
  clear nj
  clear nrj
  go_wp2_with fail
  refine (Bool_true _).mono ?_
  rintro e w20 ⟨p, rfl, -, np, K⟩
  have B20 := then_ B19 K
  clear K B19
  go_wp2_with fail
  refine (rTrue_any _).mono ?_
  rintro e w21 ⟨rp, rfl, -, nrp, K⟩
  have B21 := then_ B20 K
  replace np := np.below K
  clear K B20
  go_wp2_with fail
  refine (Alike_same p rp _ _ _ _ _ _ _ np nrp).mono ?_
  rintro e w22 ⟨rfl, K⟩
  have B22 := then_ B21 K
  replace np := np.below K
  replace nrp := nrp.below K
  clear K B21
  clear np
  clear nrp
  go_wp2_with fail
  refine (Bool_false _).mono ?_
  rintro e w23 ⟨q, rfl, -, nq, K⟩
  have B23 := then_ B22 K
  clear K B22
  go_wp2_with fail
  refine (rFalse_any _).mono ?_
  rintro e w24 ⟨rq, rfl, -, nrq, K⟩
  have B24 := then_ B23 K
  replace nq := nq.below K
  clear K B23
  go_wp2_with fail
  refine (Alike_same q rq _ _ _ _ _ _ _ nq nrq).mono ?_
  rintro e w25 ⟨rfl, K⟩
  have B25 := then_ B24 K
  replace nq := nq.below K
  replace nrq := nrq.below K
  clear K B24
  clear nq
  clear nrq
  go_wp2_with fail
  refine (None_any _).mono ?_
  rintro e w26 ⟨u, rfl, -, nu, K⟩
  have B26 := then_ B25 K
  clear K B25
  go_wp2_with fail
  refine (rNone_any _).mono ?_
  rintro e w27 ⟨ru, rfl, -, nru, K⟩
  have B27 := then_ B26 K
  replace nu := nu.below K
  clear K B26
  go_wp2_with fail
  refine (Alike_same u ru _ _ _ _ _ _ _ nu nru).mono ?_
  rintro e w28 ⟨rfl, K⟩
  have B28 := then_ B27 K
  replace nu := nu.below K
  replace nru := nru.below K
  clear K B27
  clear nu
  clear nru
  go_wp2
  go_ret
  exact ⟨rfl, B28⟩
end Mk
end Go.Proofs.Ytibhldifmneboaa
