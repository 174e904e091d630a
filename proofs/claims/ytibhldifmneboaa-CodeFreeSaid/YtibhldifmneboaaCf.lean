/- CodeFree, walked. Printed by wip/gen/codefree.py. -/
import Derived.Test.YtibhldifmneboaaPf
set_option linter.unusedVariables false
set_option linter.unusedSimpArgs false
namespace Go.Proofs.Ytibhldifmneboaa
open Go Go.RowKit Cd Rd
namespace Pu

set_option maxHeartbeats 2000000 in
set_option maxRecDepth 100000 in
theorem cf_00 (a b : Nat) (i k : Int) (s t : ByteArray) (ha : a < 18446744073709551616) (hb : b < 18446744073709551616)
    (h0 : -9223372036854775808 ≤ i) (h1 : i < 9223372036854775808) (h2 : -9223372036854775808 ≤ k) (h3 : k < 9223372036854775808) (hab : ¬ a ≤ b) (hsl : 20000 < s.size) (hs63 : s.size ≤ 9223372036854775807) (ht63 : t.size ≤ 9223372036854775807) (w : World) :
    Calls Try.prog 5 #[.int .u64 a, .int .u64 b, .int .i64 i, .int .i64 k, .string s, .string t] w (Tr w) := by
  have ca := fun W => awake_any W
  have cA := fun W => putUintB a ha W
  have cB := fun W => putUintB b hb W
  have cI := fun W => putIntB i h0 h1 W
  have cK := fun W => putIntB k h2 h3 W
  have la := enc7_len10 ha
  have lb := enc7_len10 hb
  have li := enc7_len10 (zig_lt h0 h1)
  have lk := enc7_len10 (zig_lt h2 h3)
  have cAB := fun (A B : Option Addr) n m c d ha' hb' hc hd W h1' h2' => begins_any A B n m c d (enc7 a) (enc7 b) (by omega) (by omega) hc hd ha' hb' W h1' h2'
  have cIK := fun (A B : Option Addr) n m c d ha' hb' hc hd W h1' h2' => begins_any A B n m c d (enc7 (zig i)) (enc7 (zig k)) (by omega) (by omega) hc hd ha' hb' W h1' h2'
  have cR := fun A n c (hn : n = (enc7 (zig i)).length) hc W hb => ReadInt_any A n c (enc7 (zig i)) (by omega) hc hn.symm W hb
  have eR : mapOut Bt.unzig (number (enc7 (zig i))) = .ok i (enc7 (zig i)).length := by
    have := number_enc7 (zig i) (zig_lt h0 h1) []
    rw [List.append_nil] at this
    rw [this]
    show Out.ok (Bt.unzig (zig i)) _ = _
    rw [unzig_zig]
  rw [eR] at cR
  have vI : ValI i = .int .i64 i := rfl
  rw [pre_enc ha hb] at cAB
  rw [pre_zig h0 h1 h2 h3] at cIK
  obtain ⟨β, hβ⟩ : ∃ β, ((a : Int) == (b : Int)) = β := ⟨_, rfl⟩
  obtain ⟨γ, hγ⟩ : ∃ γ, (i == k) = γ := ⟨_, rfl⟩
  rw [hβ] at cAB
  rw [hγ] at cIK
  have p1 := enc7_pos (zig i)
  have q1 : decide (((enc7 (zig i)).length : Int) < 1) = false := by simp; omega
  have q2 : decide (1 ≤ ((enc7 (zig i)).length : Int)) = true := by simp; omega
  have g1 : decide ((a : Int) ≤ (b : Int)) = false := by simp; omega
  have g2 : decide (20000 < (s.size : Int)) = true := by simp; omega
  generalize hL : (enc7 (zig i)).length = L1 at *
  replace hL := Lib.hid hL
  clear la lb li lk p1 h0 h1 h2 h3 eR ha hb
  go_enter Try.func5, Try.ntmps5
  go_wp2_with fail
  refine (ca _).mono ?_
  rintro e w1 ⟨rfl, b1⟩
  go_wp2_with fail
  refine (cA _).mono ?_
  rintro e w2 ⟨A, n, c, rfl, hnA, hcA, bA, b2⟩
  go_wp2_with fail
  refine (cB _).mono ?_
  rintro e w3 ⟨B, m, d, rfl, hnB, hcB, bB, b3⟩
  have m1 := cAB A B n m c d hnA.out hnB.out hcA hcB _ (bs_keep bA b3) bB
  have z1 := b1.size
  have z2 := b2.size
  have z3 := b3.size
  have B3 := (b1.trans (b2.mono z1)).trans (b3.mono (by omega))
  clear cA cB cAB hnA hnB hcA hcB bA bB b1 b2 b3 z1 z2 z3
  go_wp2_with fail
  refine m1.mono ?_
  rintro e w4 ⟨rfl, k4, rfl⟩
  go_wp2_with fail
  refine (cI _).mono ?_
  rintro e w5 ⟨A1, n1, c1, rfl, hnA, hcA, bA, b2⟩
  go_wp2_with fail
  refine (cK _).mono ?_
  rintro e w6 ⟨B1, m1, d1, rfl, hnB, hcB, bB, b3⟩
  have m2 := cIK A1 B1 n1 m1 c1 d1 (hnA.out.trans hL.out) hnB.out hcA hcB _ (bs_keep bA b3) bB
  have z1 := B3.size
  have z2 := b2.size
  have z3 := b3.size
  simp only [heap_drewN] at z2
  have B6 := ((below_drew B3 k4).trans (b2.mono (by simp only [heap_drewN]; omega))).trans (b3.mono (by omega))
  clear cIK hnA hnB hcA hcB bA bB b2 b3 z1 z2 z3 cK B3
  go_wp2_with fail
  refine m2.mono ?_
  rintro e w7 ⟨rfl, k7, rfl⟩
  go_wp2_with fail
  refine (cI _).mono ?_
  rintro e w8 ⟨A2, n2, c2, rfl, hnA, hcA, bA, b8⟩
  have m3 := cR A2 n2 c2 (hnA.out.trans hL.out) hcA _ bA
  have z1 := B6.size
  have z2 := b8.size
  simp only [heap_drewN] at z2
  have B8 := (below_drew B6 k7).trans (b8.mono (by simp only [heap_drewN]; omega))
  clear hnA hcA bA b8 z1 z2 cI cR B6
  go_wp2_with fail
  refine m3.mono ?_
  rintro e w9 ⟨b9, rfl⟩
  have B9 := B8.trans (b9.mono B8.size)
  clear b9 B8
  go_wp2
  go_ret
  exact ⟨rfl, B9⟩

set_option maxHeartbeats 2000000 in
set_option maxRecDepth 100000 in
theorem cf_01 (a b : Nat) (i k : Int) (s t : ByteArray) (ha : a < 18446744073709551616) (hb : b < 18446744073709551616)
    (h0 : -9223372036854775808 ≤ i) (h1 : i < 9223372036854775808) (h2 : -9223372036854775808 ≤ k) (h3 : k < 9223372036854775808) (hab : ¬ a ≤ b) (hsl : s.size ≤ 20000) (htl : 20000 < t.size) (hs63 : s.size ≤ 9223372036854775807) (ht63 : t.size ≤ 9223372036854775807) (w : World) :
    Calls Try.prog 5 #[.int .u64 a, .int .u64 b, .int .i64 i, .int .i64 k, .string s, .string t] w (Tr w) := by
  have ca := fun W => awake_any W
  have cA := fun W => putUintB a ha W
  have cB := fun W => putUintB b hb W
  have cI := fun W => putIntB i h0 h1 W
  have cK := fun W => putIntB k h2 h3 W
  have la := enc7_len10 ha
  have lb := enc7_len10 hb
  have li := enc7_len10 (zig_lt h0 h1)
  have lk := enc7_len10 (zig_lt h2 h3)
  have cAB := fun (A B : Option Addr) n m c d ha' hb' hc hd W h1' h2' => begins_any A B n m c d (enc7 a) (enc7 b) (by omega) (by omega) hc hd ha' hb' W h1' h2'
  have cIK := fun (A B : Option Addr) n m c d ha' hb' hc hd W h1' h2' => begins_any A B n m c d (enc7 (zig i)) (enc7 (zig k)) (by omega) (by omega) hc hd ha' hb' W h1' h2'
  have cR := fun A n c (hn : n = (enc7 (zig i)).length) hc W hb => ReadInt_any A n c (enc7 (zig i)) (by omega) hc hn.symm W hb
  have eR : mapOut Bt.unzig (number (enc7 (zig i))) = .ok i (enc7 (zig i)).length := by
    have := number_enc7 (zig i) (zig_lt h0 h1) []
    rw [List.append_nil] at this
    rw [this]
    show Out.ok (Bt.unzig (zig i)) _ = _
    rw [unzig_zig]
  rw [eR] at cR
  have vI : ValI i = .int .i64 i := rfl
  rw [pre_enc ha hb] at cAB
  rw [pre_zig h0 h1 h2 h3] at cIK
  obtain ⟨β, hβ⟩ : ∃ β, ((a : Int) == (b : Int)) = β := ⟨_, rfl⟩
  obtain ⟨γ, hγ⟩ : ∃ γ, (i == k) = γ := ⟨_, rfl⟩
  rw [hβ] at cAB
  rw [hγ] at cIK
  have p1 := enc7_pos (zig i)
  have q1 : decide (((enc7 (zig i)).length : Int) < 1) = false := by simp; omega
  have q2 : decide (1 ≤ ((enc7 (zig i)).length : Int)) = true := by simp; omega
  have g1 : decide ((a : Int) ≤ (b : Int)) = false := by simp; omega
  have g2 : decide (20000 < (s.size : Int)) = false := by simp; omega
  have g3 : decide (20000 < (t.size : Int)) = true := by simp; omega
  generalize hL : (enc7 (zig i)).length = L1 at *
  replace hL := Lib.hid hL
  clear la lb li lk p1 h0 h1 h2 h3 eR ha hb
  go_enter Try.func5, Try.ntmps5
  go_wp2_with fail
  refine (ca _).mono ?_
  rintro e w1 ⟨rfl, b1⟩
  go_wp2_with fail
  refine (cA _).mono ?_
  rintro e w2 ⟨A, n, c, rfl, hnA, hcA, bA, b2⟩
  go_wp2_with fail
  refine (cB _).mono ?_
  rintro e w3 ⟨B, m, d, rfl, hnB, hcB, bB, b3⟩
  have m1 := cAB A B n m c d hnA.out hnB.out hcA hcB _ (bs_keep bA b3) bB
  have z1 := b1.size
  have z2 := b2.size
  have z3 := b3.size
  have B3 := (b1.trans (b2.mono z1)).trans (b3.mono (by omega))
  clear cA cB cAB hnA hnB hcA hcB bA bB b1 b2 b3 z1 z2 z3
  go_wp2_with fail
  refine m1.mono ?_
  rintro e w4 ⟨rfl, k4, rfl⟩
  go_wp2_with fail
  refine (cI _).mono ?_
  rintro e w5 ⟨A1, n1, c1, rfl, hnA, hcA, bA, b2⟩
  go_wp2_with fail
  refine (cK _).mono ?_
  rintro e w6 ⟨B1, m1, d1, rfl, hnB, hcB, bB, b3⟩
  have m2 := cIK A1 B1 n1 m1 c1 d1 (hnA.out.trans hL.out) hnB.out hcA hcB _ (bs_keep bA b3) bB
  have z1 := B3.size
  have z2 := b2.size
  have z3 := b3.size
  simp only [heap_drewN] at z2
  have B6 := ((below_drew B3 k4).trans (b2.mono (by simp only [heap_drewN]; omega))).trans (b3.mono (by omega))
  clear cIK hnA hnB hcA hcB bA bB b2 b3 z1 z2 z3 cK B3
  go_wp2_with fail
  refine m2.mono ?_
  rintro e w7 ⟨rfl, k7, rfl⟩
  go_wp2_with fail
  refine (cI _).mono ?_
  rintro e w8 ⟨A2, n2, c2, rfl, hnA, hcA, bA, b8⟩
  have m3 := cR A2 n2 c2 (hnA.out.trans hL.out) hcA _ bA
  have z1 := B6.size
  have z2 := b8.size
  simp only [heap_drewN] at z2
  have B8 := (below_drew B6 k7).trans (b8.mono (by simp only [heap_drewN]; omega))
  clear hnA hcA bA b8 z1 z2 cI cR B6
  go_wp2_with fail
  refine m3.mono ?_
  rintro e w9 ⟨b9, rfl⟩
  have B9 := B8.trans (b9.mono B8.size)
  clear b9 B8
  go_wp2
  go_ret
  exact ⟨rfl, B9⟩

set_option maxHeartbeats 2000000 in
set_option maxRecDepth 100000 in
theorem cf_02 (a b : Nat) (i k : Int) (s t : ByteArray) (ha : a < 18446744073709551616) (hb : b < 18446744073709551616)
    (h0 : -9223372036854775808 ≤ i) (h1 : i < 9223372036854775808) (h2 : -9223372036854775808 ≤ k) (h3 : k < 9223372036854775808) (hab : ¬ a ≤ b) (hsl : s.size ≤ 20000) (htl : t.size ≤ 20000) (hs63 : s.size ≤ 9223372036854775807) (ht63 : t.size ≤ 9223372036854775807) (w : World) :
    Calls Try.prog 5 #[.int .u64 a, .int .u64 b, .int .i64 i, .int .i64 k, .string s, .string t] w (Tr w) := by
  have ca := fun W => awake_any W
  have cA := fun W => putUintB a ha W
  have cB := fun W => putUintB b hb W
  have cI := fun W => putIntB i h0 h1 W
  have cK := fun W => putIntB k h2 h3 W
  have la := enc7_len10 ha
  have lb := enc7_len10 hb
  have li := enc7_len10 (zig_lt h0 h1)
  have lk := enc7_len10 (zig_lt h2 h3)
  have cAB := fun (A B : Option Addr) n m c d ha' hb' hc hd W h1' h2' => begins_any A B n m c d (enc7 a) (enc7 b) (by omega) (by omega) hc hd ha' hb' W h1' h2'
  have cIK := fun (A B : Option Addr) n m c d ha' hb' hc hd W h1' h2' => begins_any A B n m c d (enc7 (zig i)) (enc7 (zig k)) (by omega) (by omega) hc hd ha' hb' W h1' h2'
  have cR := fun A n c (hn : n = (enc7 (zig i)).length) hc W hb => ReadInt_any A n c (enc7 (zig i)) (by omega) hc hn.symm W hb
  have eR : mapOut Bt.unzig (number (enc7 (zig i))) = .ok i (enc7 (zig i)).length := by
    have := number_enc7 (zig i) (zig_lt h0 h1) []
    rw [List.append_nil] at this
    rw [this]
    show Out.ok (Bt.unzig (zig i)) _ = _
    rw [unzig_zig]
  rw [eR] at cR
  have vI : ValI i = .int .i64 i := rfl
  rw [pre_enc ha hb] at cAB
  rw [pre_zig h0 h1 h2 h3] at cIK
  obtain ⟨β, hβ⟩ : ∃ β, ((a : Int) == (b : Int)) = β := ⟨_, rfl⟩
  obtain ⟨γ, hγ⟩ : ∃ γ, (i == k) = γ := ⟨_, rfl⟩
  rw [hβ] at cAB
  rw [hγ] at cIK
  have p1 := enc7_pos (zig i)
  have q1 : decide (((enc7 (zig i)).length : Int) < 1) = false := by simp; omega
  have q2 : decide (1 ≤ ((enc7 (zig i)).length : Int)) = true := by simp; omega
  have g1 : decide ((a : Int) ≤ (b : Int)) = false := by simp; omega
  have g2 : decide (20000 < (s.size : Int)) = false := by simp; omega
  have g3 : decide (20000 < (t.size : Int)) = false := by simp; omega
  have cS := fun W => putTextB s (by omega) W
  have cT := fun W => putTextB t (by omega) W
  have ls := putT_len s
  have lt := putT_len t
  have l3 := enc7_len10 (n := s.size) (by omega)
  have l4 := enc7_len10 (n := t.size) (by omega)
  have l5 := enc7_pos s.size
  have cST := fun (A B : Option Addr) n m c d ha' hb' hc hd W h1' h2' => begins_any A B n m c d (putT s) (putT t) (by omega) (by omega) hc hd ha' hb' W h1' h2'
  rw [pre_text (by omega) (by omega)] at cST
  have cRT := fun A n c (hn : n = (putT s).length) hc W hb => ReadText_any A n c (putT s) (by omega) hc hn.symm W hb
  rw [text_put' s (by omega)] at cRT
  have vS : ValS s = .string s := rfl
  have g4 : decide ((s.size : Int) < ((putT s).length : Int)) = true := by simp; omega
  have g4' : s.size < (putT s).length := by omega
  obtain ⟨δ, hδ⟩ : ∃ δ, (s.toList == t.toList) = δ := ⟨_, rfl⟩
  rw [hδ] at cST
  generalize hL3 : (putT s).length = L3 at *
  replace hL3 := Lib.hid hL3
  have k1 : s.size ≤ 20000 := by omega
  have k2 : t.size ≤ 20000 := by omega
  generalize hL : (enc7 (zig i)).length = L1 at *
  replace hL := Lib.hid hL
  clear la lb li lk p1 h0 h1 h2 h3 eR ha hb
  clear ls lt l3 l4 l5 hsl htl
  go_enter Try.func5, Try.ntmps5
  go_wp2_with fail
  refine (ca _).mono ?_
  rintro e w1 ⟨rfl, b1⟩
  go_wp2_with fail
  refine (cA _).mono ?_
  rintro e w2 ⟨A, n, c, rfl, hnA, hcA, bA, b2⟩
  go_wp2_with fail
  refine (cB _).mono ?_
  rintro e w3 ⟨B, m, d, rfl, hnB, hcB, bB, b3⟩
  have m1 := cAB A B n m c d hnA.out hnB.out hcA hcB _ (bs_keep bA b3) bB
  have z1 := b1.size
  have z2 := b2.size
  have z3 := b3.size
  have B3 := (b1.trans (b2.mono z1)).trans (b3.mono (by omega))
  clear cA cB cAB hnA hnB hcA hcB bA bB b1 b2 b3 z1 z2 z3
  go_wp2_with fail
  refine m1.mono ?_
  rintro e w4 ⟨rfl, k4, rfl⟩
  go_wp2_with fail
  refine (cI _).mono ?_
  rintro e w5 ⟨A1, n1, c1, rfl, hnA, hcA, bA, b2⟩
  go_wp2_with fail
  refine (cK _).mono ?_
  rintro e w6 ⟨B1, m1, d1, rfl, hnB, hcB, bB, b3⟩
  have m2 := cIK A1 B1 n1 m1 c1 d1 (hnA.out.trans hL.out) hnB.out hcA hcB _ (bs_keep bA b3) bB
  have z1 := B3.size
  have z2 := b2.size
  have z3 := b3.size
  simp only [heap_drewN] at z2
  have B6 := ((below_drew B3 k4).trans (b2.mono (by simp only [heap_drewN]; omega))).trans (b3.mono (by omega))
  clear cIK hnA hnB hcA hcB bA bB b2 b3 z1 z2 z3 cK B3
  go_wp2_with fail
  refine m2.mono ?_
  rintro e w7 ⟨rfl, k7, rfl⟩
  go_wp2_with fail
  refine (cI _).mono ?_
  rintro e w8 ⟨A2, n2, c2, rfl, hnA, hcA, bA, b8⟩
  have m3 := cR A2 n2 c2 (hnA.out.trans hL.out) hcA _ bA
  have z1 := B6.size
  have z2 := b8.size
  simp only [heap_drewN] at z2
  have B8 := (below_drew B6 k7).trans (b8.mono (by simp only [heap_drewN]; omega))
  clear hnA hcA bA b8 z1 z2 cI cR B6
  go_wp2_with fail
  refine m3.mono ?_
  rintro e w9 ⟨b9, rfl⟩
  have B9 := B8.trans (b9.mono B8.size)
  clear b9 B8
  go_wp2_with fail
  refine (cS _).mono ?_
  rintro e w10 ⟨A2, n2, c2, rfl, hnA, hcA, bA, b8⟩
  have m3 := cRT A2 n2 c2 (hnA.out.trans hL3.out) hcA _ bA
  have B10 := B9.trans (b8.mono B9.size)
  clear hnA hcA bA b8 cRT B9
  go_wp2_with fail
  refine m3.mono ?_
  rintro e w11 ⟨b9, rfl⟩
  have B11 := B10.trans (b9.mono B10.size)
  clear b9 B10
  go_wp2_with fail
  refine (cS _).mono ?_
  rintro e w12 ⟨A3, n3, c3, rfl, hnA, hcA, bA, b2⟩
  go_wp2_with fail
  refine (cT _).mono ?_
  rintro e w13 ⟨B4, m4, d4, rfl, hnB, hcB, bB, b3⟩
  have m2 := cST A3 B4 n3 m4 c3 d4 (hnA.out.trans hL3.out) hnB.out hcA hcB _ (bs_keep bA b3) bB
  have B12 := B11.trans (b2.mono B11.size)
  have B13 := B12.trans (b3.mono B12.size)
  clear cST hnA hnB hcA hcB bA bB b2 b3 B11 B12
  go_wp2_with fail
  refine m2.mono ?_
  rintro e w14 ⟨rfl, k7, rfl⟩
  go_wp2
  go_ret
  exact ⟨rfl, below_drew B13 _⟩

set_option maxHeartbeats 2000000 in
set_option maxRecDepth 100000 in
theorem cf_10 (a b : Nat) (i k : Int) (s t : ByteArray) (ha : a < 18446744073709551616) (hb : b < 18446744073709551616)
    (h0 : -9223372036854775808 ≤ i) (h1 : i < 9223372036854775808) (h2 : -9223372036854775808 ≤ k) (h3 : k < 9223372036854775808) (hab : a ≤ b) (hsl : 20000 < s.size) (hs63 : s.size ≤ 9223372036854775807) (ht63 : t.size ≤ 9223372036854775807) (w : World) :
    Calls Try.prog 5 #[.int .u64 a, .int .u64 b, .int .i64 i, .int .i64 k, .string s, .string t] w (Tr w) := by
  have ca := fun W => awake_any W
  have cA := fun W => putUintB a ha W
  have cB := fun W => putUintB b hb W
  have cI := fun W => putIntB i h0 h1 W
  have cK := fun W => putIntB k h2 h3 W
  have la := enc7_len10 ha
  have lb := enc7_len10 hb
  have li := enc7_len10 (zig_lt h0 h1)
  have lk := enc7_len10 (zig_lt h2 h3)
  have cAB := fun (A B : Option Addr) n m c d ha' hb' hc hd W h1' h2' => begins_any A B n m c d (enc7 a) (enc7 b) (by omega) (by omega) hc hd ha' hb' W h1' h2'
  have cIK := fun (A B : Option Addr) n m c d ha' hb' hc hd W h1' h2' => begins_any A B n m c d (enc7 (zig i)) (enc7 (zig k)) (by omega) (by omega) hc hd ha' hb' W h1' h2'
  have cR := fun A n c (hn : n = (enc7 (zig i)).length) hc W hb => ReadInt_any A n c (enc7 (zig i)) (by omega) hc hn.symm W hb
  have eR : mapOut Bt.unzig (number (enc7 (zig i))) = .ok i (enc7 (zig i)).length := by
    have := number_enc7 (zig i) (zig_lt h0 h1) []
    rw [List.append_nil] at this
    rw [this]
    show Out.ok (Bt.unzig (zig i)) _ = _
    rw [unzig_zig]
  rw [eR] at cR
  have vI : ValI i = .int .i64 i := rfl
  rw [pre_enc ha hb] at cAB
  rw [pre_zig h0 h1 h2 h3] at cIK
  obtain ⟨β, hβ⟩ : ∃ β, ((a : Int) == (b : Int)) = β := ⟨_, rfl⟩
  obtain ⟨γ, hγ⟩ : ∃ γ, (i == k) = γ := ⟨_, rfl⟩
  rw [hβ] at cAB
  rw [hγ] at cIK
  have p1 := enc7_pos (zig i)
  have q1 : decide (((enc7 (zig i)).length : Int) < 1) = false := by simp; omega
  have q2 : decide (1 ≤ ((enc7 (zig i)).length : Int)) = true := by simp; omega
  have hle := enc7_mono a b hab
  have g1 : decide ((a : Int) ≤ (b : Int)) = true := by simp; omega
  have g2 : decide (20000 < (s.size : Int)) = true := by simp; omega
  generalize hL : (enc7 (zig i)).length = L1 at *
  replace hL := Lib.hid hL
  clear la lb li lk p1 h0 h1 h2 h3 eR ha hb
  go_enter Try.func5, Try.ntmps5
  go_wp2_with fail
  refine (ca _).mono ?_
  rintro e w1 ⟨rfl, b1⟩
  go_wp2_with fail
  refine (cA _).mono ?_
  rintro e w2 ⟨A, n, c, rfl, hnA, hcA, bA, b2⟩
  go_wp2_with fail
  refine (cB _).mono ?_
  rintro e w3 ⟨B, m, d, rfl, hnB, hcB, bB, b3⟩
  have m1 := cAB A B n m c d hnA.out hnB.out hcA hcB _ (bs_keep bA b3) bB
  have g5 : decide ((m : Int) < (n : Int)) = false := by have := hnA.out; have := hnB.out; simp; omega
  have g5' : ¬ m < n := by have := hnA.out; have := hnB.out; omega
  have z1 := b1.size
  have z2 := b2.size
  have z3 := b3.size
  have B3 := (b1.trans (b2.mono z1)).trans (b3.mono (by omega))
  clear cA cB cAB hnA hnB hcA hcB bA bB b1 b2 b3 z1 z2 z3
  go_wp2_with fail
  refine m1.mono ?_
  rintro e w4 ⟨rfl, k4, rfl⟩
  go_wp2_with fail
  refine (cI _).mono ?_
  rintro e w5 ⟨A1, n1, c1, rfl, hnA, hcA, bA, b2⟩
  go_wp2_with fail
  refine (cK _).mono ?_
  rintro e w6 ⟨B1, m1, d1, rfl, hnB, hcB, bB, b3⟩
  have m2 := cIK A1 B1 n1 m1 c1 d1 (hnA.out.trans hL.out) hnB.out hcA hcB _ (bs_keep bA b3) bB
  have z1 := B3.size
  have z2 := b2.size
  have z3 := b3.size
  simp only [heap_drewN] at z2
  have B6 := ((below_drew B3 k4).trans (b2.mono (by simp only [heap_drewN]; omega))).trans (b3.mono (by omega))
  clear cIK hnA hnB hcA hcB bA bB b2 b3 z1 z2 z3 cK B3
  go_wp2_with fail
  refine m2.mono ?_
  rintro e w7 ⟨rfl, k7, rfl⟩
  go_wp2_with fail
  refine (cI _).mono ?_
  rintro e w8 ⟨A2, n2, c2, rfl, hnA, hcA, bA, b8⟩
  have m3 := cR A2 n2 c2 (hnA.out.trans hL.out) hcA _ bA
  have z1 := B6.size
  have z2 := b8.size
  simp only [heap_drewN] at z2
  have B8 := (below_drew B6 k7).trans (b8.mono (by simp only [heap_drewN]; omega))
  clear hnA hcA bA b8 z1 z2 cI cR B6
  go_wp2_with fail
  refine m3.mono ?_
  rintro e w9 ⟨b9, rfl⟩
  have B9 := B8.trans (b9.mono B8.size)
  clear b9 B8
  go_wp2
  go_ret
  exact ⟨rfl, B9⟩

set_option maxHeartbeats 2000000 in
set_option maxRecDepth 100000 in
theorem cf_11 (a b : Nat) (i k : Int) (s t : ByteArray) (ha : a < 18446744073709551616) (hb : b < 18446744073709551616)
    (h0 : -9223372036854775808 ≤ i) (h1 : i < 9223372036854775808) (h2 : -9223372036854775808 ≤ k) (h3 : k < 9223372036854775808) (hab : a ≤ b) (hsl : s.size ≤ 20000) (htl : 20000 < t.size) (hs63 : s.size ≤ 9223372036854775807) (ht63 : t.size ≤ 9223372036854775807) (w : World) :
    Calls Try.prog 5 #[.int .u64 a, .int .u64 b, .int .i64 i, .int .i64 k, .string s, .string t] w (Tr w) := by
  have ca := fun W => awake_any W
  have cA := fun W => putUintB a ha W
  have cB := fun W => putUintB b hb W
  have cI := fun W => putIntB i h0 h1 W
  have cK := fun W => putIntB k h2 h3 W
  have la := enc7_len10 ha
  have lb := enc7_len10 hb
  have li := enc7_len10 (zig_lt h0 h1)
  have lk := enc7_len10 (zig_lt h2 h3)
  have cAB := fun (A B : Option Addr) n m c d ha' hb' hc hd W h1' h2' => begins_any A B n m c d (enc7 a) (enc7 b) (by omega) (by omega) hc hd ha' hb' W h1' h2'
  have cIK := fun (A B : Option Addr) n m c d ha' hb' hc hd W h1' h2' => begins_any A B n m c d (enc7 (zig i)) (enc7 (zig k)) (by omega) (by omega) hc hd ha' hb' W h1' h2'
  have cR := fun A n c (hn : n = (enc7 (zig i)).length) hc W hb => ReadInt_any A n c (enc7 (zig i)) (by omega) hc hn.symm W hb
  have eR : mapOut Bt.unzig (number (enc7 (zig i))) = .ok i (enc7 (zig i)).length := by
    have := number_enc7 (zig i) (zig_lt h0 h1) []
    rw [List.append_nil] at this
    rw [this]
    show Out.ok (Bt.unzig (zig i)) _ = _
    rw [unzig_zig]
  rw [eR] at cR
  have vI : ValI i = .int .i64 i := rfl
  rw [pre_enc ha hb] at cAB
  rw [pre_zig h0 h1 h2 h3] at cIK
  obtain ⟨β, hβ⟩ : ∃ β, ((a : Int) == (b : Int)) = β := ⟨_, rfl⟩
  obtain ⟨γ, hγ⟩ : ∃ γ, (i == k) = γ := ⟨_, rfl⟩
  rw [hβ] at cAB
  rw [hγ] at cIK
  have p1 := enc7_pos (zig i)
  have q1 : decide (((enc7 (zig i)).length : Int) < 1) = false := by simp; omega
  have q2 : decide (1 ≤ ((enc7 (zig i)).length : Int)) = true := by simp; omega
  have hle := enc7_mono a b hab
  have g1 : decide ((a : Int) ≤ (b : Int)) = true := by simp; omega
  have g2 : decide (20000 < (s.size : Int)) = false := by simp; omega
  have g3 : decide (20000 < (t.size : Int)) = true := by simp; omega
  generalize hL : (enc7 (zig i)).length = L1 at *
  replace hL := Lib.hid hL
  clear la lb li lk p1 h0 h1 h2 h3 eR ha hb
  go_enter Try.func5, Try.ntmps5
  go_wp2_with fail
  refine (ca _).mono ?_
  rintro e w1 ⟨rfl, b1⟩
  go_wp2_with fail
  refine (cA _).mono ?_
  rintro e w2 ⟨A, n, c, rfl, hnA, hcA, bA, b2⟩
  go_wp2_with fail
  refine (cB _).mono ?_
  rintro e w3 ⟨B, m, d, rfl, hnB, hcB, bB, b3⟩
  have m1 := cAB A B n m c d hnA.out hnB.out hcA hcB _ (bs_keep bA b3) bB
  have g5 : decide ((m : Int) < (n : Int)) = false := by have := hnA.out; have := hnB.out; simp; omega
  have g5' : ¬ m < n := by have := hnA.out; have := hnB.out; omega
  have z1 := b1.size
  have z2 := b2.size
  have z3 := b3.size
  have B3 := (b1.trans (b2.mono z1)).trans (b3.mono (by omega))
  clear cA cB cAB hnA hnB hcA hcB bA bB b1 b2 b3 z1 z2 z3
  go_wp2_with fail
  refine m1.mono ?_
  rintro e w4 ⟨rfl, k4, rfl⟩
  go_wp2_with fail
  refine (cI _).mono ?_
  rintro e w5 ⟨A1, n1, c1, rfl, hnA, hcA, bA, b2⟩
  go_wp2_with fail
  refine (cK _).mono ?_
  rintro e w6 ⟨B1, m1, d1, rfl, hnB, hcB, bB, b3⟩
  have m2 := cIK A1 B1 n1 m1 c1 d1 (hnA.out.trans hL.out) hnB.out hcA hcB _ (bs_keep bA b3) bB
  have z1 := B3.size
  have z2 := b2.size
  have z3 := b3.size
  simp only [heap_drewN] at z2
  have B6 := ((below_drew B3 k4).trans (b2.mono (by simp only [heap_drewN]; omega))).trans (b3.mono (by omega))
  clear cIK hnA hnB hcA hcB bA bB b2 b3 z1 z2 z3 cK B3
  go_wp2_with fail
  refine m2.mono ?_
  rintro e w7 ⟨rfl, k7, rfl⟩
  go_wp2_with fail
  refine (cI _).mono ?_
  rintro e w8 ⟨A2, n2, c2, rfl, hnA, hcA, bA, b8⟩
  have m3 := cR A2 n2 c2 (hnA.out.trans hL.out) hcA _ bA
  have z1 := B6.size
  have z2 := b8.size
  simp only [heap_drewN] at z2
  have B8 := (below_drew B6 k7).trans (b8.mono (by simp only [heap_drewN]; omega))
  clear hnA hcA bA b8 z1 z2 cI cR B6
  go_wp2_with fail
  refine m3.mono ?_
  rintro e w9 ⟨b9, rfl⟩
  have B9 := B8.trans (b9.mono B8.size)
  clear b9 B8
  go_wp2
  go_ret
  exact ⟨rfl, B9⟩

set_option maxHeartbeats 2000000 in
set_option maxRecDepth 100000 in
theorem cf_12 (a b : Nat) (i k : Int) (s t : ByteArray) (ha : a < 18446744073709551616) (hb : b < 18446744073709551616)
    (h0 : -9223372036854775808 ≤ i) (h1 : i < 9223372036854775808) (h2 : -9223372036854775808 ≤ k) (h3 : k < 9223372036854775808) (hab : a ≤ b) (hsl : s.size ≤ 20000) (htl : t.size ≤ 20000) (hs63 : s.size ≤ 9223372036854775807) (ht63 : t.size ≤ 9223372036854775807) (w : World) :
    Calls Try.prog 5 #[.int .u64 a, .int .u64 b, .int .i64 i, .int .i64 k, .string s, .string t] w (Tr w) := by
  have ca := fun W => awake_any W
  have cA := fun W => putUintB a ha W
  have cB := fun W => putUintB b hb W
  have cI := fun W => putIntB i h0 h1 W
  have cK := fun W => putIntB k h2 h3 W
  have la := enc7_len10 ha
  have lb := enc7_len10 hb
  have li := enc7_len10 (zig_lt h0 h1)
  have lk := enc7_len10 (zig_lt h2 h3)
  have cAB := fun (A B : Option Addr) n m c d ha' hb' hc hd W h1' h2' => begins_any A B n m c d (enc7 a) (enc7 b) (by omega) (by omega) hc hd ha' hb' W h1' h2'
  have cIK := fun (A B : Option Addr) n m c d ha' hb' hc hd W h1' h2' => begins_any A B n m c d (enc7 (zig i)) (enc7 (zig k)) (by omega) (by omega) hc hd ha' hb' W h1' h2'
  have cR := fun A n c (hn : n = (enc7 (zig i)).length) hc W hb => ReadInt_any A n c (enc7 (zig i)) (by omega) hc hn.symm W hb
  have eR : mapOut Bt.unzig (number (enc7 (zig i))) = .ok i (enc7 (zig i)).length := by
    have := number_enc7 (zig i) (zig_lt h0 h1) []
    rw [List.append_nil] at this
    rw [this]
    show Out.ok (Bt.unzig (zig i)) _ = _
    rw [unzig_zig]
  rw [eR] at cR
  have vI : ValI i = .int .i64 i := rfl
  rw [pre_enc ha hb] at cAB
  rw [pre_zig h0 h1 h2 h3] at cIK
  obtain ⟨β, hβ⟩ : ∃ β, ((a : Int) == (b : Int)) = β := ⟨_, rfl⟩
  obtain ⟨γ, hγ⟩ : ∃ γ, (i == k) = γ := ⟨_, rfl⟩
  rw [hβ] at cAB
  rw [hγ] at cIK
  have p1 := enc7_pos (zig i)
  have q1 : decide (((enc7 (zig i)).length : Int) < 1) = false := by simp; omega
  have q2 : decide (1 ≤ ((enc7 (zig i)).length : Int)) = true := by simp; omega
  have hle := enc7_mono a b hab
  have g1 : decide ((a : Int) ≤ (b : Int)) = true := by simp; omega
  have g2 : decide (20000 < (s.size : Int)) = false := by simp; omega
  have g3 : decide (20000 < (t.size : Int)) = false := by simp; omega
  have cS := fun W => putTextB s (by omega) W
  have cT := fun W => putTextB t (by omega) W
  have ls := putT_len s
  have lt := putT_len t
  have l3 := enc7_len10 (n := s.size) (by omega)
  have l4 := enc7_len10 (n := t.size) (by omega)
  have l5 := enc7_pos s.size
  have cST := fun (A B : Option Addr) n m c d ha' hb' hc hd W h1' h2' => begins_any A B n m c d (putT s) (putT t) (by omega) (by omega) hc hd ha' hb' W h1' h2'
  rw [pre_text (by omega) (by omega)] at cST
  have cRT := fun A n c (hn : n = (putT s).length) hc W hb => ReadText_any A n c (putT s) (by omega) hc hn.symm W hb
  rw [text_put' s (by omega)] at cRT
  have vS : ValS s = .string s := rfl
  have g4 : decide ((s.size : Int) < ((putT s).length : Int)) = true := by simp; omega
  have g4' : s.size < (putT s).length := by omega
  obtain ⟨δ, hδ⟩ : ∃ δ, (s.toList == t.toList) = δ := ⟨_, rfl⟩
  rw [hδ] at cST
  generalize hL3 : (putT s).length = L3 at *
  replace hL3 := Lib.hid hL3
  have k1 : s.size ≤ 20000 := by omega
  have k2 : t.size ≤ 20000 := by omega
  generalize hL : (enc7 (zig i)).length = L1 at *
  replace hL := Lib.hid hL
  clear la lb li lk p1 h0 h1 h2 h3 eR ha hb
  clear ls lt l3 l4 l5 hsl htl
  go_enter Try.func5, Try.ntmps5
  go_wp2_with fail
  refine (ca _).mono ?_
  rintro e w1 ⟨rfl, b1⟩
  go_wp2_with fail
  refine (cA _).mono ?_
  rintro e w2 ⟨A, n, c, rfl, hnA, hcA, bA, b2⟩
  go_wp2_with fail
  refine (cB _).mono ?_
  rintro e w3 ⟨B, m, d, rfl, hnB, hcB, bB, b3⟩
  have m1 := cAB A B n m c d hnA.out hnB.out hcA hcB _ (bs_keep bA b3) bB
  have g5 : decide ((m : Int) < (n : Int)) = false := by have := hnA.out; have := hnB.out; simp; omega
  have g5' : ¬ m < n := by have := hnA.out; have := hnB.out; omega
  have z1 := b1.size
  have z2 := b2.size
  have z3 := b3.size
  have B3 := (b1.trans (b2.mono z1)).trans (b3.mono (by omega))
  clear cA cB cAB hnA hnB hcA hcB bA bB b1 b2 b3 z1 z2 z3
  go_wp2_with fail
  refine m1.mono ?_
  rintro e w4 ⟨rfl, k4, rfl⟩
  go_wp2_with fail
  refine (cI _).mono ?_
  rintro e w5 ⟨A1, n1, c1, rfl, hnA, hcA, bA, b2⟩
  go_wp2_with fail
  refine (cK _).mono ?_
  rintro e w6 ⟨B1, m1, d1, rfl, hnB, hcB, bB, b3⟩
  have m2 := cIK A1 B1 n1 m1 c1 d1 (hnA.out.trans hL.out) hnB.out hcA hcB _ (bs_keep bA b3) bB
  have z1 := B3.size
  have z2 := b2.size
  have z3 := b3.size
  simp only [heap_drewN] at z2
  have B6 := ((below_drew B3 k4).trans (b2.mono (by simp only [heap_drewN]; omega))).trans (b3.mono (by omega))
  clear cIK hnA hnB hcA hcB bA bB b2 b3 z1 z2 z3 cK B3
  go_wp2_with fail
  refine m2.mono ?_
  rintro e w7 ⟨rfl, k7, rfl⟩
  go_wp2_with fail
  refine (cI _).mono ?_
  rintro e w8 ⟨A2, n2, c2, rfl, hnA, hcA, bA, b8⟩
  have m3 := cR A2 n2 c2 (hnA.out.trans hL.out) hcA _ bA
  have z1 := B6.size
  have z2 := b8.size
  simp only [heap_drewN] at z2
  have B8 := (below_drew B6 k7).trans (b8.mono (by simp only [heap_drewN]; omega))
  clear hnA hcA bA b8 z1 z2 cI cR B6
  go_wp2_with fail
  refine m3.mono ?_
  rintro e w9 ⟨b9, rfl⟩
  have B9 := B8.trans (b9.mono B8.size)
  clear b9 B8
  go_wp2_with fail
  refine (cS _).mono ?_
  rintro e w10 ⟨A2, n2, c2, rfl, hnA, hcA, bA, b8⟩
  have m3 := cRT A2 n2 c2 (hnA.out.trans hL3.out) hcA _ bA
  have B10 := B9.trans (b8.mono B9.size)
  clear hnA hcA bA b8 cRT B9
  go_wp2_with fail
  refine m3.mono ?_
  rintro e w11 ⟨b9, rfl⟩
  have B11 := B10.trans (b9.mono B10.size)
  clear b9 B10
  go_wp2_with fail
  refine (cS _).mono ?_
  rintro e w12 ⟨A3, n3, c3, rfl, hnA, hcA, bA, b2⟩
  go_wp2_with fail
  refine (cT _).mono ?_
  rintro e w13 ⟨B4, m4, d4, rfl, hnB, hcB, bB, b3⟩
  have m2 := cST A3 B4 n3 m4 c3 d4 (hnA.out.trans hL3.out) hnB.out hcA hcB _ (bs_keep bA b3) bB
  have B12 := B11.trans (b2.mono B11.size)
  have B13 := B12.trans (b3.mono B12.size)
  clear cST hnA hnB hcA hcB bA bB b2 b3 B11 B12
  go_wp2_with fail
  refine m2.mono ?_
  rintro e w14 ⟨rfl, k7, rfl⟩
  go_wp2
  go_ret
  exact ⟨rfl, below_drew B13 _⟩

theorem codeFree_any (a b : Nat) (i k : Int) (s t : ByteArray) (ha : a < 18446744073709551616) (hb : b < 18446744073709551616)
    (h0 : -9223372036854775808 ≤ i) (h1 : i < 9223372036854775808) (h2 : -9223372036854775808 ≤ k) (h3 : k < 9223372036854775808) (hs63 : s.size ≤ 9223372036854775807) (ht63 : t.size ≤ 9223372036854775807) (w : World) :
    Calls Try.prog 5 #[.int .u64 a, .int .u64 b, .int .i64 i, .int .i64 k, .string s, .string t] w (Tr w) := by
  by_cases hab : a ≤ b
  · rcases Nat.lt_or_ge 20000 s.size with h | h
    · exact cf_10 a b i k s t ha hb h0 h1 h2 h3 hab h hs63 ht63 w
    · rcases Nat.lt_or_ge 20000 t.size with h' | h'
      · exact cf_11 a b i k s t ha hb h0 h1 h2 h3 hab h h' hs63 ht63 w
      · exact cf_12 a b i k s t ha hb h0 h1 h2 h3 hab h h' hs63 ht63 w
  · rcases Nat.lt_or_ge 20000 s.size with h | h
    · exact cf_00 a b i k s t ha hb h0 h1 h2 h3 hab h hs63 ht63 w
    · rcases Nat.lt_or_ge 20000 t.size with h' | h'
      · exact cf_01 a b i k s t ha hb h0 h1 h2 h3 hab h h' hs63 ht63 w
      · exact cf_02 a b i k s t ha hb h0 h1 h2 h3 hab h h' hs63 ht63 w

end Pu
end Go.Proofs.Ytibhldifmneboaa
