/- The reference's node: it reads what the plain reader says. Printed by wip/gen/node.py. -/
import Derived.Test.YtibhldifmneboaaRv
import Derived.Test.YtibhldifmneboaaRh
import Derived.Test.YtibhldifmneboaaRr
set_option linter.unusedVariables false
set_option linter.unusedSimpArgs false
namespace Go.Proofs.Ytibhldifmneboaa
open Go Go.RowKit
namespace Rd
open Cd Pl
attribute [local go_sem] st_complex'

/-- what the reference's node comes to -/
def NodeR (p : Nat) (o : Out Nd) (w : World) (e : Ending) (w' : World) : Prop :=
  Below w.heap.size w w' ∧ match o with
  | .ok x j => e = .returned (.tuple #[.agg (ndc x).toArray, .int .i64 ((p + j : Nat) : Int), .int .i64 0])
  | .no a er => ∃ y : Nd, e = .returned (.tuple #[.agg (ndc y).toArray, .int .i64 ((p + a : Nat) : Int), .int .i64 er])

set_option maxRecDepth 100000 in
theorem res76 (x : Nd) (tmps : Array Value) (b : Nat) (w : World) (h6 : tmps[6]?.getD undef = .pointer (some ⟨b, 0, none⟩))
    (c0 : w.cell? ⟨b, 0, none⟩ = some (.int .u8 x.kind)) (c1 : w.cell? ⟨b, 1, none⟩ = some (.int .i64 x.kids)) (c2 : w.cell? ⟨b, 2, none⟩ = some (.int .i64 x.int)) (c3 : w.cell? ⟨b, 3, none⟩ = some (.string x.text)) (c4 : w.cell? ⟨b, 4, none⟩ = some (.complex .f64 x.num.1 x.num.2)) :
    (results Try.f76 tmps).run Try.prog w = .ok (.tuple #[.agg (ndc x).toArray, tmps.getD 7 undef, tmps.getD 8 undef]) w := by
  simp [results, Try.results76, go_sem, h6, c0, c1, c2, c3, c4, ndc]

set_option maxHeartbeats 1000000 in
set_option maxRecDepth 100000 in
theorem node_any (A : Option Addr) (n c p sz : Nat) (xs : List UInt8) (u : UInt8) (hn : n ≤ 30000) (hc : n ≤ c) (hx : xs.length = n) (hu : xs[p]? = some u) (hsz : sz + 1 ≤ 4096) (w : World) (hb : Bs w A xs) :
    Calls Try.prog 76 #[.slice A n c, .int .i64 p, .int .i64 sz] w (NodeR p (node1 sz u.toNat (xs.drop (p + 1))) w) := by
  have hp : p < n := by have := (List.getElem?_eq_some_iff.1 hu).1; omega
  obtain ⟨ad, rfl, hcell⟩ := hb.at_ hu
  have HX := Lib.hid hx
  have HB := Lib.hid hb
  have hblk := World.block_lt_of_cell? w _ hcell
  have hul : u.toNat < 256 := u.toNat_lt
  clear hx hb
  have B2 : ∀ o1 o2, Below w.heap.size w ((w.alloc o1).alloc o2) := fun o1 o2 => ((Below.refl _ w).alloc (Nat.le_refl _) o1).alloc (by simp only [World.size_alloc]; omega) o2
  by_cases k0 : u.toNat = 0
  · have kk := k0
    have hN : node1 sz u.toNat (xs.drop (p + 1)) = .ok { kind := 0 } 1 := by rw [kk]; rfl
    rw [kk] at hcell
    rw [hN]
    clear hN kk HX HB hu k0
    go_enter Try.func76, Try.ntmps76
    go_wp2
    refine bodyPost_ret (res76 { kind := 0 } _ _ _ rfl (by go_simp) (by go_simp) (by go_simp) (by go_simp) (by go_simp)) rfl ?_
    exact ⟨by repeat (first | exact B2 _ _ | exact (B2 _ _).drew | refine Below.setCell ?_ (by simp) _), ret3 (by push_cast; omega)⟩
  by_cases k1 : u.toNat = 1
  · have kk := k1
    rw [kk] at hcell
    rcases Nat.lt_or_ge (p + 1) n with hlt3 | hge3
    · obtain ⟨u2, hu2⟩ : ∃ u, xs[p + 1]? = some u := ⟨_, List.getElem?_eq_getElem (by have := HX.out; omega)⟩
      obtain ⟨ad2, had2, hcell2⟩ := HB.out.at_ hu2
      obtain rfl : ad = ad2 := by injection had2
      have hblk2 := World.block_lt_of_cell? w _ hcell2
      have hcell3 : w.cell? ⟨ad.block, ad.off + (p + 1), none⟩ = some (.int .u8 (u2.toNat : Int)) := by simpa [Addr.add] using hcell2
      have hblk3 : ad.block < w.heap.size := by simpa [block_add] using hblk2
      by_cases hb : 1 < u2.toNat
      · have hN : node1 sz u.toNat (xs.drop (p + 1)) = .no 1 3 := by rw [kk, drop_cons hu2]; simp [node1, hb]
        have b3 : decide (1 < (u2.toNat : Int)) = true := by simp; omega
        have b3' : 1 < (u2.toNat : Int) := by omega
        have b1 : decide ((n : Int) ≤ (p : Int) + 1) = false := by simp; omega
        have b1' : (p : Int) + 1 < n := by omega
        have ul2 : u2.toNat < 256 := u2.toNat_lt
        clear hu2
        rw [hN]
        clear hN kk HX HB hu k1
        go_enter Try.func76, Try.ntmps76
        go_wp2
        refine bodyPost_ret (res76 { kind := 1 } _ _ _ rfl (by go_simp) (by go_simp) (by go_simp) (by go_simp) (by go_simp)) rfl ?_
        exact ⟨by repeat (first | exact B2 _ _ | exact (B2 _ _).drew | refine Below.setCell ?_ (by simp) _), { kind := 1 }, ret3 (by push_cast; omega)⟩
      · have hN : node1 sz u.toNat (xs.drop (p + 1)) = .ok { kind := 1, int := u2.toNat } 2 := by rw [kk, drop_cons hu2]; simp [node1, hb]
        have b3 : decide (1 < (u2.toNat : Int)) = false := by simp; omega
        have b3' : (u2.toNat : Int) ≤ 1 := by omega
        have b1 : decide ((n : Int) ≤ (p : Int) + 1) = false := by simp; omega
        have b1' : (p : Int) + 1 < n := by omega
        have ul2 : u2.toNat < 256 := u2.toNat_lt
        clear hu2
        rw [hN]
        clear hN kk HX HB hu k1
        go_enter Try.func76, Try.ntmps76
        go_wp2
        refine bodyPost_ret (res76 { kind := 1, int := u2.toNat } _ _ _ rfl (by go_simp) (by go_simp) (by go_simp) (by go_simp) (by go_simp)) rfl ?_
        exact ⟨by repeat (first | exact B2 _ _ | exact (B2 _ _).drew | refine Below.setCell ?_ (by simp) _), ret3 (by push_cast; omega)⟩
    · have epq : p + 1 = n := by omega
      have hN : node1 sz u.toNat (xs.drop (p + 1)) = .no 1 4 := by rw [kk, List.drop_eq_nil_of_le (by have := HX.out; omega)]; rfl
      have b1 : decide ((n : Int) ≤ (p : Int) + 1) = true := by simp; omega
      have b1' : (n : Int) ≤ (p : Int) + 1 := by omega
      rw [hN]
      clear hN kk HX HB hu k1
      go_enter Try.func76, Try.ntmps76
      go_wp2
      refine bodyPost_ret (res76 { kind := 1 } _ _ _ rfl (by go_simp) (by go_simp) (by go_simp) (by go_simp) (by go_simp)) rfl ?_
      exact ⟨by repeat (first | exact B2 _ _ | exact (B2 _ _).drew | refine Below.setCell ?_ (by simp) _), { kind := 1 }, ret3 (by push_cast; omega)⟩
  by_cases k2 : u.toNat = 2
  · have kk := k2
    rw [kk] at hcell
    have cw := fun o1 o2 => refInt_any (some ad) n c (p + 1) xs hn HX.out (by omega) _ (bs_keep' HB.out (B2 o1 o2))
    cases hm : number (xs.drop (p + 1)) with
    | no a er =>
      have hN : node1 sz u.toNat (xs.drop (p + 1)) = .no (1 + a) er := by rw [kk]; simp [node1, hm]
      rw [hm] at cw
      have her : (er != 0) = true := number_no hm
      rw [hN]
      clear hN kk HX HB hu k2
      go_enter Try.func76, Try.ntmps76
      go_wp2_with fail
      refine (cw _ _).mono ?_
      rintro e w2 ⟨rfl, rfl⟩
      go_wp2
      refine bodyPost_ret (res76 { kind := 2 } _ _ _ rfl (by go_simp) (by go_simp) (by go_simp) (by go_simp) (by go_simp)) rfl ?_
      exact ⟨by repeat (first | exact B2 _ _ | exact (B2 _ _).drew | refine Below.setCell ?_ (by simp) _), { kind := 2 }, ret3 (by push_cast; omega)⟩
    | ok m s =>
      have hN : node1 sz u.toNat (xs.drop (p + 1)) = .ok { kind := 2, int := Bt.unzig m } (1 + s) := by rw [kk]; simp [node1, hm]
      rw [hm] at cw
      have vI : ValI (Bt.unzig m) = .int .i64 (Bt.unzig m) := rfl
      rw [hN]
      clear hN kk HX HB hu k2
      go_enter Try.func76, Try.ntmps76
      go_wp2_with fail
      refine (cw _ _).mono ?_
      rintro e w2 ⟨rfl, rfl⟩
      go_wp2
      refine bodyPost_ret (res76 { kind := 2, int := Bt.unzig m } _ _ _ rfl (by go_simp) (by go_simp) (by go_simp) (by go_simp) (by go_simp)) rfl ?_
      exact ⟨by repeat (first | exact B2 _ _ | exact (B2 _ _).drew | refine Below.setCell ?_ (by simp) _), ret3 (by push_cast; omega)⟩
  by_cases k3 : u.toNat = 3
  · have kk := k3
    rw [kk] at hcell
    have cw := fun o1 o2 => refUint_any (some ad) n c (p + 1) xs hn HX.out (by omega) _ (bs_keep' HB.out (B2 o1 o2))
    have ct := fun o1 o2 => refText_any (some ad) n c (p + 1) xs hn hc HX.out (by omega) _ (bs_keep' HB.out (B2 o1 o2))
    cases hm : number (xs.drop (p + 1)) with
    | no a er =>
      have hT : text (xs.drop (p + 1)) = .no a er := by unfold text; rw [hm]
      rw [hT] at ct
      have hN : node1 sz u.toNat (xs.drop (p + 1)) = .no (1 + a) er := by rw [kk]; simp [node1, hm]
      rw [hm] at cw
      have her : (er != 0) = true := number_no hm
      have her2 : (er == 0) = false := by simpa using her
      rw [hN]
      clear hN kk HX HB hu k3 hT
      go_enter Try.func76, Try.ntmps76
      go_wp2_with fail
      refine (cw _ _).mono ?_
      rintro e w2 ⟨rfl, rfl⟩
      go_wp2_with fail
      refine (ct _ _).mono ?_
      rintro e w2 ⟨rfl, rfl⟩
      go_wp2
      refine bodyPost_ret (res76 { kind := 3 } _ _ _ rfl (by go_simp) (by go_simp) (by go_simp) (by go_simp) (by go_simp)) rfl ?_
      exact ⟨by repeat (first | exact B2 _ _ | exact (B2 _ _).drew | refine Below.setCell ?_ (by simp) _), { kind := 3 }, ret3 (by push_cast; omega)⟩
    | ok m s =>
      have hq := number_ok hm
      by_cases hb : 4095 - sz < m
      · have hN : node1 sz u.toNat (xs.drop (p + 1)) = .no 1 2 := by rw [kk]; simp [node1, hm, hb]
        have vI : Val64 m = .int .u64 m := rfl
        rw [hm] at cw
        have ew : IntKind.u64.wrap (4096 - (sz : Int) - 1) = 4096 - (sz : Int) - 1 := by rw [IntKind.wrap_u64]; omega
        have b3 : decide (4096 - (sz : Int) - 1 < (m : Int)) = true := by simp; omega
        have b3' : 4096 - (sz : Int) - 1 < (m : Int) := by omega
        rw [hN]
        clear hN kk HX HB hu k3
        go_enter Try.func76, Try.ntmps76
        go_wp2_with fail
        refine (cw _ _).mono ?_
        rintro e w2 ⟨rfl, rfl⟩
        go_wp2
        refine bodyPost_ret (res76 { kind := 3 } _ _ _ rfl (by go_simp) (by go_simp) (by go_simp) (by go_simp) (by go_simp)) rfl ?_
        exact ⟨by repeat (first | exact B2 _ _ | exact (B2 _ _).drew | refine Below.setCell ?_ (by simp) _), { kind := 3 }, ret3 (by push_cast; omega)⟩
      · cases hb2 : bytesR m ((xs.drop (p + 1)).drop s) with
        | no a er =>
          have hT : text (xs.drop (p + 1)) = .no (s + a) er := by unfold text; rw [hm]; simp only [hb2, Out.shift]
          rw [hT] at ct
          have hN : node1 sz u.toNat (xs.drop (p + 1)) = .no (1 + s + a) er := by rw [kk]; simp only [node1, hm, hb2]; simp [hb]
          have her : er = 4 := bytesR_no hb2
          subst her
          have vI : Val64 m = .int .u64 m := rfl
          rw [hm] at cw
          have ew : IntKind.u64.wrap (4096 - (sz : Int) - 1) = 4096 - (sz : Int) - 1 := by rw [IntKind.wrap_u64]; omega
          have b3 : decide (4096 - (sz : Int) - 1 < (m : Int)) = false := by simp; omega
          have b3' : (m : Int) ≤ 4096 - (sz : Int) - 1 := by omega
          rw [hN]
          clear hN kk HX HB hu k3 hT hb2
          go_enter Try.func76, Try.ntmps76
          go_wp2_with fail
          refine (cw _ _).mono ?_
          rintro e w2 ⟨rfl, rfl⟩
          go_wp2_with fail
          refine (ct _ _).mono ?_
          rintro e w2 ⟨rfl, rfl⟩
          go_wp2
          refine bodyPost_ret (res76 { kind := 3 } _ _ _ rfl (by go_simp) (by go_simp) (by go_simp) (by go_simp) (by go_simp)) rfl ?_
          exact ⟨by repeat (first | exact B2 _ _ | exact (B2 _ _).drew | refine Below.setCell ?_ (by simp) _), { kind := 3 }, ret3 (by push_cast; omega)⟩
        | ok S j =>
          have hT : text (xs.drop (p + 1)) = .ok S (s + j) := by unfold text; rw [hm]; simp only [hb2, Out.shift]
          rw [hT] at ct
          have hN : node1 sz u.toNat (xs.drop (p + 1)) = .ok { kind := 3, text := S } (1 + s + j) := by rw [kk]; simp only [node1, hm, hb2]; simp [hb]
          have vS : ValS S = .string S := rfl
          have vI : Val64 m = .int .u64 m := rfl
          rw [hm] at cw
          have ew : IntKind.u64.wrap (4096 - (sz : Int) - 1) = 4096 - (sz : Int) - 1 := by rw [IntKind.wrap_u64]; omega
          have b3 : decide (4096 - (sz : Int) - 1 < (m : Int)) = false := by simp; omega
          have b3' : (m : Int) ≤ 4096 - (sz : Int) - 1 := by omega
          rw [hN]
          clear hN kk HX HB hu k3 hT hb2
          go_enter Try.func76, Try.ntmps76
          go_wp2_with fail
          refine (cw _ _).mono ?_
          rintro e w2 ⟨rfl, rfl⟩
          go_wp2_with fail
          refine (ct _ _).mono ?_
          rintro e w2 ⟨rfl, rfl⟩
          go_wp2
          refine bodyPost_ret (res76 { kind := 3, text := S } _ _ _ rfl (by go_simp) (by go_simp) (by go_simp) (by go_simp) (by go_simp)) rfl ?_
          exact ⟨by repeat (first | exact B2 _ _ | exact (B2 _ _).drew | refine Below.setCell ?_ (by simp) _), ret3 (by push_cast; omega)⟩
  by_cases k4 : u.toNat = 4
  · have kk := k4
    rw [kk] at hcell
    have cw := fun o1 o2 => refNum_any (some ad) n c (p + 1) xs hn HX.out (by omega) _ (bs_keep' HB.out (B2 o1 o2))
    cases hm : fineBits fineB (xs.drop (p + 1)) with
    | no a er =>
      have hN : node1 sz u.toNat (xs.drop (p + 1)) = .no (1 + a) er := by rw [kk]; simp [node1, hm]
      rw [hm] at cw
      have her : (er != 0) = true := fine_no hm
      rw [hN]
      clear hN kk HX HB hu k4
      go_enter Try.func76, Try.ntmps76
      go_wp2_with fail
      refine (cw _ _).mono ?_
      rintro e w2 ⟨rfl, rfl⟩
      go_wp2
      refine bodyPost_ret (res76 { kind := 4 } _ _ _ rfl (by go_simp) (by go_simp) (by go_simp) (by go_simp) (by go_simp)) rfl ?_
      exact ⟨by repeat (first | exact B2 _ _ | exact (B2 _ _).drew | refine Below.setCell ?_ (by simp) _), { kind := 4 }, ret3 (by push_cast; omega)⟩
    | ok z s =>
      have hN : node1 sz u.toNat (xs.drop (p + 1)) = .ok { kind := 4, num := z } (1 + s) := by rw [kk]; simp [node1, hm]
      rw [hm] at cw
      have vI : ValZ z = .complex .f64 z.1 z.2 := rfl
      rw [hN]
      clear hN kk HX HB hu k4
      go_enter Try.func76, Try.ntmps76
      go_wp2_with fail
      refine (cw _ _).mono ?_
      rintro e w2 ⟨rfl, rfl⟩
      go_wp2
      refine bodyPost_ret (res76 { kind := 4, num := z } _ _ _ rfl (by go_simp) (by go_simp) (by go_simp) (by go_simp) (by go_simp)) rfl ?_
      exact ⟨by repeat (first | exact B2 _ _ | exact (B2 _ _).drew | refine Below.setCell ?_ (by simp) _), ret3 (by push_cast; omega)⟩
  by_cases k5 : u.toNat = 5
  · have kk := k5
    rw [kk] at hcell
    have cw := fun o1 o2 => refUint_any (some ad) n c (p + 1) xs hn HX.out (by omega) _ (bs_keep' HB.out (B2 o1 o2))
    cases hm : number (xs.drop (p + 1)) with
    | no a er =>
      have hN : node1 sz u.toNat (xs.drop (p + 1)) = .no (1 + a) er := by rw [kk]; simp [node1, hm]
      rw [hm] at cw
      have her : (er != 0) = true := number_no hm
      have her2 : (er == 0) = false := by simpa using her
      rw [hN]
      clear hN kk HX HB hu k5
      go_enter Try.func76, Try.ntmps76
      go_wp2_with fail
      refine (cw _ _).mono ?_
      rintro e w2 ⟨rfl, rfl⟩
      go_wp2
      refine bodyPost_ret (res76 { kind := 5 } _ _ _ rfl (by go_simp) (by go_simp) (by go_simp) (by go_simp) (by go_simp)) rfl ?_
      exact ⟨by repeat (first | exact B2 _ _ | exact (B2 _ _).drew | refine Below.setCell ?_ (by simp) _), { kind := 5 }, ret3 (by push_cast; omega)⟩
    | ok m s =>
      by_cases hb : 1024 < m
      · have hN : node1 sz u.toNat (xs.drop (p + 1)) = .no 1 2 := by rw [kk]; simp [node1, hm, hb]
        have vI : Val64 m = .int .u64 m := rfl
        rw [hm] at cw
        have b3 : decide (1024 < (m : Int)) = true := by simp; omega
        have b3' : 1024 < (m : Int) := by omega
        rw [hN]
        clear hN kk HX HB hu k5
        go_enter Try.func76, Try.ntmps76
        go_wp2_with fail
        refine (cw _ _).mono ?_
        rintro e w2 ⟨rfl, rfl⟩
        go_wp2
        refine bodyPost_ret (res76 { kind := 5 } _ _ _ rfl (by go_simp) (by go_simp) (by go_simp) (by go_simp) (by go_simp)) rfl ?_
        exact ⟨by repeat (first | exact B2 _ _ | exact (B2 _ _).drew | refine Below.setCell ?_ (by simp) _), { kind := 5 }, ret3 (by push_cast; omega)⟩
      · have hN : node1 sz u.toNat (xs.drop (p + 1)) = .ok { kind := 5, kids := m } (1 + s) := by rw [kk]; simp [node1, hm, hb]
        have vI : Val64 m = .int .u64 m := rfl
        rw [hm] at cw
        have b3 : decide (1024 < (m : Int)) = false := by simp; omega
        have b3' : (m : Int) ≤ 1024 := by omega
        rw [hN]
        clear hN kk HX HB hu k5
        go_enter Try.func76, Try.ntmps76
        go_wp2_with fail
        refine (cw _ _).mono ?_
        rintro e w2 ⟨rfl, rfl⟩
        go_wp2
        refine bodyPost_ret (res76 { kind := 5, kids := m } _ _ _ rfl (by go_simp) (by go_simp) (by go_simp) (by go_simp) (by go_simp)) rfl ?_
        exact ⟨by repeat (first | exact B2 _ _ | exact (B2 _ _).drew | refine Below.setCell ?_ (by simp) _), ret3 (by push_cast; omega)⟩
  have hN : node1 sz u.toNat (xs.drop (p + 1)) = .no 0 3 := by simp [node1, k0, k1, k2, k3, k4, k5]
  have z0 : ((u.toNat : Int) == 0) = false := by simp only [beq_eq_false_iff_ne, ne_eq]; omega
  have z1 : ((u.toNat : Int) == 1) = false := by simp only [beq_eq_false_iff_ne, ne_eq]; omega
  have z2 : ((u.toNat : Int) == 2) = false := by simp only [beq_eq_false_iff_ne, ne_eq]; omega
  have z3 : ((u.toNat : Int) == 3) = false := by simp only [beq_eq_false_iff_ne, ne_eq]; omega
  have z4 : ((u.toNat : Int) == 4) = false := by simp only [beq_eq_false_iff_ne, ne_eq]; omega
  have z5 : ((u.toNat : Int) == 5) = false := by simp only [beq_eq_false_iff_ne, ne_eq]; omega
  clear k0 k1 k2 k3 k4 k5
  rw [hN]
  clear hN HX HB hu 
  go_enter Try.func76, Try.ntmps76
  go_wp2
  refine bodyPost_ret (res76 { kind := u.toNat } _ _ _ rfl (by go_simp) (by go_simp) (by go_simp) (by go_simp) (by go_simp)) rfl ?_
  exact ⟨by repeat (first | exact B2 _ _ | exact (B2 _ _).drew | refine Below.setCell ?_ (by simp) _), { kind := u.toNat }, ret3 (by push_cast; omega)⟩
end Rd
end Go.Proofs.Ytibhldifmneboaa
