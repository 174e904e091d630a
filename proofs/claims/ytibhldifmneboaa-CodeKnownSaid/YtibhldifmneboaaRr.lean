/- prompterref05's ReadUint, ReadInt, ReadText, ReadNum from a place on, and prompterref02.Same at equal bits: each answers what the plain readers say. -/
import Derived.Test.YtibhldifmneboaaRf
namespace Go.Proofs.Ytibhldifmneboaa
open Go.RowKit
namespace Rd
open Cd Pl
set_option linter.unusedVariables false

/-- what a reference's reader comes to, from the place p on -/
def Rf_ {α : Type} (p : Nat) (val : α → Value) (zero : Value) (o : Out α) (w : World) (e : Ending) (w' : World) : Prop :=
  w = w' ∧ match o with
  | .ok x k => e = .returned (.tuple #[val x, .int .i64 ((p + k : Nat) : Int), .int .i64 0])
  | .no a er => e = .returned (.tuple #[zero, .int .i64 ((p + a : Nat) : Int), .int .i64 er])

theorem Bs.at_ {w : World} {A : Option Addr} {xs : List UInt8} (h : Bs w A xs) {p : Nat} {u : UInt8} (hp : xs[p]? = some u) : ∃ ad, A = some ad ∧ w.cell? (ad.add p) = some (.int .u8 (u.toNat : Int)) := by
  have hl := (List.getElem?_eq_some_iff.1 hp).1
  obtain ⟨ad, e, hc⟩ := h (by omega)
  exact ⟨ad, e, hc p u hp⟩

theorem ret3i {x y : Int} {a b : Int} {er : Int} (hx : x = y) (h : a = b) : Ending.returned (.tuple #[.int .i64 x, .int .i64 a, .int .i64 er]) = .returned (.tuple #[.int .i64 y, .int .i64 b, .int .i64 er]) := by rw [hx, h]
theorem ret3 {v : Value} {a b : Int} {er : Int} (h : a = b) : Ending.returned (.tuple #[v, .int .i64 a, .int .i64 er]) = .returned (.tuple #[v, .int .i64 b, .int .i64 er]) := by rw [h]

set_option maxHeartbeats 1000000 in
set_option maxRecDepth 100000 in
theorem refUint_any (A : Option Addr) (n c p : Nat) (xs : List UInt8) (hn : n ≤ 30000) (hx : xs.length = n) (hp : p ≤ n) (w : World) (hb : Bs w A xs) :
    Calls Try.prog 34 #[.slice A n c, .int .i64 p] w (Rf_ p Val64 (.int .u64 0) (number (xs.drop p)) w) := by
  obtain ⟨R, hR⟩ : ∃ R, R = number (xs.drop p) := ⟨_, rfl⟩
  rw [← hR]
  have HR := Lib.hid (show numGo 0 0 (xs.drop (p + 0)) = R from hR.symm)
  have HB := Lib.hid hb
  have HX := Lib.hid hx
  clear hR hb hx
  go_enter Try.func34, Try.ntmps34
  go_wp2
  go_loop [7, 8, 9] (fun t i _ => ∃ q acc : Nat, q ≤ 9 ∧ p + q ≤ n ∧ Hid (acc < 128 ^ q) ∧ t = .int .u64 acc ∧ i = .int .i64 q ∧ Hid (numGo q acc (xs.drop (p + q)) = R)) (fun _ i _ => 9 - (intOf i).toNat)
  case atStart => exact ⟨0, 0, by omega, by omega, Lib.hid (by omega), rfl, rfl, HR⟩
  case round =>
    obtain ⟨q, acc, hq, hpq, hacc, rfl, rfl, HE⟩ := hrel
    rcases Nat.lt_or_ge (p + q) n with hlt2 | hge
    · obtain ⟨u, hu⟩ : ∃ u, xs[p + q]? = some u := ⟨_, List.getElem?_eq_getElem (by have := HX.out; omega)⟩
      obtain ⟨ad, rfl, hc⟩ := HB.out.at_ hu
      have E1 := HE.out
      rw [drop_at hu, numGo] at E1
      have hul : u.toNat < 256 := u.toNat_lt
      have hu0 : u = 0 ↔ u.toNat = 0 := ⟨fun h => by rw [h]; rfl, fun h => UInt8.toNat_inj.1 h⟩
      have hu1 : u = 1 ↔ u.toNat = 1 := ⟨fun h => by rw [h]; rfl, fun h => UInt8.toNat_inj.1 h⟩
      clear hu HE
      by_cases bad : (u = 0 ∧ 0 < q) ∨ (q = 9 ∧ u ≠ 1)
      · rw [if_pos bad] at E1
        rw [hu0, Ne, hu1] at bad
        clear hu0 hu1
        replace E1 := Lib.hid E1
        by_cases z : u.toNat = 0 ∧ 0 < q
        · have b1 : ((u.toNat : Int) == 0) = true := by simp only [beq_iff_eq]; omega
          have b2 : 0 < q := by omega
          clear z bad
          go_wp2
          go_ret3
          rw [← E1.out]
          exact ⟨rfl, ret3 (by simp)⟩
        · by_cases hq0 : 0 < q
          · have b1 : ((u.toNat : Int) == 0) = false := by simp only [beq_eq_false_iff_ne, ne_eq]; omega
            have b2 : ((q : Int) == 9) = true := by simp only [beq_iff_eq]; omega
            have b3 : ((u.toNat : Int) != 1) = true := by simp only [bne_iff_ne, ne_eq]; omega
            clear z bad
            go_wp2
            go_ret3
            rw [← E1.out]
            exact ⟨rfl, ret3 (by simp)⟩
          · exact absurd hq0 (by omega)
      · rw [if_neg bad] at E1
        have hb9 : q = 9 → u.toNat = 1 := fun h => by
          rcases Classical.em (u.toNat = 1) with k | k
          · exact k
          · exact absurd (.inr ⟨h, fun e => k (hu1.1 e)⟩) bad
        have hb0 : u.toNat = 0 → q = 0 := fun h => by
          rcases Nat.eq_zero_or_pos q with k | k
          · exact k
          · exact absurd (.inl ⟨hu0.2 h, k⟩) bad
        obtain ⟨s1, s2, s3⟩ := Bt.rstep acc q u.toNat hq hacc.out hul (fun h => by have := hb9 h; omega)
        obtain ⟨acc', ha'⟩ : ∃ a, a = acc + u.toNat % 128 * 128 ^ q := ⟨_, rfl⟩
        rw [← ha'] at s1 s2 s3 E1
        have S1 := Lib.hid s1
        have S3 := Lib.hid s3
        clear s1 s3 ha' hu0 hu1 bad
        by_cases small : u.toNat < 128
        · rw [if_pos small] at E1
          replace E1 := Lib.hid E1
          by_cases hq0 : q = 0
          · subst hq0
            simp only [Nat.add_zero] at hc
            have S0 := S1.out
            rw [Nat.mul_zero, Int.pow_zero, Int.mul_one, Bt.wrap_mod] at S0
            have HS0 := Lib.hid S0
            clear S0 S1
            have b5 : (u.toNat : Int) < 128 := by omega
            clear hb9 hb0
            go_wp2
            rw [HS0.out]
            go_ret3
            rw [← E1.out]
            exact ⟨rfl, ret3 (by first | (simp; done) | (simp; omega))⟩
          · by_cases nine : q = 9
            · have h9 := hb9 nine
              have z : ¬ u.toNat = 0 := by omega
              have b1 : ((u.toNat : Int) == 0) = false := by simp only [beq_eq_false_iff_ne, ne_eq]; omega
              have b3 : ((q : Int) == 9) = true := by simp only [beq_iff_eq]; omega
              have b4 : ((u.toNat : Int) != 1) = false := by simp only [bne_eq_false_iff_eq]; omega
              have b2 : 0 < q := by omega
              have b5 : (u.toNat : Int) < 128 := by omega
              clear z h9 nine hq0 small
              clear hb9 hb0
              go_wp2
              rw [S1.out]
              go_ret3
              rw [← E1.out]
              exact ⟨rfl, ret3 (by first | (simp; done) | (simp; omega))⟩
            · have z : ¬ u.toNat = 0 := fun h => hq0 (hb0 h)
              have b1 : ((u.toNat : Int) == 0) = false := by simp only [beq_eq_false_iff_ne, ne_eq]; omega
              have b3 : ((q : Int) == 9) = false := by simp only [beq_eq_false_iff_ne, ne_eq]; omega
              have b2 : 0 < q := by omega
              have b5 : (u.toNat : Int) < 128 := by omega
              clear z nine hq0 small
              clear hb9 hb0
              go_wp2
              rw [S1.out]
              go_ret3
              rw [← E1.out]
              exact ⟨rfl, ret3 (by first | (simp; done) | (simp; omega))⟩
        · rw [if_neg small] at E1
          replace E1 : numGo (q + 1) acc' (List.drop (p + (q + 1)) xs) = R := E1
          replace E1 := Lib.hid E1
          have nine : ¬ q = 9 := fun h => by have := hb9 h; omega
          have z : ¬ u.toNat = 0 := by omega
          have q8 : q ≤ 8 := by omega
          by_cases hq0 : q = 0
          · subst hq0
            simp only [Nat.add_zero] at hc
            have S0 := S1.out
            rw [Nat.mul_zero, Int.pow_zero, Int.mul_one, Bt.wrap_mod] at S0
            have HS0 := Lib.hid S0
            clear S0 S1
            have b5 : 128 ≤ (u.toNat : Int) := by omega
            clear hb9 hb0
            go_wp2
            rw [HS0.out]
            go_round
            case rel => exact ⟨1, acc', by omega, by omega, S3, rfl, by go_num, E1⟩
            case measure => first | (simp [intOf]; done) | (simp [intOf]; omega)
          · skip
            have b1 : ((u.toNat : Int) == 0) = false := by simp only [beq_eq_false_iff_ne, ne_eq]; omega
            have b3 : ((q : Int) == 9) = false := by simp only [beq_eq_false_iff_ne, ne_eq]; omega
            have b2 : 0 < q := by omega
            have b5 : 128 ≤ (u.toNat : Int) := by omega
            clear z nine hq0 small
            clear hb9 hb0
            go_wp2
            rw [S1.out]
            go_round
            case rel => exact ⟨q + 1, acc', by omega, by omega, S3, rfl, by go_num, E1⟩
            case measure => first | (simp [intOf]; done) | (simp [intOf]; omega)
    · have E1 := HE.out
      rw [List.drop_eq_nil_of_le (by have := HX.out; omega), numGo] at E1
      have EN := Lib.hid (show p + q = n by omega)
      replace E1 := Lib.hid E1
      clear HE
      go_wp2
      go_ret3
      rw [← E1.out]
      exact ⟨rfl, ret3 (by have := EN.out; omega)⟩

theorem refInt_any (A : Option Addr) (n c p : Nat) (xs : List UInt8) (hn : n ≤ 30000) (hx : xs.length = n) (hp : p ≤ n) (w : World) (hb : Bs w A xs) :
    Calls Try.prog 35 #[.slice A n c, .int .i64 p] w (Rf_ p ValI (.int .i64 0) (mapOut Bt.unzig (number (xs.drop p))) w) := by
  have cu := refUint_any A n c p xs hn hx hp w hb
  obtain ⟨R, hR⟩ : ∃ R, R = number (xs.drop p) := ⟨_, rfl⟩
  rw [← hR] at cu ⊢
  clear hb hx
  cases R with
  | ok v k =>
    have hv2 := (number_ok hR.symm).1
    have hv : Val64 v = .int .u64 (v : Int) := rfl
    rcases (by omega : v % 2 = 0 ∨ v % 2 = 1) with h | h
    · have hz := Lib.hid (Bt.unzig_even v hv2 h)
      have b1 : ((v : Int) % 2 == 1) = false := by simp only [beq_eq_false_iff_ne, ne_eq]; omega
      clear hR hv2 h
      go_enter Try.func35, Try.ntmps35
      go_wp2_with fail
      refine cu.mono ?_
      rintro e w1 ⟨rfl, rfl⟩
      go_wp2
      go_ret3
      exact ⟨rfl, ret3i hz.out (by simp)⟩
    · have hz := Lib.hid (Bt.unzig_odd v hv2 h)
      have b1 : ((v : Int) % 2 == 1) = true := by simp only [beq_iff_eq]; omega
      clear hR hv2 h
      go_enter Try.func35, Try.ntmps35
      go_wp2_with fail
      refine cu.mono ?_
      rintro e w1 ⟨rfl, rfl⟩
      go_wp2
      go_ret3
      exact ⟨rfl, ret3i hz.out (by simp)⟩
  | no a er =>
    have he : (er != 0) = true := number_no hR.symm
    clear hR
    go_enter Try.func35, Try.ntmps35
    go_wp2_with fail
    refine cu.mono ?_
    rintro e w1 ⟨rfl, rfl⟩
    go_wp2
    go_ret3
    exact ⟨rfl, ret3 (by simp)⟩

theorem Bs.mid {w : World} {A : Option Addr} {xs : List UInt8} (h : Bs w A xs) {n c p k : Nat} (hc : n ≤ c) (hx : xs.length = n) (hp : p + k ≤ n) (hn : n ≤ 30000) :
    (∀ W : World, (Instr.slice 44 (.slice A n c) (some (.int .i64 (p : Int))) (some (.int .i64 ((p : Int) + k))) none).run Try.prog W = .ok (.slice (if c = p then A else A.map (·.add p)) k (c - p)) W) ∧
    (convert 44 9 (.slice (if c = p then A else A.map (·.add p)) k (c - p))).run Try.prog w = .ok (.string ⟨((xs.drop p).take k).toArray⟩) w := by
  have hl : ((xs.drop p).take k).length = k := by rw [List.length_take, List.length_drop]; omega
  obtain ⟨i0, hi0, _, hsz0, _⟩ := info_parts info5
  refine ⟨fun W => ?_, ?_⟩
  · have hel : Try.prog.elem 44 = 5 := by simp [Program.elem, Try.underlying44]
    have hu : Try.prog.underlying 44 = some (.slice (Try.prog.elem 44)) := by rw [hel]; exact Try.underlying44
    rw [run_slice_lh W 44 A n c hu .i64 .i64 p ((p : Int) + k) (by omega) (by omega) (by omega), hel]
    have e1 : ((p : Int) + k).toNat = p + k := by omega
    simp [sizeOf, typeInfo, hi0, hsz0, sliced, Result.andThen, e1]
  · have := (h.cut (c := c) (p := p) (k := k) (by omega) (by omega)).conv (c - p)
    rwa [hl] at this

set_option maxRecDepth 100000 in
theorem refText_any (A : Option Addr) (n c p : Nat) (xs : List UInt8) (hn : n ≤ 30000) (hc : n ≤ c) (hx : xs.length = n) (hp : p ≤ n) (w : World) (hb : Bs w A xs) :
    Calls Try.prog 36 #[.slice A n c, .int .i64 p] w (Rf_ p ValS (.string ⟨#[]⟩) (text (xs.drop p)) w) := by
  have cu := refUint_any A n c p xs hn hx hp w hb
  unfold text
  obtain ⟨R, hR⟩ : ∃ R, R = number (xs.drop p) := ⟨_, rfl⟩
  rw [← hR] at cu ⊢
  cases R with
  | ok v k =>
    obtain ⟨b1, b2, b3⟩ := number_ok hR.symm
    rw [List.length_drop, hx] at b3
    have hd : (xs.drop p).drop k = xs.drop (p + k) := by rw [List.drop_drop]
    have hl : (xs.drop (p + k)).length = n - (p + k) := by rw [List.length_drop, hx]
    simp only [hd]
    have hv : Val64 v = .int .u64 (v : Int) := rfl
    have e1 : IntKind.u64.wrap ((n : Int) - ((p : Int) + k)) = (n : Int) - ((p : Int) + k) := by rw [IntKind.wrap_u64]; omega
    rcases Nat.lt_or_ge (n - (p + k)) v with hs | hs
    · have e : bytesR v (xs.drop (p + k)) = .no (n - (p + k)) 4 := by unfold bytesR; rw [hl, if_pos hs]
      rw [e]
      have hg : (n : Int) - ((p : Int) + k) < (v : Int) := by omega
      have EN := Lib.hid (show (p : Int) + (k + (n - (p + k)) : Nat) = n by omega)
      have hpk : (p : Int) + k ≤ n := by omega
      have hpk0 : 0 ≤ (p : Int) + k := by omega
      clear hR hb hx hd hl e hs b1 b3
      go_enter Try.func36, Try.ntmps36
      go_wp2_with fail
      refine cu.mono ?_
      rintro e w1 ⟨rfl, rfl⟩
      go_wp2
      go_ret3
      exact ⟨rfl, ret3 EN.out.symm⟩
    · have e : bytesR v (xs.drop (p + k)) = .ok ⟨((xs.drop (p + k)).take v).toArray⟩ v := by unfold bytesR; rw [hl, if_neg (by omega)]
      rw [e]
      obtain ⟨m1, m2⟩ := hb.mid (p := p + k) (k := v) hc hx (by omega) hn
      generalize (⟨((xs.drop (p + k)).take v).toArray⟩ : ByteArray) = S at *
      generalize (if c = p + k then A else A.map (·.add (p + k))) = A' at *
      have hg : (v : Int) ≤ (n : Int) - ((p : Int) + k) := by omega
      have hpk : (p : Int) + k ≤ n := by omega
      have hpk0 : 0 ≤ (p : Int) + k := by omega
      have hvn : (v : Int) ≤ 30000 := by omega
      have M1 : ∀ W : World, (Instr.slice 44 (.slice A n c) (some (.int .i64 ((p : Int) + k))) (some (.int .i64 ((p : Int) + k + v))) none).run Try.prog W = .ok (.slice A' v (c - (p + k))) W := by
        intro W
        have := m1 W
        rwa [Int.natCast_add] at this
      clear hR hb hx hd hl e hs b1 b3 m1
      go_enter Try.func36, Try.ntmps36
      go_wp2_with fail
      refine cu.mono ?_
      rintro e w1 ⟨rfl, rfl⟩
      go_wp2
      go_ret3
      exact ⟨rfl, ret3 (by simp; omega)⟩
  | no a er =>
    have he : (er != 0) = true := number_no hR.symm
    clear hR hb hx
    go_enter Try.func36, Try.ntmps36
    go_wp2_with fail
    refine cu.mono ?_
    rintro e w1 ⟨rfl, rfl⟩
    go_wp2
    go_ret3
    exact ⟨rfl, ret3 (by simp)⟩

theorem refNum_short (A : Option Addr) (n c p : Nat) (hn : n ≤ 30000) (hp : p ≤ n) (hs : n - p < 16) (w : World) :
    Calls Try.prog 38 #[.slice A n c, .int .i64 p] w (fun e w' => w = w' ∧ e = .returned (.tuple #[.complex .f64 0 0, .int .i64 n, .int .i64 4])) := by
  have hg : (n : Int) - p < 16 := by omega
  clear hs
  go_enter Try.func38, Try.ntmps38
  go_wp2
  go_ret3
  exact ⟨rfl, rfl⟩

theorem drop_take_get {xs : List UInt8} {p i : Nat} {u : UInt8} (h : ((xs.drop p).take 16)[i]? = some u) : xs[p + i]? = some u := by
  have hi : i < 16 := by have := (List.getElem?_eq_some_iff.1 h).1; rw [List.length_take] at this; omega
  rw [List.getElem?_take_of_lt hi, List.getElem?_drop] at h
  exact h

set_option maxHeartbeats 1000000 in
set_option maxRecDepth 100000 in
theorem refNum_long (A : Option Addr) (n c p : Nat) (xs : List UInt8) (hn : n ≤ 30000) (hx : xs.length = n) (hp : p + 16 ≤ n) (w : World) (hb : Bs w A xs) :
    Calls Try.prog 38 #[.slice A n c, .int .i64 p] w (Rf_ p ValZ (.complex .f64 0 0) (fineBits fineB (xs.drop p)) w) := by
  have hl : ((xs.drop p).take 16).length = 16 := by rw [List.length_take, List.length_drop]; omega
  have hD : ¬ (xs.drop p).length < 16 := by rw [List.length_drop]; omega
  have hget : ∀ i u, ((xs.drop p).take 16)[i]? = some u → xs[p + i]? = some u := fun i u h => drop_take_get h
  obtain ⟨R, hR⟩ : ∃ R, R = fineBits fineB (xs.drop p) := ⟨_, rfl⟩
  rw [← hR]
  unfold fineBits at hR
  rw [if_neg hD] at hR
  generalize (xs.drop p).take 16 = S at *
  have HL := Lib.hid hl
  have HR := Lib.hid hR
  have HG := Lib.hid hget
  have HB := Lib.hid hb
  clear hl hR hD hb hx hget
  go_enter Try.func38, Try.ntmps38
  go_wp2
  go_loop [7, 8, 9] (fun a b t => ∃ i : Nat, i ≤ 8 ∧ t = .int .i64 i ∧ a = .int .u64 (be (S.take i)) ∧ b = .int .u64 (be ((S.drop 8).take i))) (fun _ _ t => 8 - (intOf t).toNat)
  case atStart => exact ⟨0, by omega, rfl, rfl, rfl⟩
  case round =>
    obtain ⟨i, hi, rfl, rfl, rfl⟩ := hrel
    rcases Nat.lt_or_ge i 8 with h8 | h8
    · obtain ⟨u, hu⟩ : ∃ u, S[i]? = some u := ⟨_, List.getElem?_eq_getElem (by have := HL.out; omega)⟩
      obtain ⟨v, hv⟩ : ∃ v, S[8 + i]? = some v := ⟨_, List.getElem?_eq_getElem (by have := HL.out; omega)⟩
      obtain ⟨ad, rfl, c1⟩ := HB.out.at_ (HG.out i u hu)
      obtain ⟨ad2, e2, c2⟩ := HB.out.at_ (HG.out (8 + i) v hv)
      injection e2 with e2
      subst e2
      rw [← Nat.add_assoc] at c2
      have hv' : (S.drop 8)[i]? = some v := by rw [List.getElem?_drop]; exact hv
      have s1 : be (S.take (i + 1)) = be (S.take i) * 256 + u.toNat := by rw [take_snoc hu, be_snoc]
      have s2 : be ((S.drop 8).take (i + 1)) = be ((S.drop 8).take i) * 256 + v.toNat := by rw [take_snoc hv', be_snoc]
      have t1 : be (S.take i) < 72057594037927936 := by
        refine Nat.lt_of_lt_of_le (be_lt _) ?_
        exact Nat.le_trans (Nat.pow_le_pow_right (by omega) (by rw [List.length_take]; omega : (S.take i).length ≤ 7)) (by decide)
      have t2 : be ((S.drop 8).take i) < 72057594037927936 := by
        refine Nat.lt_of_lt_of_le (be_lt _) ?_
        exact Nat.le_trans (Nat.pow_le_pow_right (by omega) (by rw [List.length_take]; omega : ((S.drop 8).take i).length ≤ 7)) (by decide)
      have b1 := Bt.rbe _ u.toNat t1 u.toNat_lt
      have b2 := Bt.rbe _ v.toNat t2 v.toNat_lt
      rw [← s1] at b1
      rw [← s2] at b2
      have X1 := Lib.hid b1
      have X2 := Lib.hid b2
      clear s1 s2 t1 t2 b1 b2 hu hv hv'
      go_wp2
      go_round
      case rel => exact ⟨i + 1, by omega, rfl, by rw [X1.out], by rw [X2.out]⟩
      case measure => simp [intOf]; omega
    · obtain rfl : i = 8 := by omega
      have hfb := fun b w => run_frombits b w
      have e1 : hiv S 16 = be (S.take 8) := by unfold hiv; rw [List.take_take, Nat.min_eq_left (by omega)]
      have e2 : lov S 16 = be ((S.drop 8).take 8) := by
        unfold lov
        rw [List.take_of_length_le (by have := HL.out; omega)]
        exact congrArg be (List.take_of_length_le (by rw [List.length_drop]; have := HL.out; omega)).symm
      have hr := HR.out
      rw [e1, e2] at hr
      clear e1 e2 HR
      generalize be (S.take 8) = X at *
      generalize be ((S.drop 8).take 8) = Y at *
      have cF := fun w => fine2_any X Y w
      cases hf : fineB X Y with
      | true =>
        rw [hf] at cF
        rw [hf, if_pos rfl] at hr
        have HRR := Lib.hid hr
        clear hr hf
        go_wp2_with fail
        refine (cF _).mono ?_
        rintro e w3 ⟨rfl, rfl⟩
        go_wp2
        go_ret3
        rw [HRR.out]
        exact ⟨rfl, ret3 (by simp)⟩
      | false =>
        rw [hf] at cF
        rw [hf, if_neg (by simp)] at hr
        have HRR := Lib.hid hr
        clear hr hf
        go_wp2_with fail
        refine (cF _).mono ?_
        rintro e w3 ⟨rfl, rfl⟩
        go_wp2
        go_ret3
        rw [HRR.out]
        exact ⟨rfl, ret3 (by simp)⟩

theorem refNum_any (A : Option Addr) (n c p : Nat) (xs : List UInt8) (hn : n ≤ 30000) (hx : xs.length = n) (hp : p ≤ n) (w : World) (hb : Bs w A xs) :
    Calls Try.prog 38 #[.slice A n c, .int .i64 p] w (Rf_ p ValZ (.complex .f64 0 0) (fineBits fineB (xs.drop p)) w) := by
  rcases Nat.lt_or_ge (n - p) 16 with hs | hs
  · have e : fineBits fineB (xs.drop p) = .no (n - p) 4 := by
      unfold fineBits
      rw [List.length_drop, hx, if_pos hs]
    rw [e]
    refine (refNum_short A n c p hn hp hs w).mono ?_
    rintro e w1 ⟨rfl, rfl⟩
    exact ⟨rfl, ret3 (by omega)⟩
  · exact refNum_long A n c p xs hn hx (by omega) w hb

theorem one_same (b : Nat) (w : World) : Calls Try.prog 73 #[.float .f64 b, .float .f64 b] w fun e w' => e = .returned (.bool true) ∧ w = w' := by
  have cn := fun w => nan_any b w
  have hr := fun w => run_bits b w
  cases hn : Fl.nanB b with
  | true =>
    rw [hn] at cn
    clear hn
    go_enter Try.func73, Try.ntmps73
    go_wp2_with fail
    refine (cn _).mono ?_
    rintro e w1 ⟨rfl, rfl⟩
    go_wp2_with fail
    refine (cn _).mono ?_
    rintro e w1 ⟨rfl, rfl⟩
    go_wp2
    go_ret
    exact ⟨rfl, rfl⟩
  | false =>
    rw [hn] at cn
    clear hn
    go_enter Try.func73, Try.ntmps73
    go_wp2_with fail
    refine (cn _).mono ?_
    rintro e w1 ⟨rfl, rfl⟩
    go_wp2
    go_ret
    exact ⟨rfl, rfl⟩

theorem Same_same (a b : Nat) (w : World) : Calls Try.prog 39 #[.complex .f64 a b, .complex .f64 a b] w fun e w' => e = .returned (.bool true) ∧ w = w' := by
  have ca := fun w => one_same a w
  have cb := fun w => one_same b w
  go_enter Try.func39, Try.ntmps39
  go_wp2_with fail
  refine (ca _).mono ?_
  rintro e w1 ⟨rfl, rfl⟩
  go_wp2_with fail
  refine (cb _).mono ?_
  rintro e w1 ⟨rfl, rfl⟩
  go_wp2
  go_ret
  exact ⟨rfl, rfl⟩

theorem long_any (A : Option Addr) (n c : Nat) (hn : n ≤ 9223372036854775807) (w : World) : Calls Try.prog 32 #[.slice A n c] w fun e w' => e = .returned (.bool (decide (20000 < (n : Int)))) ∧ w = w' := by
  go_enter Try.func32, Try.ntmps32
  go_wp2
  go_ret
  exact ⟨rfl, rfl⟩
end Rd
end Go.Proofs.Ytibhldifmneboaa
