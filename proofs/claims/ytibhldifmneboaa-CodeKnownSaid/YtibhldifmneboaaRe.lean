/- Contracts of package code's reader: whole, bytes, the text, num. -/
import Derived.Test.YtibhldifmneboaaRd
import Derived.Lib.ConvBytes
import Derived.Laws.BytesArg
namespace Go.Proofs.Ytibhldifmneboaa
open Go.RowKit
namespace Rd
open Cd
set_option linter.unusedVariables false

def mapOut {α β : Type} (f : α → β) : Out α → Out β
  | .ok x k => .ok (f x) k
  | .no a e => .no a e
def ValI (x : Int) : Value := .int .i64 x

theorem whole_any (g : Nat) (A : Option Addr) (n c p : Nat) (xs : List UInt8) (hn : n ≤ 30000) (hx : xs.length = n) (hp : p ≤ n) (w : World) (h : At w g A n c p) (hb : Byt w g A xs) :
    Calls Try.prog 63 #[.pointer (some ⟨g, 0, none⟩)] w (Come g A n c p ValI (mapOut Bt.unzig (number (xs.drop p))) w) := by
  have cn := number_any g A n c p xs hn hx hp w h hb
  obtain ⟨R, hR⟩ : ∃ R, R = number (xs.drop p) := ⟨_, rfl⟩
  rw [← hR] at cn ⊢
  clear hb hx
  cases R with
  | ok v k =>
    have hz := Lib.hid (Bt.unzig_bits v (number_ok hR.symm).1)
    clear hR
    go_enter Try.func63, Try.ntmps63
    go_wp2_with fail
    refine cn.mono ?_
    rintro e w1 ⟨rfl, a1, g1⟩
    have hv : Val64 v = .int .u64 (v : Int) := rfl
    go_wp2
    go_ret
    exact ⟨congrArg (fun x => Ending.returned (.int .i64 x)) hz.out, a1, g1⟩
  | no a er =>
    clear hR
    go_enter Try.func63, Try.ntmps63
    go_wp2_with fail
    refine cn.mono ?_
    rintro e w1 ⟨rfl, g1⟩
    go_wp2
    exact ⟨rfl, rfl, g1⟩
theorem info5 : (Try.prog.info? 5).map (fun i => (i.zero, i.size, i.bytes)) = some (some (.int .u8 0), 1, 1) := by kernel_rfl

/-- a row of bytes that is read -/
def Bs (w : World) (A : Option Addr) (l : List UInt8) : Prop :=
  0 < l.length → ∃ ad, A = some ad ∧ ∀ j u, l[j]? = some u → w.cell? (ad.add j) = some (.int .u8 (u.toNat : Int))
theorem Byt.bs {w : World} {g : Nat} {A : Option Addr} {xs : List UInt8} (h : Byt w g A xs) : Bs w A xs := fun hx => by
  obtain ⟨ad, e, _, hc⟩ := h hx
  exact ⟨ad, e, hc⟩
theorem add_add (a : Addr) (i j : Nat) : (a.add i).add j = a.add (i + j) := by
  unfold Addr.add
  by_cases hi : i = 0 <;> by_cases hj : j = 0 <;> simp [hi, hj, Nat.add_assoc]
/-- a cut of it -/
theorem Bs.cut {w : World} {A : Option Addr} {l : List UInt8} (h : Bs w A l) {c p k : Nat} (hp : p + k ≤ l.length) (hc : l.length ≤ c) : Bs w (if c = p then A else A.map (·.add p)) ((l.drop p).take k) := fun hx => by
  have hk : ((l.drop p).take k).length = k := by rw [List.length_take, List.length_drop]; omega
  obtain ⟨ad, rfl, hcell⟩ := h (by omega)
  rw [if_neg (by omega)]
  refine ⟨ad.add p, rfl, fun j u hu => ?_⟩
  rw [add_add]
  refine hcell _ u ?_
  have hj : j < k := by have := (List.getElem?_eq_some_iff.1 hu).1; omega
  rw [List.getElem?_take_of_lt hj, List.getElem?_drop] at hu
  exact hu
theorem Bs.conv {w : World} {A : Option Addr} {l : List UInt8} (h : Bs w A l) (c : Nat) : (convert 44 9 (.slice A l.length c)).run Try.prog w = .ok (.string ⟨l.toArray⟩) w := by
  rcases A with _ | ad
  · have h0 : l = [] := by
      rcases Nat.eq_zero_or_pos l.length with h0 | h0
      · exact List.eq_nil_of_length_eq_zero h0
      · obtain ⟨ad, h', _⟩ := h h0; cases h'
    subst h0
    exact run_convert_bytes_nil w 44 5 Try.underlying44 Try.underlying5 0 c 9 Try.underlying9
  · refine run_convert_bytes_back w 44 9 5 ad c l Try.underlying44 Try.underlying5 Try.underlying9 (fun j hj => ?_)
    obtain ⟨ad', e, hc⟩ := h (by omega)
    injection e with e
    subst e
    exact hc j _ (List.getElem?_eq_getElem hj)

theorem bytes_no (g : Nat) (A : Option Addr) (n c p k : Nat) (hk : n - p < k) (hk2 : k < 18446744073709551616) (hn : n ≤ 30000) (hp : p ≤ n) (w : World) (h : At w g A n c p) :
    Calls Try.prog 66 #[.pointer (some ⟨g, 0, none⟩), .int .u64 k] w (Out_ g n 4 w) := by
  obtain ⟨h0, h1, h2⟩ := h.cells
  have cf := fun w => fail_any n 4 w
  have ew : IntKind.i64.wrap ((n : Int) - p) = (n : Int) - p := by rw [IntKind.wrap_i64]; omega
  have ew2 : IntKind.u64.wrap ((n : Int) - p) = (n : Int) - p := by rw [IntKind.wrap_u64]; omega
  have hg : decide ((k : Int) ≤ (n : Int) - p) = false := by simp; omega
  have hg2 : decide ((n : Int) - p < (k : Int)) = true := by simp; omega
  clear hk hk2
  go_enter Try.func66, Try.ntmps66
  go_wp2
  go_quiet (fail)
  go_wp2_with fail
  refine (cf _).mono ?_
  rintro e w1 ⟨rfl, rfl⟩
  go_wp2
  exact ⟨rfl, rfl, G_drewN _ _ _⟩

theorem bytes_ok (g : Nat) (A : Option Addr) (n c p k : Nat) (xs : List UInt8) (hn : n ≤ 30000) (hc : n ≤ c) (hx : xs.length = n) (hp : p + k ≤ n) (w : World) (h : At w g A n c p) (hb : Byt w g A xs) :
    Calls Try.prog 66 #[.pointer (some ⟨g, 0, none⟩), .int .u64 k] w (End g A n c (p + k) (.string ⟨((xs.drop p).take k).toArray⟩) w) := by
  obtain ⟨h0, h1, h2⟩ := h.cells
  have hlt := h.lt
  have hl : ((xs.drop p).take k).length = k := by rw [List.length_take, List.length_drop]; omega
  obtain ⟨i0, hi0, _, hsz0, _⟩ := info_parts info5
  have hcv : ∀ q v m, (convert 44 9 (.slice (if c = p then A else A.map (·.add p)) k (c - p))).run Try.prog (((w.drewN q).setCell ⟨g, 1, none⟩ v).drewN m) = .ok (.string ⟨((xs.drop p).take k).toArray⟩) (((w.drewN q).setCell ⟨g, 1, none⟩ v).drewN m) := fun q v m => by
    have hb2 : Byt (((w.drewN q).setCell ⟨g, 1, none⟩ v).drewN m) g A xs := hb.keep (G_draw (G_set (G_drewN g w q) 1 v) m) hlt
    have := (hb2.bs.cut (c := c) (p := p) (k := k) (by omega) (by omega)).conv (c - p)
    rwa [hl] at this
  have hsl : ∀ W : World, (Instr.slice 44 (.slice A n c) (some (.int .i64 (p : Int))) (some (.int .i64 ((p : Int) + k))) none).run Try.prog W = .ok (.slice (if c = p then A else A.map (·.add p)) k (c - p)) W := by
    intro W
    have hel : Try.prog.elem 44 = 5 := by simp [Program.elem, Try.underlying44]
    have hu : Try.prog.underlying 44 = some (.slice (Try.prog.elem 44)) := by rw [hel]; exact Try.underlying44
    rw [run_slice_lh W 44 A n c hu .i64 .i64 p ((p : Int) + k) (by omega) (by omega) (by omega), hel]
    have e1 : ((p : Int) + k).toNat = p + k := by omega
    simp [sizeOf, typeInfo, hi0, hsz0, sliced, Result.andThen, e1]
  generalize (if c = p then A else A.map (·.add p)) = A' at *
  generalize (⟨((xs.drop p).take k).toArray⟩ : ByteArray) = S at *
  have q1 : p ≤ n := by omega
  have q2 : p ≤ 30000 := by omega
  have q3 : k ≤ 30000 := by omega
  have hb1 : (k : Int) ≤ 30000 := by omega
  have hb2 : (p : Int) ≤ 30000 := by omega
  have ew := Bt.wsub_i q1 hn
  have ew2 := Bt.wsub_u q1 hn
  have ew3 := Bt.w64_nat q3
  have ew5 := Bt.wnat_i q2
  have ew6 := Bt.wnat_i q3
  have hg := Bt.dle hp
  have hg2 := Bt.dlt hp
  clear hx hl hb hi0 hsz0 hp hc q1 q2 q3
  go_enter Try.func66, Try.ntmps66
  go_wp2
  go_quiet (fail)
  go_wp2
  go_quiet (fail)
  go_wp2
  go_ret
  exact ⟨rfl, (At.set h (p + k)).draw nq, G_draw (G_set (G_drewN _ _ _) _ _) _⟩

def ValS (x : ByteArray) : Value := .string x
/-- the text's closure: a number, and so many bytes -/
theorem text_any (g : Nat) (A : Option Addr) (n c p : Nat) (xs : List UInt8) (hn : n ≤ 30000) (hc : n ≤ c) (hx : xs.length = n) (hp : p ≤ n) (w : World) (h : At w g A n c p) (hb : Byt w g A xs) :
    Calls Try.prog 65 #[.pointer (some ⟨g, 0, none⟩)] w (Come g A n c p ValS (text (xs.drop p)) w) := by
  have cn := number_any g A n c p xs hn hx hp w h hb
  have hlt := h.lt
  unfold text
  obtain ⟨R, hR⟩ : ∃ R, R = number (xs.drop p) := ⟨_, rfl⟩
  rw [← hR] at cn ⊢
  have HB := Lib.hid hb
  have HX := Lib.hid hx
  clear hb hx h
  cases R with
  | ok v k =>
    obtain ⟨b1, b2, b3⟩ := number_ok hR.symm
    rw [List.length_drop, HX.out] at b3
    have hd : (xs.drop p).drop k = xs.drop (p + k) := by rw [List.drop_drop]
    have hl : (xs.drop (p + k)).length = n - (p + k) := by rw [List.length_drop, HX.out]
    simp only [hd]
    have cN := fun w h => bytes_no g A n c (p + k) v (w := w) (h := h)
    have cO := fun w h hb => bytes_ok g A n c (p + k) v xs hn hc HX.out (w := w) (h := h) (hb := hb)
    rcases Nat.lt_or_ge (n - (p + k)) v with hs | hs
    · have e : bytesR v (xs.drop (p + k)) = .no (n - (p + k)) 4 := by unfold bytesR; rw [hl, if_pos hs]
      rw [e]
      replace cN := fun w h => cN w h hs b1 hn (by omega)
      have en : p + (k + (n - (p + k))) = n := by omega
      have EN := Lib.hid en
      clear cO e hd hl hs en b1 b3 hR
      go_enter Try.func65, Try.ntmps65
      go_wp2_with fail
      refine cn.mono ?_
      rintro e w1 ⟨rfl, a1, g1⟩
      have hv : Val64 v = .int .u64 (v : Int) := rfl
      replace cN := cN w1 a1
      go_wp2_with fail
      refine cN.mono ?_
      rintro e w2 ⟨rfl, g2⟩
      go_wp2
      exact ⟨rfl, out_at (G_trans g1 g2) (by have := EN.out; omega)⟩
    · have e : bytesR v (xs.drop (p + k)) = .ok ⟨((xs.drop (p + k)).take v).toArray⟩ v := by unfold bytesR; rw [hl, if_neg (by omega)]
      rw [e]
      replace cO := fun w h hb => cO w h hb (by omega)
      generalize (⟨((xs.drop (p + k)).take v).toArray⟩ : ByteArray) = S at *
      clear cN e hd hl hs b1 b3 hR
      go_enter Try.func65, Try.ntmps65
      go_wp2_with fail
      refine cn.mono ?_
      rintro e w1 ⟨rfl, a1, g1⟩
      have hv : Val64 v = .int .u64 (v : Int) := rfl
      replace cO := cO w1 a1 (HB.out.keep g1 hlt)
      go_wp2_with fail
      refine cO.mono ?_
      rintro e w2 ⟨rfl, a2, g2⟩
      go_wp2
      go_ret
      exact ⟨rfl, by rw [← Nat.add_assoc]; exact a2, G_trans g1 g2⟩
  | no a er =>
    clear hR
    go_enter Try.func65, Try.ntmps65
    go_wp2_with fail
    refine cn.mono ?_
    rintro e w1 ⟨rfl, g1⟩
    go_wp2
    exact ⟨rfl, rfl, g1⟩
end Rd
end Go.Proofs.Ytibhldifmneboaa
