/- prompterref04.Equal and prompterref05.Same at two rows of the same nodes: true. -/
import Derived.Test.YtibhldifmneboaaRk
import Derived.Test.YtibhldifmneboaaWEqStruct
import Derived.BigQuiet
set_option linter.unusedVariables false
set_option linter.unusedSimpArgs false
namespace Go.Proofs.Ytibhldifmneboaa
open Go Go.RowKit
namespace Rd
open Cd Pl Fl Go.Proofs.YtibhldifmneboaaW.PrintWords
attribute [local go_sem] st_complex'

/-- no NaN in it -/
def Nd.calm (x : Nd) : Prop := nanB x.num.1 = false ∧ nanB x.num.2 = false

theorem eq_complex (w : World) (d : Nat) (a b a' b' : Nat) : (Op.equalIn (d + 1) 24 (.complex .f64 a b) (.complex .f64 a' b')).run Try.prog w = .ok (FloatKind.f64.format.order a a' == some .eq && FloatKind.f64.format.order b b' == some .eq) w := by
  simp [Op.equalIn, run_underlying Try.underlying24, Op.floatEq]
theorem neq_nd (x : Nd) (hx : Nd.calm x) (w : World) :
    (binOp .neq 37 (.agg #[.int .u8 x.kind, .int .i64 x.kids, .int .i64 x.int, .string x.text, .complex .f64 x.num.1 x.num.2]) (.agg #[.int .u8 x.kind, .int .i64 x.kids, .int .i64 x.int, .string x.text, .complex .f64 x.num.1 x.num.2])).run Try.prog w = .ok (.bool false) w := by
  have o1 : (FloatKind.f64.format.order x.num.1 x.num.1 == some .eq) = true := by have := order_self hx.1; show (Ieee.double.order _ _ == some .eq) = true; rw [this]; rfl
  have o2 : (FloatKind.f64.format.order x.num.2 x.num.2 == some .eq) = true := by have := order_self hx.2; show (Ieee.double.order _ _ == some .eq) = true; rw [this]; rfl
  have h : (Op.equalIn 10000 37 (.agg #[.int .u8 x.kind, .int .i64 x.kids, .int .i64 x.int, .string x.text, .complex .f64 x.num.1 x.num.2]) (.agg #[.int .u8 x.kind, .int .i64 x.kids, .int .i64 x.int, .string x.text, .complex .f64 x.num.1 x.num.2])).run Try.prog w = .ok (true && (true && (true && (true && true)))) w := by
    refine eqA_of Try.underlying37 (by kernel_rfl) ?_
    refine eqf_cons (by rfl) (by go_simp; rfl) (by go_simp; rfl) (by go_simp) ?_
    refine eqf_cons (by rfl) (by go_simp; rfl) (by go_simp; rfl) (by go_simp) ?_
    refine eqf_cons (by rfl) (by go_simp; rfl) (by go_simp; rfl) (by go_simp) ?_
    refine eqf_cons (by rfl) (by go_simp; rfl) (by go_simp; rfl) (by go_simp) ?_
    exact eqf_last (by rfl) (by go_simp; rfl) (by go_simp; rfl) (by rw [eq_complex, o1, o2]; rfl)
  rw [run_neq_struct, h]
  rfl

theorem nds_at {l : List Nd} {i : Nat} {x : Nd} (h : l[i]? = some x) {j : Nat} (hj : j < 5) : (nds l)[5 * i + j]? = (ndc x)[j]? := by
  induction l generalizing i with
  | nil => simp at h
  | cons y r ih =>
    have e : nds (y :: r) = ndc y ++ nds r := by simp [nds]
    have hl : (ndc y).length = 5 := rfl
    rw [e]
    cases i with
    | zero =>
      simp at h
      subst h
      rw [List.getElem?_append_left (by rw [hl]; omega)]
      simp
    | succ i =>
      rw [List.getElem?_append_right (by rw [hl]; omega), hl]
      simp at h
      have := ih h
      rw [← this]
      congr 1
      omega

theorem row_at {w : World} {base g n c : Nat} {l : List Nd} (h : w.ownsRow base 37 5 (.slice (some ⟨g, 0, none⟩) n c) n (nds l)) {i : Nat} {x : Nd} (hx : l[i]? = some x) {j : Nat} (hj : j < 5) {u : Value} (hu : (ndc x)[j]? = some u) :
    w.cell? ⟨g, i * 5 + j, none⟩ = some u := by
  have h1 := h.cells (g := g) rfl (5 * i + j) u (by rw [nds_at hx hj]; exact hu)
  have e : (⟨g, 0, none⟩ : Addr).add (5 * i + j) = ⟨g, i * 5 + j, none⟩ := by
    have e2 : 5 * i + j = i * 5 + j := by omega
    rw [e2]
    unfold Addr.add
    split
    · rename_i h0
      have : i * 5 + j = 0 := h0
      rw [this]
    · simp
  rwa [e] at h1

set_option maxHeartbeats 1000000 in
set_option maxRecDepth 100000 in
theorem Equal_same (b1 b2 : Nat) (v1 v2 : Value) (l : List Nd) (hl : l.length ≤ 1000000) (hc : ∀ x ∈ l, Nd.calm x) (w : World) (h1 : w.ownsRow b1 37 5 v1 l.length (nds l)) (h2 : w.ownsRow b2 37 5 v2 l.length (nds l)) :
    Calls Try.prog 77 #[v1, v2] w fun e w' => e = .returned (.bool true) ∧ ∃ k, w' = w.drewN k := by
  have hlen : IntKind.i64.wrap (l.length : Int) = l.length := by rw [IntKind.wrap_i64]; omega
  rcases h1.2 with ⟨rfl, h0⟩ | ⟨g1, cap1, cur1, rfl, _, _, hc1, _⟩
  · have hn : l.length = 0 := h0
    rcases h2.2 with ⟨rfl, h0'⟩ | ⟨g2, cap2, cur2, rfl, _, _, hc2, _⟩
    · go_enter Try.func77, Try.ntmps77
      go_wp2
      go_loop [5] (fun i => i = .int .i64 0) (fun _ => 0)
      case atStart => rfl
      case round =>
        obtain rfl := hrel
        go_wp2
        go_ret
        exact ⟨rfl, 0, rfl⟩
    · rw [hn]
      go_enter Try.func77, Try.ntmps77
      go_wp2
      go_loop [5] (fun i => i = .int .i64 0) (fun _ => 0)
      case atStart => rfl
      case round =>
        obtain rfl := hrel
        go_wp2
        go_ret
        exact ⟨rfl, 0, rfl⟩
  · rcases h2.2 with ⟨rfl, h0⟩ | ⟨g2, cap2, cur2, rfl, _, _, hc2, _⟩
    · have hn : l.length = 0 := h0
      rw [hn]
      go_enter Try.func77, Try.ntmps77
      go_wp2
      go_loop [5] (fun i => i = .int .i64 0) (fun _ => 0)
      case atStart => rfl
      case round =>
        obtain rfl := hrel
        go_wp2
        go_ret
        exact ⟨rfl, 0, rfl⟩
    · go_enter Try.func77, Try.ntmps77
      go_wp2
      go_loopw [5] (fun i wr => ∃ q : Nat, q ≤ l.length ∧ i = .int .i64 q ∧ ∃ k, wr = w.drewN k) (fun i _ => l.length - (intOf i).toNat)
      case atStart => exact ⟨0, by omega, rfl, 0, rfl⟩
      case round =>
        obtain ⟨q, hq, rfl, k, rfl⟩ := hrel
        rcases Nat.lt_or_ge q l.length with lt | ge
        · obtain ⟨x, hx⟩ : ∃ x, l[q]? = some x := ⟨_, List.getElem?_eq_getElem lt⟩
          have hlt : (q : Int) < l.length := by omega
          have hd : decide ((q : Int) < (l.length : Int)) = true := by simp; omega
          have hne := fun W => neq_nd x (hc x (List.mem_of_getElem? hx)) W
          have x0 : w.cell? ⟨g1, q * 5, none⟩ = some (.int .u8 x.kind) := row_at h1 hx (j := 0) (by omega) rfl
          have x1 : w.cell? ⟨g1, q * 5 + 1, none⟩ = some (.int .i64 x.kids) := row_at h1 hx (j := 1) (by omega) rfl
          have x2 : w.cell? ⟨g1, q * 5 + 2, none⟩ = some (.int .i64 x.int) := row_at h1 hx (j := 2) (by omega) rfl
          have x3 : w.cell? ⟨g1, q * 5 + 3, none⟩ = some (.string x.text) := row_at h1 hx (j := 3) (by omega) rfl
          have x4 : w.cell? ⟨g1, q * 5 + 4, none⟩ = some (.complex .f64 x.num.1 x.num.2) := row_at h1 hx (j := 4) (by omega) rfl
          have y0 : w.cell? ⟨g2, q * 5, none⟩ = some (.int .u8 x.kind) := row_at h2 hx (j := 0) (by omega) rfl
          have y1 : w.cell? ⟨g2, q * 5 + 1, none⟩ = some (.int .i64 x.kids) := row_at h2 hx (j := 1) (by omega) rfl
          have y2 : w.cell? ⟨g2, q * 5 + 2, none⟩ = some (.int .i64 x.int) := row_at h2 hx (j := 2) (by omega) rfl
          have y3 : w.cell? ⟨g2, q * 5 + 3, none⟩ = some (.string x.text) := row_at h2 hx (j := 3) (by omega) rfl
          have y4 : w.cell? ⟨g2, q * 5 + 4, none⟩ = some (.complex .f64 x.num.1 x.num.2) := row_at h2 hx (j := 4) (by omega) rfl
          go_wp2
          go_quiet (fail)
          go_wp2
          go_roundw
          case rel => exact ⟨q + 1, by omega, by go_num, _, rfl⟩
          case measure => simp [intOf]; omega
        · have hd : decide ((q : Int) < (l.length : Int)) = false := by simp; omega
          have hge : (l.length : Int) ≤ q := by omega
          go_wp2
          go_ret
          exact ⟨rfl, k, rfl⟩

set_option maxRecDepth 100000 in
theorem Same_same' (b1 b2 : Nat) (v1 v2 : Value) (l : List Nd) (hl : l.length ≤ 1000000) (hc : ∀ x ∈ l, Nd.calm x) (w : World) (h1 : w.ownsRow b1 37 5 v1 l.length (nds l)) (h2 : w.ownsRow b2 37 5 v2 l.length (nds l)) :
    Calls Try.prog 42 #[v1, v2] w fun e w' => e = .returned (.bool true) ∧ ∃ k, w' = w.drewN k := by
  have c := Equal_same b1 b2 v1 v2 l hl hc w h1 h2
  obtain ⟨a1, c1, rfl⟩ := h1.slice
  obtain ⟨a2, c2, rfl⟩ := h2.slice
  clear h1 h2
  go_enter Try.func42, Try.ntmps42
  go_wp2_with fail
  refine c.mono ?_
  rintro e w1 ⟨rfl, k, rfl⟩
  go_wp2
  go_ret
  exact ⟨rfl, k, rfl⟩

/-! ### what is read is calm, and short -/
theorem fine_calm {a b : Nat} (h : fineB a b = true) : nanB a = false ∧ nanB b = false := by
  unfold fineB at h
  simp only [Bool.and_eq_true] at h
  refine ⟨?_, ?_⟩
  · cases hn : nanB a with
    | false => rfl
    | true => have := nan_not_fin hn; simp_all
  · cases hn : nanB b with
    | false => rfl
    | true => have := nan_not_fin hn; simp_all
theorem calm0 {x : Nd} (h : x.num = (0, 0)) : Nd.calm x := by
  unfold Nd.calm
  rw [h]
  exact ⟨by decide, by decide⟩
theorem node1_calm {size k : Nat} {r : List UInt8} {x : Nd} {j : Nat} (h : node1 size k r = .ok x j) : Nd.calm x := by
  unfold node1 at h
  split at h
  · injection h with h1 h2; subst h1; exact calm0 rfl
  split at h
  · split at h
    · cases h
    · split at h
      · cases h
      · injection h with h1 h2; subst h1; exact calm0 rfl
  split at h
  · split at h
    · cases h
    · injection h with h1 h2; subst h1; exact calm0 rfl
  split at h
  · split at h
    · cases h
    · split at h
      · cases h
      · split at h
        · cases h
        · injection h with h1 h2; subst h1; exact calm0 rfl
  split at h
  · split at h
    · cases h
    · rename_i z i hb
      injection h with h1 h2; subst h1
      unfold fineBits at hb
      split at hb
      · cases hb
      · split at hb
        · rename_i hf
          injection hb with h3 h4
          subst h3
          exact fine_calm hf
        · cases hb
  split at h
  · split at h
    · cases h
    · split at h
      · cases h
      · injection h with h1 h2; subst h1; exact calm0 rfl
  · cases h
theorem valGo_calm : ∀ (f q : Nat) (acc : List Nd) (sz td : Nat) (l : List UInt8) {x : List Nd} {k : Nat}, (∀ y ∈ acc, Nd.calm y) → acc.length ≤ 1024 → valGo f q acc sz td l = .ok x k → (∀ y ∈ x, Nd.calm y) ∧ x.length ≤ 1024
  | 0, q, acc, sz, td, l, x, k, hc, hl, h => by simp [valGo] at h
  | f + 1, q, acc, sz, td, l, x, k, hc, hl, h => by
    rcases Nat.eq_zero_or_pos td with rfl | htp
    · rw [valGo_0] at h; injection h with h1 h2; subst h1; exact ⟨hc, hl⟩
    · cases l with
      | nil => rw [valGo_nil _ _ _ _ _ htp] at h; cases h
      | cons c r =>
        by_cases full : acc.length = 1024 ∨ 4096 < sz + 1
        · rw [valGo_full _ _ _ _ _ htp _ _ full] at h; cases h
        · cases hN : node1 sz c.toNat r with
          | no a' er' => rw [valGo_no htp full hN] at h; cases h
          | ok y j =>
            rw [valGo_ok htp full hN] at h
            refine valGo_calm f _ _ _ _ _ (fun z hz => ?_) (by rw [List.length_append]; simp; omega) h
            rcases List.mem_append.1 hz with m | m
            · exact hc z m
            · rw [List.mem_singleton.1 m]; exact node1_calm hN
theorem value_calm {l : List UInt8} {x : List Nd} {k : Nat} (h : value l = .ok x k) : (∀ y ∈ x, Nd.calm y) ∧ x.length ≤ 1024 := valGo_calm _ _ _ _ _ _ (by simp) (by simp) h
theorem valueAll_calm {l : List UInt8} {x : List Nd} {k : Nat} (h : valueAll l = .ok x k) : (∀ y ∈ x, Nd.calm y) ∧ x.length ≤ 1024 := by
  unfold valueAll at h
  split at h
  · rename_i hv
    split at h
    · cases h
    · injection h with h1 h2; subst h1; exact value_calm hv
  · cases h
end Rd
end Go.Proofs.Ytibhldifmneboaa
