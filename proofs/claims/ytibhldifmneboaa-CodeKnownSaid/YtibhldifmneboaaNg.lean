/- value.nodes: the iterator's contract, at lists of good nodes. -/
import Derived.RangeFuncNested
import Derived.RangeFuncBound
import Derived.RangeFuncCalls
import Derived.RangeFuncLeaves
import Derived.Shelf.Abstract
import Derived.Shelf.RegionOpen
import Derived.WalkKit
import Derived.OwnWalkIn
import Derived.TacticsInMore
import Derived.LoopNIn
import Derived.LoopIn
import Derived.Test.YtibhldifmneboaaRi
set_option linter.unusedVariables false
set_option linter.unusedSimpArgs false
namespace Go.Proofs.Ytibhldifmneboaa
open Go Go.RowKit Go.Shelf
namespace Rd
open Cd Pl Fl
attribute [local go_sem] st_complex'
attribute [local go_sem] Oper.semAt_some

theorem right_any (x : Nd) (h : Nd.good x) (w : World) :
    Calls Try.prog 82 #[.agg #[.int .u8 x.kind, .int .i64 x.kids, .int .i64 x.int, .string x.text, .complex .f64 x.num.1 x.num.2]] w fun e w' => e = .returned (.bool true) ∧ Below w.heap.size w w' := by
  rcases h with rfl | ⟨b, hb, rfl⟩ | ⟨i, _, _, rfl⟩ | ⟨s, _, rfl⟩ | ⟨z, hz, h1, h2, rfl⟩ | ⟨k, hk, rfl⟩
  · exact right_0 w
  · rcases (by omega : b = 0 ∨ b = 1) with rfl | rfl
    · exact right_1a w
    · exact right_1b w
  · exact right_2 i w
  · exact right_3 s w
  · exact right_4 z.1 z.2 h1 h2 hz w
  · exact right_5 k w

theorem good_kids {x : Nd} (h : Nd.good x) : x.kids ≤ 1024 ∧ (x.kind ≠ 5 → x.kids = 0) ∧ x.kind < 256 ∧ x.text.size ≤ 4096 := by
  rcases h with rfl | ⟨b, hb, rfl⟩ | ⟨i, _, _, rfl⟩ | ⟨s, hs, rfl⟩ | ⟨z, hz, _, _, rfl⟩ | ⟨k, hk, rfl⟩ <;> simp_all [show (⟨#[]⟩ : ByteArray).size = 0 from rfl]

/-- how many values are still to come behind j nodes -/
def opn (l : List Nd) (j : Nat) : Int := 1 + ((l.take j).map (fun x => (x.kids : Int))).sum - j
theorem opn_0 (l : List Nd) : opn l 0 = 1 := by simp [opn]
theorem opn_s {l : List Nd} {j : Nat} {x : Nd} (h : l[j]? = some x) : opn l (j + 1) = opn l j - 1 + x.kids := by
  unfold opn
  rw [List.take_add_one, h]
  simp
  omega
theorem opn_bound {l : List Nd} (hg : ∀ x ∈ l, Nd.good x) : ∀ j, j ≤ l.length → -(j : Int) ≤ opn l j - 1 ∧ opn l j - 1 ≤ 1024 * j := by
  intro j
  induction j with
  | zero => intro _; rw [opn_0]; omega
  | succ j ih =>
    intro hj
    obtain ⟨x, hx⟩ : ∃ x, l[j]? = some x := ⟨_, List.getElem?_eq_getElem (by omega)⟩
    rw [opn_s hx]
    have := (good_kids (hg x (List.mem_of_getElem? hx))).1
    have := ih (by omega)
    omega

def encN (x : Nd × Int) : Array Value := #[.agg #[.int .u8 x.1.kind, .int .i64 x.1.kids, .int .i64 x.1.int, .string x.1.text, .complex .f64 x.1.num.1 x.1.num.2], .int .i64 x.2]
def upto {α : Type} (f : Nat → α) (k : Nat) : List α := (List.range k).map f
theorem upto_succ {α : Type} (f : Nat → α) (k : Nat) : upto f (k + 1) = upto f k ++ [f k] := by simp [upto, List.range_succ]
theorem upto_length {α : Type} (f : Nat → α) (k : Nat) : (upto f k).length = k := by simp [upto]
def nodeAt (l : List Nd) (j : Nat) : Nd × Int := (l[j]?.getD {}, opn l (j + 1))

/-- a good node, and a count -/
abbrev GN := { x : Nd × Int // Nd.good x.1 }
theorem good0 : Nd.good {} := .inl rfl
theorem good_at {l : List Nd} (hg : ∀ x ∈ l, Nd.good x) (j : Nat) : Nd.good (nodeAt l j).1 := by
  unfold nodeAt
  cases h : l[j]? with
  | none => exact good0
  | some x => exact hg x (List.mem_of_getElem? h)
def nodeG (l : List Nd) (hg : ∀ x ∈ l, Nd.good x) (j : Nat) : GN := ⟨nodeAt l j, good_at hg j⟩

set_option maxRecDepth 100000 in
set_option maxHeartbeats 2000000 in
theorem nodes1_in (F : Fence) (n : Nat) (h95 : F.fn 95) (hro : F.round = none) (hn : 1 ≤ n) (l Bs n₀ b cap : Nat) (xs : List Nd) (hlen : xs.length ≤ 1024) (hg : ∀ x ∈ xs, Nd.good x) (hb : b < n₀) (J Jx : List GN → World → Prop)
    (W : World) (hJ : AbidesFrom W.heap.size J)
    (hY : ∀ pre x W, J pre W → pre.length < xs.length → YieldAt F (n - 1) Try.prog l (encN x.1) W fun e W' =>
      (e = .returned (.bool true) ∧ J (pre ++ [x]) W' ∧ Below n₀ W W') ∨ (e = .returned (.bool false) ∧ Jx (pre ++ [x]) W'))
    (hn0 : n₀ ≤ W.heap.size) (hBs : W.cell? ⟨Bs, 0, none⟩ = some (.slice (some ⟨b, 0, none⟩) xs.length cap)) (hc : W.ownsRow 0 37 5 (.slice (some ⟨b, 0, none⟩) xs.length cap) xs.length (nds xs)) (h0 : J [] W) :
    CallsIn F n Try.prog 95 #[.func (.yield l) #[] #[], .pointer (some ⟨Bs, 0, none⟩)] W fun e W' => (∃ v, e = .returned v) ∧
      ((∃ ys, ys = upto (nodeG xs hg) xs.length ∧ J ys W') ∨ (∃ pre, (∃ k, k ≤ xs.length ∧ pre = upto (nodeG xs hg) k) ∧ Jx pre W')) := by
  refine callsIn_of_wp Try.func95 rfl h95 ?_ hro
  simp only [Try.ntmps95, List.size_toArray, List.length_cons, List.length_nil, Nat.reduceAdd, Nat.reduceSub, Array.replicate_succ, Array.replicate_zero, List.push_toArray, List.append_toArray, List.nil_append, List.cons_append]
  have hcap : xs.length ≤ cap := by
    rcases hc.2 with ⟨h, _⟩ | ⟨g, c, cur, h, _, _, hc, _⟩
    · cases h
    · injection h with h1 h2 h3; omega
  gi_wp2
  gi_loopw [3, 8] (fun o i wr => ∃ k : Nat, k ≤ xs.length ∧ i = .int .i64 k ∧ o = .int .i64 (opn xs k) ∧ J (upto (nodeG xs hg) k) wr ∧ Below n₀ W wr)
    (fun _ i _ => xs.length - (intOf i).toNat)
  case atStart => exact ⟨0, Nat.zero_le _, rfl, by rw [opn_0], h0, Below.refl _ _⟩
  case round =>
    obtain ⟨k, hk, rfl, rfl, hJs, hnx⟩ := hrel
    by_cases hlt : k < xs.length
    · obtain ⟨x, hx⟩ : ∃ x, xs[k]? = some x := ⟨_, List.getElem?_eq_getElem hlt⟩
      have hgx := good_kids (hg x (List.mem_of_getElem? hx))
      have x0 : wr.cell? ⟨b, k * 5, none⟩ = some (.int .u8 x.kind) := (hnx.cell (p := ⟨b, k * 5, none⟩) hb).trans (row_at hc hx (j := 0) (by omega) rfl)
      have x1 : wr.cell? ⟨b, k * 5 + 1, none⟩ = some (.int .i64 x.kids) := (hnx.cell (p := ⟨b, k * 5 + 1, none⟩) hb).trans (row_at hc hx (j := 1) (by omega) rfl)
      have x2 : wr.cell? ⟨b, k * 5 + 2, none⟩ = some (.int .i64 x.int) := (hnx.cell (p := ⟨b, k * 5 + 2, none⟩) hb).trans (row_at hc hx (j := 2) (by omega) rfl)
      have x3 : wr.cell? ⟨b, k * 5 + 3, none⟩ = some (.string x.text) := (hnx.cell (p := ⟨b, k * 5 + 3, none⟩) hb).trans (row_at hc hx (j := 3) (by omega) rfl)
      have x4 : wr.cell? ⟨b, k * 5 + 4, none⟩ = some (.complex .f64 x.num.1 x.num.2) := (hnx.cell (p := ⟨b, k * 5 + 4, none⟩) hb).trans (row_at hc hx (j := 4) (by omega) rfl)
      have hbw : b < wr.heap.size := Nat.lt_of_lt_of_le (Nat.lt_of_lt_of_le hb hn0) hnx.size
      have hob := opn_bound hg k hk
      have hos := opn_s hx
      have hJ2 := hJ _ _ _ none hJs (World.grownBy_alloc wr (.cells #[.int .u8 x.kind, .int .i64 x.kids, .int .i64 x.int, .string x.text, .complex .f64 x.num.1 x.num.2] 37) none) (by simp)
      obtain ⟨fn, tmps, assign, body, hy, hR⟩ := hY _ (nodeG xs hg k) _ hJ2 (by rw [upto_length]; exact hlt)
      have ena : encN (nodeG xs hg k).1 = #[.agg #[.int .u8 x.kind, .int .i64 x.kids, .int .i64 x.int, .string x.text, .complex .f64 x.num.1 x.num.2], .int .i64 (opn xs k - 1 + x.kids)] := by
        show encN (nodeAt xs k) = _
        unfold encN nodeAt
        rw [hx]
        simp only [Option.getD_some, hos]
      rw [ena] at hy
      have HS := Lib.hid hos
      clear ena hos
      generalize opn xs k = o at *
      clear hx
      obtain ⟨kd, ki, it, tx, nm⟩ := x
      simp only at hgx x0 x1 x2 x3 x4 hJ2 hR hy HS
      by_cases hk5 : kd = 5
      · subst hk5
        simp only [show ((5 : Nat) : Int) = 5 from rfl] at hy hR hJ2 x0
        by_cases hz : ki = 0
        · subst hz
          simp only [show ((0 : Nat) : Int) = 0 from rfl, Int.add_zero] at hy hR
          gi_wp2
          refine hR.mono ?_
          rintro e W3 (⟨rfl, hJ3, hk3⟩ | ⟨rfl, hJx3⟩)
          · gi_wp2
            go_roundw
            case rel => exact ⟨k + 1, by omega, by simp, by rw [HS.out]; congr 1; omega, by rw [upto_succ]; exact hJ3, (hnx.alloc (Nat.le_trans hn0 hnx.size) _).trans hk3⟩
            case measure => simp [intOf]; omega
          · gi_wp2
            refine bodyPost_ret (results_none rfl _ _ _) rfl ?_
            exact ⟨⟨_, rfl⟩, .inr ⟨_, ⟨k + 1, by omega, (upto_succ _ _).symm⟩, hJx3⟩⟩
        · have c6 : decide (0 < (ki : Int)) = true := by simp; omega
          have c6' : 0 < (ki : Int) := by omega
          have c7 : (ki : Int) ≤ 1025 := by omega
          have c8 : min (ki : Int) 1025 = ki := by omega
          have c9 : 0 < ki := by omega
          gi_wp2
          refine hR.mono ?_
          rintro e W3 (⟨rfl, hJ3, hk3⟩ | ⟨rfl, hJx3⟩)
          · gi_wp2
            go_roundw
            case rel => exact ⟨k + 1, by omega, by simp, by rw [HS.out], by rw [upto_succ]; exact hJ3, (hnx.alloc (Nat.le_trans hn0 hnx.size) _).trans hk3⟩
            case measure => simp [intOf]; omega
          · gi_wp2
            refine bodyPost_ret (results_none rfl _ _ _) rfl ?_
            exact ⟨⟨_, rfl⟩, .inr ⟨_, ⟨k + 1, by omega, (upto_succ _ _).symm⟩, hJx3⟩⟩
      · have hz : ki = 0 := hgx.2.1 hk5
        subst hz
        have c5 : ((kd : Int) == 5) = false := by simp only [beq_eq_false_iff_ne, ne_eq]; omega
        simp only [show ((0 : Nat) : Int) = 0 from rfl, Int.add_zero] at hy
        gi_wp2
        refine hR.mono ?_
        rintro e W3 (⟨rfl, hJ3, hk3⟩ | ⟨rfl, hJx3⟩)
        · gi_wp2
          go_roundw
          case rel => exact ⟨k + 1, by omega, by simp, by rw [HS.out]; congr 1; omega, by rw [upto_succ]; exact hJ3, (hnx.alloc (Nat.le_trans hn0 hnx.size) _).trans hk3⟩
          case measure => simp [intOf]; omega
        · gi_wp2
          refine bodyPost_ret (results_none rfl _ _ _) rfl ?_
          exact ⟨⟨_, rfl⟩, .inr ⟨_, ⟨k + 1, by omega, (upto_succ _ _).symm⟩, hJx3⟩⟩
    · obtain rfl : k = xs.length := by omega
      gi_wp2
      go_end0
      exact ⟨⟨_, rfl⟩, .inl ⟨_, rfl, hJs⟩⟩

set_option maxHeartbeats 1000000 in
theorem nodes_in (F : Fence) (n : Nat) (h81 : F.fn 81) (hro : F.round = none) (a : Option Addr) (len cap : Nat) (w : World) :
    CallsIn F n Try.prog 81 #[.slice a len cap] w fun e w' => e = .returned (.func (.func 95) #[] #[.pointer (some ⟨w.heap.size, 0, none⟩)]) ∧ w' = w.alloc (.cells #[.slice a len cap] 26) := by
  refine callsIn_of_wp Try.func81 rfl h81 ?_ hro
  simp only [Try.ntmps81, List.size_toArray, List.length_cons, List.length_nil, Nat.reduceAdd, Nat.reduceSub, Array.replicate_succ, Array.replicate_zero, List.push_toArray, List.append_toArray, List.nil_append, List.cons_append]
  gi_wp2
  go_ret
  exact ⟨rfl, rfl⟩

theorem nodes_stops (F : Fence) (n : Nat) (h95 : F.fn 95) (hro : F.round = none) (hn : 1 ≤ n) (Bs n₀ b cap : Nat) (xs : List Nd) (hlen : xs.length ≤ 1024) (hg : ∀ x ∈ xs, Nd.good x) (hb : b < n₀) (w : World) (hBs : Bs < w.heap.size) (hn₀ : n₀ ≤ w.heap.size)
    (hc : w.cell? ⟨Bs, 0, none⟩ = some (.slice (some ⟨b, 0, none⟩) xs.length cap)) (hI : w.ownsRow 0 37 5 (.slice (some ⟨b, 0, none⟩) xs.length cap) xs.length (nds xs)) :
    SeqStopsK F n Try.prog 95 #[.pointer (some ⟨Bs, 0, none⟩)] (fun x : GN => encN x.1) (Below n₀) (fun ys => ys = upto (nodeG xs hg) xs.length) (fun pre => ∃ k, k ≤ xs.length ∧ pre = upto (nodeG xs hg) k) xs.length w := fun l J Jx W hW hJ _ hY h0 =>
  nodes1_in F n h95 hro hn l Bs n₀ b cap xs hlen hg hb J Jx W hJ hY (Nat.le_trans hn₀ hW.size) ((hW.cell (p := ⟨Bs, 0, none⟩) hBs).trans hc) (own_below hI hW) h0
end Rd
end Go.Proofs.Ytibhldifmneboaa
