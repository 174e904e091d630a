/- ReadValue and ReadAll of package code. -/
import Derived.Test.YtibhldifmneboaaRg
set_option linter.unusedVariables false
set_option linter.unusedSimpArgs false
namespace Go.Proofs.Ytibhldifmneboaa
open Go Go.RowKit
namespace Rd
open Cd Pl

/-- a value that is all there is -/
def valueAll (l : List UInt8) : Out (List Nd) :=
  match value l with
  | .ok x k => if k < l.length then .no k 3 else .ok x k
  | .no a e => .no a e

set_option maxRecDepth 100000 in
theorem ReadValue_any (A : Option Addr) (n c : Nat) (xs : List UInt8) (hn : n ≤ 30000) (hc : n ≤ c) (hx : xs.length = n) (w : World) (hb : Bs w A xs) :
    Calls Try.prog 40 #[.slice A n c] w (RdV (value xs) w) := by
  have cr := read_v A n c xs hx (value xs) w hb (fun g W h hb => value_any g A n c 0 xs hn hc hx (by omega) W h hb)
  obtain ⟨R, hR⟩ : ∃ R, R = value xs := ⟨_, rfl⟩
  rw [← hR] at cr ⊢
  clear hR hb
  cases R with
  | ok x k =>
    go_enter Try.func40, Try.ntmps40
    go_wp2_with fail
    refine cr.mono ?_
    rintro e w1 ⟨v, rfl, ho, hB⟩
    go_wp2
    go_ret3
    exact ⟨v, rfl, ho, hB⟩
  | no a er =>
    go_enter Try.func40, Try.ntmps40
    go_wp2_with fail
    refine cr.mono ?_
    rintro e w1 ⟨rfl, hB⟩
    go_wp2
    go_ret3
    exact ⟨rfl, hB⟩

theorem bx_cell {w : World} {bx : Nat} {v : Value} {t : TypeId} (h : w.heap[bx]? = some (.cells #[v] t (0, 0))) : w.cell? ⟨bx, 0, none⟩ = some v ∧ w.frozen? ⟨bx, 0, none⟩ = false := by simp [World.cell?, World.frozen?, h]

set_option maxRecDepth 100000 in
theorem all_any (g : Nat) (A : Option Addr) (n c : Nat) (xs : List UInt8) (hn : n ≤ 30000) (hc : n ≤ c) (hx : xs.length = n) (w : World) (h : At w g A n c 0) (hb : Byt w g A xs) (bx : Nat) (hbg : bx < g) (hbx : w.heap[bx]? = some (.cells #[.slice A n c] 44 (0, 0))) :
    Calls Try.prog 78 #[.pointer (some ⟨g, 0, none⟩), .pointer (some ⟨bx, 0, none⟩)] w (ComeV g A n c 0 (valueAll xs) w) := by
  have cv := value_any g A n c 0 xs hn hc hx (by omega) w h hb
  have hlt := h.lt
  rw [List.drop_zero] at cv
  unfold valueAll
  obtain ⟨R, hR⟩ : ∃ R, R = value xs := ⟨_, rfl⟩
  rw [← hR] at cv ⊢
  cases R with
  | ok x k =>
    simp only [hx]
    clear hx hR
    by_cases hk : k < n
    · rw [if_pos hk]
      have cf := fun w => fail_any (k : Int) 3 w
      have ew : IntKind.i64.wrap (n : Int) = n := by rw [IntKind.wrap_i64]; omega
      have ew2 : IntKind.i64.wrap (k : Int) = k := by rw [IntKind.wrap_i64]; omega
      have hd : decide ((k : Int) < (n : Int)) = true := by simp; omega
      go_enter Try.func78, Try.ntmps78
      go_wp2_with fail
      refine cv.mono ?_
      rintro e w1 ⟨v, rfl, ho, a1, g1⟩
      obtain ⟨x0, x1, -⟩ := a1.cells
      rw [Nat.zero_add] at x1
      obtain ⟨y0, y1⟩ := bx_cell ((g1.block bx (by omega) (by intro e; injection e; omega)).trans hbx)
      go_wp2
      go_quiet (fail)
      go_wp2_with fail
      refine (cf _).mono ?_
      rintro e w3 ⟨rfl, rfl⟩
      go_wp2
      refine ⟨rfl, ?_⟩
      exact out_at (G_draw g1 _) (by push_cast; omega)
    · rw [if_neg hk]
      have ew : IntKind.i64.wrap (n : Int) = n := by rw [IntKind.wrap_i64]; omega
      have hd : decide ((k : Int) < (n : Int)) = false := by simp; omega
      go_enter Try.func78, Try.ntmps78
      go_wp2_with fail
      refine cv.mono ?_
      rintro e w1 ⟨v, rfl, ho, a1, g1⟩
      obtain ⟨x0, x1, -⟩ := a1.cells
      rw [Nat.zero_add] at x1
      obtain ⟨y0, y1⟩ := bx_cell ((g1.block bx (by omega) (by intro e; injection e; omega)).trans hbx)
      go_wp2
      go_quiet (fail)
      go_wp2
      go_ret
      exact ⟨v, rfl, ho, a1, G_draw g1 _⟩
  | no a er =>
    clear hR hx
    go_enter Try.func78, Try.ntmps78
    go_wp2_with fail
    refine cv.mono ?_
    rintro e w1 ⟨rfl, g1⟩
    go_wp2
    exact ⟨rfl, out_at g1 (by push_cast; omega)⟩

theorem bs_keep' {w w' : World} {A : Option Addr} {l : List UInt8} (h : Bs w A l) (hb : Below w.heap.size w w') : Bs w' A l := fun hx => by
  obtain ⟨ad, e, hc⟩ := h hx
  refine ⟨ad, e, fun j u hu => ?_⟩
  have h1 := hc j u hu
  rw [hb.cell (World.block_lt_of_cell? w _ h1)]
  exact h1

set_option maxRecDepth 100000 in
theorem ReadAll_any (A : Option Addr) (n c : Nat) (xs : List UInt8) (hn : n ≤ 30000) (hc : n ≤ c) (hx : xs.length = n) (w : World) (hb : Bs w A xs) :
    Calls Try.prog 43 #[.slice A n c] w (RdV (valueAll xs) w) := by
  have hbx : (w.alloc (.cells #[.slice A n c] 44)).heap[w.heap.size]? = some (.cells #[.slice A n c] 44 (0, 0)) := heap_alloc_new w _
  have hBw : Below w.heap.size w (w.alloc (.cells #[.slice A n c] 44)) := (Below.refl _ w).alloc (Nat.le_refl _) _
  have cr := read_a A n c xs hx (valueAll xs) (w.alloc (.cells #[.slice A n c] 44)) (bs_keep' hb hBw) w.heap.size hbx (fun g W h hb hbg hbx => all_any g A n c xs hn hc hx W h hb _ hbg hbx)
  have hmf : ∀ (fn : Fn) (first cap : Array Value) (w : World), (Instr.makeFunc fn first cap).run Try.prog w = .ok (.func fn first cap) w := fun _ _ _ _ => rfl
  obtain ⟨R, hR⟩ : ∃ R, R = valueAll xs := ⟨_, rfl⟩
  rw [← hR] at cr ⊢
  clear hR hb hbx
  cases R with
  | ok x k =>
    go_enter Try.func43, Try.ntmps43
    go_wp2_with fail
    refine cr.mono ?_
    rintro e w1 ⟨v, rfl, ho, hB⟩
    go_wp2
    go_ret3
    exact ⟨v, rfl, own_mono ho (by simp), hBw.trans (hB.mono (by simp))⟩
  | no a er =>
    go_enter Try.func43, Try.ntmps43
    go_wp2_with fail
    refine cr.mono ?_
    rintro e w1 ⟨rfl, hB⟩
    go_wp2
    go_ret3
    exact ⟨rfl, hBw.trans (hB.mono (by simp))⟩
end Rd
end Go.Proofs.Ytibhldifmneboaa
