/- CodeValueReads, walked. -/
import Derived.Test.YtibhldifmneboaaEq
import Derived.Test.YtibhldifmneboaaPf
set_option linter.unusedVariables false
set_option linter.unusedSimpArgs false
namespace Go.Proofs.Ytibhldifmneboaa
open Go Go.RowKit Cd Rd
namespace Pu

def lst : Out (List Nd) → List Nd | .ok x _ => x | .no _ _ => []
def pos : Out (List Nd) → Int | .ok _ k => k | .no a _ => a
def erno : Out (List Nd) → Int | .ok _ _ => 0 | .no _ e => e
theorem rdv {o : Out (List Nd)} {w : World} {e : Ending} {w' : World} (h : RdV o w e w') : ∃ v, e = .returned (.tuple #[v, .int .i64 (pos o), .int .i64 (erno o)]) ∧ w'.ownsRow w.heap.size 37 5 v (lst o).length (nds (lst o)) ∧ Below w.heap.size w w' := by
  cases o with
  | ok x k => exact h
  | no a er => exact ⟨_, h.1, World.ownsRow_nil _ _ 37 5, h.2⟩

set_option maxHeartbeats 1000000 in
set_option maxRecDepth 100000 in
theorem codeValueReads_long (A : Option Addr) (n c : Nat) (hn : n ≤ 9223372036854775807) (hl : 20000 < n) (w : World) : Calls Try.prog 7 #[.slice A n c] w (Tr w) := by
  have ca := fun W => awake_any W
  have cl := fun W => long_any A n c hn W
  have e1 : decide (20000 < (n : Int)) = true := by simp; omega
  rw [e1] at cl
  go_enter Try.func7, Try.ntmps7
  go_wp2_with fail
  refine (ca _).mono ?_
  rintro e w1 ⟨rfl, b1⟩
  go_wp2_with fail
  refine (cl _).mono ?_
  rintro e w2 ⟨rfl, rfl⟩
  go_wp2
  go_ret
  exact ⟨rfl, b1⟩

set_option maxHeartbeats 1000000 in
set_option maxRecDepth 100000 in
theorem codeValueReads_short (A : Option Addr) (n c : Nat) (xs : List UInt8) (hn : n ≤ 20000) (hc : n ≤ c) (hx : xs.length = n) (w : World) (hb : Bs w A xs) : Calls Try.prog 7 #[.slice A n c] w (Tr w) := by
  have ca := fun W => awake_any W
  have cl := fun W => long_any A n c (by omega) W
  have e1 : decide (20000 < (n : Int)) = false := by simp; omega
  rw [e1] at cl
  have c1 := fun W h => ReadValue_any A n c xs (by omega) hc hx W h
  have d1 := fun W h => refValue_any A n c xs (by omega) hc hx W h
  have c2 := fun W h => ReadAll_any A n c xs (by omega) hc hx W h
  have d2 := fun W h => refAll_any A n c xs (by omega) hc hx W h
  have k1 : (∀ y ∈ lst (value xs), Nd.calm y) ∧ (lst (value xs)).length ≤ 1024 := by
    cases h : value xs with
    | ok x k => exact value_calm h
    | no a e => simp [lst]
  have k2 : (∀ y ∈ lst (valueAll xs), Nd.calm y) ∧ (lst (valueAll xs)).length ≤ 1024 := by
    cases h : valueAll xs with
    | ok x k => exact valueAll_calm h
    | no a e => simp [lst]
  generalize value xs = O1 at *
  generalize valueAll xs = O2 at *
  have HB : ∀ W, Below w.heap.size w W → Bs W A xs := fun W h => bs_keep hb h
  have s1 := fun b1 b2 v1 v2 W h1 h2 => Same_same' b1 b2 v1 v2 (lst O1) (by omega) k1.1 W h1 h2
  have s2 := fun b1 b2 v1 v2 W h1 h2 => Same_same' b1 b2 v1 v2 (lst O2) (by omega) k2.1 W h1 h2
  clear hb hx k1 k2
  go_enter Try.func7, Try.ntmps7
  go_wp2_with fail
  refine (ca _).mono ?_
  rintro e w1 ⟨rfl, b1⟩
  go_wp2_with fail
  refine (cl _).mono ?_
  rintro e w2 ⟨rfl, rfl⟩
  go_wp2_with fail
  refine (c1 _ (HB _ b1)).mono ?_
  intro e w2 h
  obtain ⟨v, rfl, o2, b2⟩ := rdv h
  have B2 := b1.trans (b2.mono b1.size)
  clear h b2
  go_wp2_with fail
  refine (d1 _ (HB _ B2)).mono ?_
  intro e w3 h
  obtain ⟨v', rfl, o3, b3⟩ := rdv h
  have o2' := own_below o2 b3
  have B3 := B2.trans (b3.mono B2.size)
  clear h b3 o2
  go_wp2_with fail
  refine (s1 _ _ _ _ _ o2' o3).mono ?_
  rintro e w4 ⟨rfl, k, rfl⟩
  have B4 := below_drew B3 k
  clear o2' o3 B3
  go_wp2_with fail
  refine (c2 _ (HB _ B4)).mono ?_
  intro e w5 h
  obtain ⟨v5, rfl, o5, b5⟩ := rdv h
  have B5 := B4.trans (b5.mono B4.size)
  clear h b5 B4
  go_wp2_with fail
  refine (d2 _ (HB _ B5)).mono ?_
  intro e w6 h
  obtain ⟨v6, rfl, o6, b6⟩ := rdv h
  have o5' := own_below o5 b6
  have B6 := B5.trans (b6.mono B5.size)
  clear h b6 o5
  go_wp2_with fail
  refine (s2 _ _ _ _ _ o5' o6).mono ?_
  rintro e w7 ⟨rfl, k', rfl⟩
  go_wp2
  go_ret
  exact ⟨rfl, below_drew B6 k'⟩
end Pu
end Go.Proofs.Ytibhldifmneboaa
