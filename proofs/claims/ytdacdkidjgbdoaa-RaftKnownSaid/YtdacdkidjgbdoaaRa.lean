/- Contracts of raft's made, last, term. -/
import Derived.Test.YtdacdkidjgbdoaaBs
set_option linter.unusedVariables false
set_option linter.unusedSimpArgs false
namespace Go.Proofs.Ytdacdkidjgbdoaa
open Go Go.RowKit
namespace Rf

theorem made_nil (w : World) : Calls Try.prog 35 #[.pointer none] w fun e w' => e = .returned (.bool false) ∧ ∃ k, w' = w.drewN k := by
  go_enter Try.func35, Try.ntmps35
  go_wp2
  go_ret
  exact ⟨rfl, 0, rfl⟩

theorem made_is (g : Nat) (s : Srv) (v : Value) (w : World) (h : Is w g s v) : Calls Try.prog 35 #[.pointer (some ⟨g, 0, none⟩)] w fun e w' => e = .returned (.bool (decide (0 < s.nodes))) ∧ ∃ k, w' = w.drewN k := by
  obtain ⟨c1, f1⟩ := h.nodes
  go_enter Try.func35, Try.ntmps35
  go_wp2
  go_ret
  exact ⟨rfl, 0, rfl⟩

set_option maxRecDepth 100000 in
theorem last_is (g : Nat) (s : Srv) (v : Value) (w : World) (h : Is w g s v) : Calls Try.prog 40 #[.pointer (some ⟨g, 0, none⟩)] w fun e w' => e = .returned (.int .i64 s.log.length) ∧ w = w' := by
  obtain ⟨a, c, rfl, hc, hm⟩ := h.slice
  obtain ⟨c4, f4⟩ := h.slog
  have hw : IntKind.i64.wrap (s.log.length : Int) = s.log.length := by rw [IntKind.wrap_i64]; unfold maxLen at hm; omega
  go_enter Try.func40, Try.ntmps40
  go_wp2
  go_ret
  exact ⟨rfl, rfl⟩

/-- the term at a number -/
def tat (l : List Ent) (n : Nat) : Int := if n = 0 then 0 else ((l[n - 1]?).map Ent.term).getD 0
theorem tat_0 (l : List Ent) : tat l 0 = 0 := rfl
theorem tat_s {l : List Ent} {n : Nat} {e : Ent} (h : l[n]? = some e) : tat l (n + 1) = e.term := by simp [tat, h]

set_option maxRecDepth 100000 in
theorem term_is (g : Nat) (s : Srv) (v : Value) (n : Nat) (hn : n ≤ s.log.length) (hl : s.log.length ≤ 100000) (w : World) (h : Is w g s v) : Calls Try.prog 41 #[.pointer (some ⟨g, 0, none⟩), .int .i64 n] w fun e w' => e = .returned (.int .i64 (tat s.log n)) ∧ w = w' := by
  obtain ⟨a, c, rfl, hc, hm⟩ := h.slice
  obtain ⟨c4, f4⟩ := h.slog
  cases n with
  | zero =>
    go_enter Try.func41, Try.ntmps41
    go_wp2
    go_ret
    exact ⟨rfl, rfl⟩
  | succ m =>
    obtain ⟨e, he⟩ : ∃ e, s.log[m]? = some e := ⟨_, List.getElem?_eq_getElem (by omega)⟩
    obtain ⟨k, rfl, e0, e1⟩ := h.ent he
    rw [tat_s he]
    have h1 : ((m + 1 : Nat) : Int) - 1 = m := by omega
    have h2 : (m : Int) < s.log.length := by omega
    have h3 : m < s.log.length := by omega
    have h5 : ¬ (m + 1 = 0) := by omega
    have h4 : (((m + 1 : Nat) : Int) == 0) = false := by simp only [beq_eq_false_iff_ne, ne_eq]; omega
    go_enter Try.func41, Try.ntmps41
    go_wp2
    go_ret
    exact ⟨rfl, rfl⟩
end Rf
end Go.Proofs.Ytdacdkidjgbdoaa
