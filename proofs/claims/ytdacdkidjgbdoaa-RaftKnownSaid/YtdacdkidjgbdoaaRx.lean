/- Parts of a log, and Clone at a base below the heap's size. -/
import Derived.Test.YtdacdkidjgbdoaaRd
set_option linter.unusedVariables false
set_option linter.unusedSimpArgs false
namespace Go.Proofs.Ytdacdkidjgbdoaa
open Go Go.RowKit
namespace Rf

theorem ents_take (l : List Ent) (m : Nat) : ents l = ents (l.take m) ++ ents (l.drop m) := by
  rw [← ents_app, List.take_append_drop]
theorem ents_drop_at (l : List Ent) (n j : Nat) (hn : n ≤ l.length) : (ents (l.drop n))[j]? = (ents l)[n * 2 + j]? := by
  rw [ents_take l n, List.getElem?_append_right (by rw [ents_len, List.length_take]; omega)]
  congr 1
  rw [ents_len, List.length_take]
  omega
theorem es_part {w : World} {a : Option Addr} {l : List Ent} (h : Es w a l) (n m : Nat) (hn : n ≤ l.length) : Es w (Option.map (fun x => x.add (n * 2)) a) ((l.drop n).take m) := by
  refine ⟨fun e => ?_, fun ad e j u hu => ?_⟩
  · cases a with
    | none => rw [h.none_ rfl]; simp
    | some _ => simp at e
  · cases a with
    | none => simp at e
    | some b =>
      simp only [Option.map_some, Option.some.injEq] at e
      subst e
      have h1 : (ents (l.drop n))[j]? = some u := by
        rw [ents_take (l.drop n) m, List.getElem?_append_left (List.getElem?_eq_some_iff.1 hu).1]
        exact hu
      rw [ents_drop_at l n j hn] at h1
      have := h.cell b rfl _ _ h1
      rw [← this]
      congr 1
      simp only [Addr.add]
      repeat' split
      all_goals first | rfl | (exfalso; omega) | (simp_all [Nat.add_assoc]; done) | (simp_all; omega)
theorem es_is {w : World} {g c : Nat} {s : Srv} {a : Option Addr} (h : Is w g s (.slice a s.log.length c)) : Es w a s.log := es_own h.log rfl
theorem own_base {w : World} {b b' t k n : Nat} {v : Value} {l : List Value} (h : w.ownsRow b t k v n l) (hb : b' ≤ b) : w.ownsRow b' t k v n l := by
  refine ⟨h.1, ?_⟩
  rcases h.2 with ⟨hv, h0⟩ | ⟨g, cap, cur, hv, hk, r⟩
  · exact .inl ⟨hv, h0⟩
  · exact .inr ⟨g, cap, cur, hv, by omega, r⟩
theorem clone_at (a : Option Addr) (n c : Nat) (l : List Ent) (hn : n = l.length) (hl : l.length ≤ 100000) (base : Nat) (w : World) (hb : base ≤ w.heap.size) (h : Es w a l) :
    Calls Try.prog 34 #[.slice a n c] w fun e w' => ∃ a' n' c', e = .returned (.slice a' n' c') ∧ w'.ownsRow base 39 2 (.slice a' n' c') l.length (ents l) ∧ Below w.heap.size w w' := by
  subst hn
  refine (clone_is a c l hl w h).mono ?_
  rintro e w' ⟨v, rfl, ho, hB⟩
  have h2 := own_base ho hb
  rcases ho.2 with ⟨rfl, -⟩ | ⟨g, cap, cur, rfl, -⟩
  · exact ⟨_, _, _, rfl, h2, hB⟩
  · exact ⟨_, _, _, rfl, h2, hB⟩
end Rf
end Go.Proofs.Ytdacdkidjgbdoaa
