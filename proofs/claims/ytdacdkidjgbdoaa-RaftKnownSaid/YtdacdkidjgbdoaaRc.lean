/- The contract of raft's agree. -/
import Derived.Test.YtdacdkidjgbdoaaRb
set_option linter.unusedVariables false
set_option linter.unusedSimpArgs false
namespace Go.Proofs.Ytdacdkidjgbdoaa
open Go Go.RowKit
namespace Rf

/-- how many servers have the entry n, of the first k -/
def cnt (s : Srv) (n : Nat) : Nat → Nat
  | 0 => 1
  | k + 1 => cnt s n k + (if k ≠ s.id ∧ n ≤ s.mat k then 1 else 0)
theorem cnt_le (s : Srv) (n : Nat) : ∀ k, cnt s n k ≤ k + 1
  | 0 => by simp [cnt]
  | k + 1 => by have := cnt_le s n k; unfold cnt; split <;> omega
/-- which entries are committed -/
def agreeTo (s : Srv) : Nat → Nat
  | 0 => s.commit
  | n + 1 => if s.commit < n + 1 ∧ tat s.log (n + 1) = s.term then (if s.nodes < 2 * cnt s (n + 1) s.nodes then n + 1 else agreeTo s n) else s.commit

theorem agreeTo_eq {s : Srv} {n : Nat} (h : 0 < n) : agreeTo s n = if s.commit < n ∧ tat s.log n = s.term then (if s.nodes < 2 * cnt s n s.nodes then n else agreeTo s (n - 1)) else s.commit := by
  obtain ⟨m, rfl⟩ : ∃ m, n = m + 1 := ⟨n - 1, by omega⟩
  rw [agreeTo]
  rfl
structure Fit (s : Srv) : Prop where
  nodes : s.nodes ≤ 7
  len : s.log.length ≤ 100000
  commit : s.commit ≤ 1000000
  mat : ∀ k, s.mat k ≤ 1000000
  next : ∀ k, s.next k ≤ 1000000

set_option maxRecDepth 100000 in
set_option maxHeartbeats 1000000 in
theorem agree_is (g : Nat) (s : Srv) (v : Value) (hf : Fit s) (w : World) (h : Is w g s v) :
    Calls Try.prog 48 #[.pointer (some ⟨g, 0, none⟩)] w fun e w' => e = .returned (.tuple #[]) ∧ Is w' g { s with commit := agreeTo s s.log.length } v ∧ Only (fun k => k = g) w w' := by
  have cl := last_is g s v w h
  have ct := fun n hn W h => term_is g s v n hn hf.len W h
  have hlen := hf.len
  have hcm := hf.commit
  obtain ⟨R, hR⟩ : ∃ R, agreeTo s s.log.length = R := ⟨_, rfl⟩
  rw [hR]
  replace hR := Lib.hid hR
  go_enter Try.func48, Try.ntmps48
  go_wp2_with fail
  refine cl.mono ?_
  rintro e w1 ⟨rfl, rfl⟩
  go_wp2_with fail
  go_loopw [2] (fun t wr => ∃ n q : Nat, n ≤ s.log.length ∧ t = .int .i64 n ∧ wr = w.drewN q ∧ Hid (agreeTo s n = R)) (fun t _ => (intOf t).toNat)
  case atStart => exact ⟨_, 0, Nat.le_refl _, rfl, rfl, hR⟩
  case round =>
    obtain ⟨n, q, hn, rfl, rfl, HE⟩ := hrel
    have h2 := h.drewN q
    obtain ⟨c7, f7⟩ := h.commit
    obtain ⟨c2, f2⟩ := h.term
    by_cases hc : s.commit < n
    · have hn0 : 0 < n := by omega
      have c1 : ∀ q', Calls Try.prog 41 #[.pointer (some ⟨g, 0, none⟩), .int .i64 (n : Int)] (w.drewN (q + q')) fun e w'' => e = .returned (.int .i64 (tat s.log n)) ∧ ∃ j, w'' = w.drewN (q + j) := fun q' =>
        (ct n hn _ (h.drewN (q + q'))).mono fun e w' ⟨e1, e2⟩ => ⟨e1, q', e2.symm⟩
      have d1 : decide ((s.commit : Int) < (n : Int)) = true := by simp; omega
      have E := HE.out
      by_cases ht : tat s.log n = s.term
      · rw [ht] at c1
        rw [agreeTo_eq hn0, if_pos ⟨hc, ht⟩] at E
        replace E := Lib.hid E
        clear ct cl hR HE
        obtain ⟨n1, fn1⟩ := h.nodes
        obtain ⟨n0, fn0⟩ := h.id
        have hnd := hf.nodes
        go_wp2_with fail
        go_quiet (exact c1 _)
        go_wp2_with fail
        go_loopw [3, 30] (fun hv k wr => ∃ i p : Nat, i ≤ s.nodes ∧ k = .int .i64 i ∧ hv = .int .i64 (cnt s n i) ∧ wr = w.drewN p) (fun _ k _ => s.nodes - (intOf k).toNat)
        case atStart => exact ⟨0, _, by omega, rfl, rfl, rfl⟩
        case round =>
          obtain ⟨i, p, hi, rfl, rfl, rfl⟩ := hrel
          clear h2 c1 q
          have h2 := h.drewN p
          have hcl := cnt_le s n i
          rcases Nat.lt_or_ge i s.nodes with hin | hin
          · have hi7 : i < 7 := by omega
            obtain ⟨m0, fm0⟩ := h.mats hi7
            have b0 : (i : Int) < s.nodes := by omega
            have b7 : (i : Int) < 7 := by omega
            have b8 : (cnt s n i : Int) ≤ 8 := by omega
            by_cases hid : i = s.id
            · have d2 : ((i : Int) != (s.id : Int)) = false := by simp; omega
              have e1 : cnt s n (i + 1) = cnt s n i := by rw [cnt, if_neg (fun h => h.1 hid)]; rfl
              have HE1 := Lib.hid e1
              clear hid e1
              go_wp2_with fail
              go_roundw
              case rel => exact ⟨i + 1, p, by omega, by go_num, by rw [HE1.out], rfl⟩
              case measure => simp [intOf]; omega
            · have d2 : ((i : Int) != (s.id : Int)) = true := by simp; omega
              by_cases hmt : n ≤ s.mat i
              · have d3 : decide ((n : Int) ≤ (s.mat i : Int)) = true := by simp; omega
                have d3' : (n : Int) ≤ (s.mat i : Int) := by omega
                have e1 : cnt s n (i + 1) = cnt s n i + 1 := by rw [cnt, if_pos ⟨hid, hmt⟩]
                have HE1 := Lib.hid e1
                clear hid e1
                go_wp2_with fail
                go_roundw
                case rel => exact ⟨i + 1, p, by omega, by go_num, by rw [HE1.out]; go_num, rfl⟩
                case measure => simp [intOf]; omega
              · have d3 : decide ((n : Int) ≤ (s.mat i : Int)) = false := by simp; omega
                have d3' : (s.mat i : Int) < (n : Int) := by omega
                have e1 : cnt s n (i + 1) = cnt s n i := by rw [cnt, if_neg (fun h => hmt h.2)]; rfl
                have HE1 := Lib.hid e1
                clear hid e1
                go_wp2_with fail
                go_roundw
                case rel => exact ⟨i + 1, p, by omega, by go_num, by rw [HE1.out], rfl⟩
                case measure => simp [intOf]; omega
          · obtain rfl : i = s.nodes := by omega
            have E2 := E.out
            have hcl' : (cnt s n s.nodes : Int) ≤ 8 := by omega
            by_cases hmaj : s.nodes < 2 * cnt s n s.nodes
            · rw [if_pos hmaj] at E2
              have d4 : decide ((s.nodes : Int) < 2 * (cnt s n s.nodes : Int)) = true := by simp; omega
              have d4' : (s.nodes : Int) < 2 * (cnt s n s.nodes : Int) := by omega
              replace E2 := Lib.hid E2
              generalize cnt s n s.nodes = C at *
              clear E
              go_wp2_with fail
              refine bodyPost_ret (results_none rfl _ _ _) rfl ?_
              rw [← E2.out]
              exact ⟨rfl, h2.set (s' := { s with commit := n }) rfl 7 _ rfl, Only.set (S := fun k => k = g) ((Only.refl _ w).drewN _) (.inl rfl) _⟩
            · rw [if_neg hmaj] at E2
              have d4 : decide ((s.nodes : Int) < 2 * (cnt s n s.nodes : Int)) = false := by simp; omega
              have d4' : 2 * (cnt s n s.nodes : Int) ≤ (s.nodes : Int) := by omega
              replace E2 := Lib.hid E2
              generalize cnt s n s.nodes = C at *
              clear E
              go_wp2_with fail
              go_roundw
              case rel => exact ⟨n - 1, p, by omega, by congr 1; omega, rfl, E2⟩
              case measure => simp [intOf]; omega
      · rw [agreeTo_eq hn0, if_neg (fun h => ht h.2)] at E
        replace E := Lib.hid E
        have hne : (tat s.log n == s.term) = false := by simpa using ht
        generalize tat s.log n = T at *
        clear ct cl hR HE
        go_wp2_with fail
        go_quiet (exact c1 _)
        go_wp2
        go_end0
        rw [← E.out]
        exact ⟨rfl, (h2.drewN _), ((Only.refl _ w).drewN q).drewN nq⟩
    · have E := HE.out
      have d1 : decide ((s.commit : Int) < (n : Int)) = false := by simp; omega
      have e1 : R = s.commit := by
        rw [← E]
        cases n with
        | zero => rfl
        | succ m => rw [agreeTo, if_neg (by omega)]
      clear ct cl
      go_wp2_with fail
      go_quiet (fail)
      go_wp2
      go_end0
      rw [e1]
      exact ⟨rfl, (h2.drewN _), ((Only.refl _ w).drewN q).drewN nq⟩
end Rf
end Go.Proofs.Ytdacdkidjgbdoaa
