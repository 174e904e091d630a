/- The contracts of raft's answer and plain. -/
import Derived.Test.YtdacdkidjgbdoaaRs
set_option linter.unusedVariables false
set_option linter.unusedSimpArgs false
namespace Go.Proofs.Ytdacdkidjgbdoaa
open Go Go.RowKit
namespace Rf
attribute [local go_sem ↓] Go.wp_at_zero Go.wp_at_succ

/-- has a message no fields but those that its kind has? -/
def plainK (kind : Nat) (ix lt : Int) (n : Nat) (cm : Int) (ok : Bool) : Bool :=
  if kind = 1 then decide (ix = 0 ↔ lt = 0) && (decide (n = 0) && (decide (cm = 0) && !ok))
  else if kind = 2 then decide (ix = 0) && (decide (lt = 0) && (decide (n = 0) && decide (cm = 0)))
  else if kind = 3 then decide (ix = 0 ↔ lt = 0) && !ok
  else if kind = 4 then decide (lt = 0) && (decide (n = 0) && decide (cm = 0))
  else false
def plainB (m : Msg) : Bool := plainK m.kind m.index m.logTerm m.entries.length m.commit m.ok

def PlainPost (b : Bool) (w : World) (e : Ending) (w' : World) : Prop := e = .returned (.bool b) ∧ Below w.heap.size w w'
theorem belowN {B n : Nat} {w w' : World} (h : Below B w w') : Below B w (w'.drewN n) := ⟨h.os, h.tape, h.output, h.size, h.block⟩

set_option maxRecDepth 100000 in
set_option maxHeartbeats 4000000 in
theorem plain_1 (src dst tm ix lt cm : Int) (ok : Bool) (a : Option Addr) (n c : Nat) (w : World) :
    Calls Try.prog 64 #[.agg #[.int .u8 1, .int .i64 src, .int .i64 dst, .int .i64 tm, .int .i64 ix, .int .i64 lt, .slice a n c, .int .i64 cm, .bool ok]] w (PlainPost (plainK 1 ix lt n cm ok) w) := by
  generalize hR0 : plainK 1 ix lt n cm ok = R
  by_cases hix : ix = 0
  · skip
    obtain rfl := hix
    by_cases hlt : lt = 0
    · skip
      obtain rfl := hlt
      by_cases hn : n = 0
      · skip
        obtain rfl := hn
        by_cases hcm : cm = 0
        · skip
          obtain rfl := hcm
          by_cases hok : ok = true
          · skip
            obtain rfl := hok
            have hR : R = false := by rw [← hR0]; simp_all [plainK]
            subst hR
            clear hR0
            go_enter Try.func64, Try.ntmps64
            go_wp2_with fail
            go_quiet (fail)
            go_wp2
            go_ret
            exact ⟨rfl, belowN ((Below.refl _ w).alloc (Nat.le_refl _) _)⟩
          · skip
            obtain rfl : ok = false := by simpa using hok
            have hR : R = true := by rw [← hR0]; simp_all [plainK]
            subst hR
            clear hR0
            go_enter Try.func64, Try.ntmps64
            go_wp2_with fail
            go_quiet (fail)
            go_wp2
            go_ret
            exact ⟨rfl, belowN ((Below.refl _ w).alloc (Nat.le_refl _) _)⟩
        · skip
          have E6 : (cm != 0) = true := by simp [hcm]
          have hR : R = false := by rw [← hR0]; simp_all [plainK]
          subst hR
          clear hR0
          go_enter Try.func64, Try.ntmps64
          go_wp2_with fail
          go_quiet (fail)
          go_wp2
          go_ret
          exact ⟨rfl, belowN ((Below.refl _ w).alloc (Nat.le_refl _) _)⟩
      · skip
        have E5 : decide (0 < n) = true := by simp; omega
        have E5b : 0 < n := by omega
        have hR : R = false := by rw [← hR0]; simp_all [plainK]
        subst hR
        clear hR0
        go_enter Try.func64, Try.ntmps64
        go_wp2_with fail
        go_quiet (fail)
        go_wp2
        go_ret
        exact ⟨rfl, belowN ((Below.refl _ w).alloc (Nat.le_refl _) _)⟩
    · skip
      have E3 : (lt == 0) = false := by simp [hlt]
      have E4 : (lt != 0) = true := by simp [hlt]
      have hR : R = false := by rw [← hR0]; simp_all [plainK]
      subst hR
      clear hR0
      go_enter Try.func64, Try.ntmps64
      go_wp2_with fail
      go_quiet (fail)
      go_wp2
      go_ret
      exact ⟨rfl, belowN ((Below.refl _ w).alloc (Nat.le_refl _) _)⟩
  · skip
    have E1 : (ix == 0) = false := by simp [hix]
    have E2 : (ix != 0) = true := by simp [hix]
    by_cases hlt : lt = 0
    · skip
      obtain rfl := hlt
      have hR : R = false := by rw [← hR0]; simp_all [plainK]
      subst hR
      clear hR0
      go_enter Try.func64, Try.ntmps64
      go_wp2_with fail
      go_quiet (fail)
      go_wp2
      go_ret
      exact ⟨rfl, belowN ((Below.refl _ w).alloc (Nat.le_refl _) _)⟩
    · skip
      have E3 : (lt == 0) = false := by simp [hlt]
      have E4 : (lt != 0) = true := by simp [hlt]
      by_cases hn : n = 0
      · skip
        obtain rfl := hn
        by_cases hcm : cm = 0
        · skip
          obtain rfl := hcm
          by_cases hok : ok = true
          · skip
            obtain rfl := hok
            have hR : R = false := by rw [← hR0]; simp_all [plainK]
            subst hR
            clear hR0
            go_enter Try.func64, Try.ntmps64
            go_wp2_with fail
            go_quiet (fail)
            go_wp2
            go_ret
            exact ⟨rfl, belowN ((Below.refl _ w).alloc (Nat.le_refl _) _)⟩
          · skip
            obtain rfl : ok = false := by simpa using hok
            have hR : R = true := by rw [← hR0]; simp_all [plainK]
            subst hR
            clear hR0
            go_enter Try.func64, Try.ntmps64
            go_wp2_with fail
            go_quiet (fail)
            go_wp2
            go_ret
            exact ⟨rfl, belowN ((Below.refl _ w).alloc (Nat.le_refl _) _)⟩
        · skip
          have E6 : (cm != 0) = true := by simp [hcm]
          have hR : R = false := by rw [← hR0]; simp_all [plainK]
          subst hR
          clear hR0
          go_enter Try.func64, Try.ntmps64
          go_wp2_with fail
          go_quiet (fail)
          go_wp2
          go_ret
          exact ⟨rfl, belowN ((Below.refl _ w).alloc (Nat.le_refl _) _)⟩
      · skip
        have E5 : decide (0 < n) = true := by simp; omega
        have E5b : 0 < n := by omega
        have hR : R = false := by rw [← hR0]; simp_all [plainK]
        subst hR
        clear hR0
        go_enter Try.func64, Try.ntmps64
        go_wp2_with fail
        go_quiet (fail)
        go_wp2
        go_ret
        exact ⟨rfl, belowN ((Below.refl _ w).alloc (Nat.le_refl _) _)⟩

set_option maxRecDepth 100000 in
set_option maxHeartbeats 4000000 in
theorem plain_2 (src dst tm ix lt cm : Int) (ok : Bool) (a : Option Addr) (n c : Nat) (w : World) :
    Calls Try.prog 64 #[.agg #[.int .u8 2, .int .i64 src, .int .i64 dst, .int .i64 tm, .int .i64 ix, .int .i64 lt, .slice a n c, .int .i64 cm, .bool ok]] w (PlainPost (plainK 2 ix lt n cm ok) w) := by
  generalize hR0 : plainK 2 ix lt n cm ok = R
  by_cases hix : ix = 0
  · skip
    obtain rfl := hix
    by_cases hlt : lt = 0
    · skip
      obtain rfl := hlt
      by_cases hn : n = 0
      · skip
        obtain rfl := hn
        by_cases hcm : cm = 0
        · skip
          obtain rfl := hcm
          have hR : R = true := by rw [← hR0]; simp_all [plainK]
          subst hR
          clear hR0
          go_enter Try.func64, Try.ntmps64
          go_wp2_with fail
          go_quiet (fail)
          go_wp2
          go_ret
          exact ⟨rfl, belowN ((Below.refl _ w).alloc (Nat.le_refl _) _)⟩
        · skip
          have E6 : (cm != 0) = true := by simp [hcm]
          have hR : R = false := by rw [← hR0]; simp_all [plainK]
          subst hR
          clear hR0
          go_enter Try.func64, Try.ntmps64
          go_wp2_with fail
          go_quiet (fail)
          go_wp2
          go_ret
          exact ⟨rfl, belowN ((Below.refl _ w).alloc (Nat.le_refl _) _)⟩
      · skip
        have E5 : decide (0 < n) = true := by simp; omega
        have E5b : 0 < n := by omega
        have hR : R = false := by rw [← hR0]; simp_all [plainK]
        subst hR
        clear hR0
        go_enter Try.func64, Try.ntmps64
        go_wp2_with fail
        go_quiet (fail)
        go_wp2
        go_ret
        exact ⟨rfl, belowN ((Below.refl _ w).alloc (Nat.le_refl _) _)⟩
    · skip
      have E3 : (lt == 0) = false := by simp [hlt]
      have E4 : (lt != 0) = true := by simp [hlt]
      have hR : R = false := by rw [← hR0]; simp_all [plainK]
      subst hR
      clear hR0
      go_enter Try.func64, Try.ntmps64
      go_wp2_with fail
      go_quiet (fail)
      go_wp2
      go_ret
      exact ⟨rfl, belowN ((Below.refl _ w).alloc (Nat.le_refl _) _)⟩
  · skip
    have E1 : (ix == 0) = false := by simp [hix]
    have E2 : (ix != 0) = true := by simp [hix]
    have hR : R = false := by rw [← hR0]; simp_all [plainK]
    subst hR
    clear hR0
    go_enter Try.func64, Try.ntmps64
    go_wp2_with fail
    go_quiet (fail)
    go_wp2
    go_ret
    exact ⟨rfl, belowN ((Below.refl _ w).alloc (Nat.le_refl _) _)⟩

set_option maxRecDepth 100000 in
set_option maxHeartbeats 4000000 in
theorem plain_3 (src dst tm ix lt cm : Int) (ok : Bool) (a : Option Addr) (n c : Nat) (w : World) :
    Calls Try.prog 64 #[.agg #[.int .u8 3, .int .i64 src, .int .i64 dst, .int .i64 tm, .int .i64 ix, .int .i64 lt, .slice a n c, .int .i64 cm, .bool ok]] w (PlainPost (plainK 3 ix lt n cm ok) w) := by
  generalize hR0 : plainK 3 ix lt n cm ok = R
  by_cases hix : ix = 0
  · skip
    obtain rfl := hix
    by_cases hlt : lt = 0
    · skip
      obtain rfl := hlt
      by_cases hok : ok = true
      · skip
        obtain rfl := hok
        have hR : R = false := by rw [← hR0]; simp_all [plainK]
        subst hR
        clear hR0
        go_enter Try.func64, Try.ntmps64
        go_wp2_with fail
        go_quiet (fail)
        go_wp2
        go_ret
        exact ⟨rfl, belowN ((Below.refl _ w).alloc (Nat.le_refl _) _)⟩
      · skip
        obtain rfl : ok = false := by simpa using hok
        have hR : R = true := by rw [← hR0]; simp_all [plainK]
        subst hR
        clear hR0
        go_enter Try.func64, Try.ntmps64
        go_wp2_with fail
        go_quiet (fail)
        go_wp2
        go_ret
        exact ⟨rfl, belowN ((Below.refl _ w).alloc (Nat.le_refl _) _)⟩
    · skip
      have E3 : (lt == 0) = false := by simp [hlt]
      have E4 : (lt != 0) = true := by simp [hlt]
      have hR : R = false := by rw [← hR0]; simp_all [plainK]
      subst hR
      clear hR0
      go_enter Try.func64, Try.ntmps64
      go_wp2_with fail
      go_quiet (fail)
      go_wp2
      go_ret
      exact ⟨rfl, belowN ((Below.refl _ w).alloc (Nat.le_refl _) _)⟩
  · skip
    have E1 : (ix == 0) = false := by simp [hix]
    have E2 : (ix != 0) = true := by simp [hix]
    by_cases hlt : lt = 0
    · skip
      obtain rfl := hlt
      have hR : R = false := by rw [← hR0]; simp_all [plainK]
      subst hR
      clear hR0
      go_enter Try.func64, Try.ntmps64
      go_wp2_with fail
      go_quiet (fail)
      go_wp2
      go_ret
      exact ⟨rfl, belowN ((Below.refl _ w).alloc (Nat.le_refl _) _)⟩
    · skip
      have E3 : (lt == 0) = false := by simp [hlt]
      have E4 : (lt != 0) = true := by simp [hlt]
      by_cases hok : ok = true
      · skip
        obtain rfl := hok
        have hR : R = false := by rw [← hR0]; simp_all [plainK]
        subst hR
        clear hR0
        go_enter Try.func64, Try.ntmps64
        go_wp2_with fail
        go_quiet (fail)
        go_wp2
        go_ret
        exact ⟨rfl, belowN ((Below.refl _ w).alloc (Nat.le_refl _) _)⟩
      · skip
        obtain rfl : ok = false := by simpa using hok
        have hR : R = true := by rw [← hR0]; simp_all [plainK]
        subst hR
        clear hR0
        go_enter Try.func64, Try.ntmps64
        go_wp2_with fail
        go_quiet (fail)
        go_wp2
        go_ret
        exact ⟨rfl, belowN ((Below.refl _ w).alloc (Nat.le_refl _) _)⟩

set_option maxRecDepth 100000 in
set_option maxHeartbeats 4000000 in
theorem plain_4 (src dst tm ix lt cm : Int) (ok : Bool) (a : Option Addr) (n c : Nat) (w : World) :
    Calls Try.prog 64 #[.agg #[.int .u8 4, .int .i64 src, .int .i64 dst, .int .i64 tm, .int .i64 ix, .int .i64 lt, .slice a n c, .int .i64 cm, .bool ok]] w (PlainPost (plainK 4 ix lt n cm ok) w) := by
  generalize hR0 : plainK 4 ix lt n cm ok = R
  by_cases hlt : lt = 0
  · skip
    obtain rfl := hlt
    by_cases hn : n = 0
    · skip
      obtain rfl := hn
      by_cases hcm : cm = 0
      · skip
        obtain rfl := hcm
        have hR : R = true := by rw [← hR0]; simp_all [plainK]
        subst hR
        clear hR0
        go_enter Try.func64, Try.ntmps64
        go_wp2_with fail
        go_quiet (fail)
        go_wp2
        go_ret
        exact ⟨rfl, belowN ((Below.refl _ w).alloc (Nat.le_refl _) _)⟩
      · skip
        have E6 : (cm != 0) = true := by simp [hcm]
        have hR : R = false := by rw [← hR0]; simp_all [plainK]
        subst hR
        clear hR0
        go_enter Try.func64, Try.ntmps64
        go_wp2_with fail
        go_quiet (fail)
        go_wp2
        go_ret
        exact ⟨rfl, belowN ((Below.refl _ w).alloc (Nat.le_refl _) _)⟩
    · skip
      have E5 : decide (0 < n) = true := by simp; omega
      have E5b : 0 < n := by omega
      have hR : R = false := by rw [← hR0]; simp_all [plainK]
      subst hR
      clear hR0
      go_enter Try.func64, Try.ntmps64
      go_wp2_with fail
      go_quiet (fail)
      go_wp2
      go_ret
      exact ⟨rfl, belowN ((Below.refl _ w).alloc (Nat.le_refl _) _)⟩
  · skip
    have E3 : (lt == 0) = false := by simp [hlt]
    have E4 : (lt != 0) = true := by simp [hlt]
    have hR : R = false := by rw [← hR0]; simp_all [plainK]
    subst hR
    clear hR0
    go_enter Try.func64, Try.ntmps64
    go_wp2_with fail
    go_quiet (fail)
    go_wp2
    go_ret
    exact ⟨rfl, belowN ((Below.refl _ w).alloc (Nat.le_refl _) _)⟩

set_option maxRecDepth 100000 in
set_option maxHeartbeats 4000000 in
theorem plain_no (k : Nat) (src dst tm ix lt cm : Int) (ok : Bool) (a : Option Addr) (n c : Nat) (hk : k ≠ 1 ∧ k ≠ 2 ∧ k ≠ 3 ∧ k ≠ 4) (w : World) :
    Calls Try.prog 64 #[.agg #[.int .u8 k, .int .i64 src, .int .i64 dst, .int .i64 tm, .int .i64 ix, .int .i64 lt, .slice a n c, .int .i64 cm, .bool ok]] w (PlainPost (plainK k ix lt n cm ok) w) := by
  generalize hR0 : plainK k ix lt n cm ok = R
  obtain ⟨h1, h2, h3, h4⟩ := hk
  have hR : R = false := by rw [← hR0]; simp [plainK, h1, h2, h3, h4]
  have e1 : ((k : Int) == 1) = false := by simp; omega
  have e2 : ((k : Int) == 2) = false := by simp; omega
  have e3 : ((k : Int) == 3) = false := by simp; omega
  have e4 : ((k : Int) == 4) = false := by simp; omega
  subst hR
  clear hR0 h1 h2 h3 h4
  go_enter Try.func64, Try.ntmps64
  go_wp2_with fail
  go_quiet (fail)
  go_wp2
  go_ret
  exact ⟨rfl, belowN ((Below.refl _ w).alloc (Nat.le_refl _) _)⟩

theorem plain_is (m : Msg) (a : Option Addr) (c : Nat) (w : World) : Calls Try.prog 64 #[.agg (mc m (.slice a m.entries.length c))] w (PlainPost (plainB m) w) := by
  obtain ⟨k, src, dst, tm, ix, lt, es, cm, ok⟩ := m
  by_cases k1 : k = 1
  · subst k1; exact plain_1 _ _ _ _ _ _ _ _ _ _ w
  by_cases k2 : k = 2
  · subst k2; exact plain_2 _ _ _ _ _ _ _ _ _ _ w
  by_cases k3 : k = 3
  · subst k3; exact plain_3 _ _ _ _ _ _ _ _ _ _ w
  by_cases k4 : k = 4
  · subst k4; exact plain_4 _ _ _ _ _ _ _ _ _ _ w
  exact plain_no k _ _ _ _ _ _ _ _ _ _ ⟨k1, k2, k3, k4⟩ w
end Rf
end Go.Proofs.Ytdacdkidjgbdoaa
