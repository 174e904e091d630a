/- ReadUint, ReadInt, ReadText, ReadNum of package code: each answers what the plain readers say of the bytes, at most 30000 of them. -/
import Derived.Test.YtibhldifmneboaaRf
namespace Go.Proofs.Ytibhldifmneboaa
open Go.RowKit
namespace Rd
open Cd Pl
set_option linter.unusedVariables false

theorem ReadUint_any (A : Option Addr) (n c : Nat) (xs : List UInt8) (hn : n ≤ 30000) (hc : n ≤ c) (hx : xs.length = n) (w : World) (hb : Bs w A xs) :
    Calls Try.prog 33 #[.slice A n c] w (Rd_ Val64 (.int .u64 0) (number xs) w) := by
  have cr := read_u A n c xs hx (number xs) w hb (fun g W h hb => number_any g A n c 0 xs hn hx (by omega) W h hb)
  obtain ⟨R, hR⟩ : ∃ R, R = number xs := ⟨_, rfl⟩
  rw [← hR] at cr ⊢
  clear hR hb hx
  cases R with
  | ok x k =>
    go_enter Try.func33, Try.ntmps33
    go_wp2_with fail
    refine cr.mono ?_
    rintro e w1 ⟨B, rfl⟩
    go_wp2
    go_ret3
    exact ⟨B, rfl⟩
  | no a er =>
    go_enter Try.func33, Try.ntmps33
    go_wp2_with fail
    refine cr.mono ?_
    rintro e w1 ⟨B, rfl⟩
    go_wp2
    go_ret3
    exact ⟨B, rfl⟩

theorem ReadInt_any (A : Option Addr) (n c : Nat) (xs : List UInt8) (hn : n ≤ 30000) (hc : n ≤ c) (hx : xs.length = n) (w : World) (hb : Bs w A xs) :
    Calls Try.prog 29 #[.slice A n c] w (Rd_ ValI (.int .i64 0) (mapOut Bt.unzig (number xs)) w) := by
  have cr := read_i A n c xs hx (mapOut Bt.unzig (number xs)) w hb (fun g W h hb => whole_any g A n c 0 xs hn hx (by omega) W h hb)
  obtain ⟨R, hR⟩ : ∃ R, R = mapOut Bt.unzig (number xs) := ⟨_, rfl⟩
  rw [← hR] at cr ⊢
  clear hR hb hx
  cases R with
  | ok x k =>
    go_enter Try.func29, Try.ntmps29
    go_wp2_with fail
    refine cr.mono ?_
    rintro e w1 ⟨B, rfl⟩
    go_wp2
    go_ret3
    exact ⟨B, rfl⟩
  | no a er =>
    go_enter Try.func29, Try.ntmps29
    go_wp2_with fail
    refine cr.mono ?_
    rintro e w1 ⟨B, rfl⟩
    go_wp2
    go_ret3
    exact ⟨B, rfl⟩

theorem ReadText_any (A : Option Addr) (n c : Nat) (xs : List UInt8) (hn : n ≤ 30000) (hc : n ≤ c) (hx : xs.length = n) (w : World) (hb : Bs w A xs) :
    Calls Try.prog 30 #[.slice A n c] w (Rd_ ValS (.string ⟨#[]⟩) (text xs) w) := by
  have cr := read_s A n c xs hx (text xs) w hb (fun g W h hb => text_any g A n c 0 xs hn hc hx (by omega) W h hb)
  obtain ⟨R, hR⟩ : ∃ R, R = text xs := ⟨_, rfl⟩
  rw [← hR] at cr ⊢
  clear hR hb hx
  cases R with
  | ok x k =>
    go_enter Try.func30, Try.ntmps30
    go_wp2_with fail
    refine cr.mono ?_
    rintro e w1 ⟨B, rfl⟩
    go_wp2
    go_ret3
    exact ⟨B, rfl⟩
  | no a er =>
    go_enter Try.func30, Try.ntmps30
    go_wp2_with fail
    refine cr.mono ?_
    rintro e w1 ⟨B, rfl⟩
    go_wp2
    go_ret3
    exact ⟨B, rfl⟩

theorem ReadNum_any (A : Option Addr) (n c : Nat) (xs : List UInt8) (hn : n ≤ 30000) (hc : n ≤ c) (hx : xs.length = n) (w : World) (hb : Bs w A xs) :
    Calls Try.prog 37 #[.slice A n c] w (Rd_ ValZ (.complex .f64 0 0) (fineBits fineB xs) w) := by
  have cr := read_z A n c xs hx (fineBits fineB xs) w hb (fun g W h hb => num_any g A n c 0 xs hn hc hx (by omega) W h hb)
  obtain ⟨R, hR⟩ : ∃ R, R = fineBits fineB xs := ⟨_, rfl⟩
  rw [← hR] at cr ⊢
  clear hR hb hx
  cases R with
  | ok x k =>
    go_enter Try.func37, Try.ntmps37
    go_wp2_with fail
    refine cr.mono ?_
    rintro e w1 ⟨B, rfl⟩
    go_wp2
    go_ret3
    exact ⟨B, rfl⟩
  | no a er =>
    go_enter Try.func37, Try.ntmps37
    go_wp2_with fail
    refine cr.mono ?_
    rintro e w1 ⟨B, rfl⟩
    go_wp2
    go_ret3
    exact ⟨B, rfl⟩
end Rd
end Go.Proofs.Ytibhldifmneboaa
