/- Plain facts on bits: seven bits put above those that a number has already; zig and zag. -/
import Derived.Laws.BitsAllLaws
import Derived.Laws.BitsLemmas
import Derived.IntWalk
namespace Go.Proofs.Ytibhldifmneboaa.Bt
open Go

theorem or_add (a b i : Nat) (h : a < 2 ^ i) : a ||| b * 2 ^ i = a + b * 2 ^ i := by
  rw [← Nat.shiftLeft_eq, Nat.or_comm, ← Nat.shiftLeft_add_eq_or_of_lt h, Nat.add_comm]

theorem pow128 (q : Nat) : 128 ^ q = 2 ^ (7 * q) := by rw [Nat.pow_mul]

theorem and127 (u : Nat) (hu : u < 256) : bits .and .u8 (u : Int) 127 = ((u % 128 : Nat) : Int) := by
  rw [show (127 : Int) = ((127 : Nat) : Int) from rfl, u8_and_nat u 127 hu (by omega)]
  congr 1
  exact Nat.and_two_pow_sub_one_eq_mod u 7

theorem wrap_u64_nat {n : Nat} (h : n < 18446744073709551616) : IntKind.u64.wrap (n : Int) = (n : Int) := by
  rw [IntKind.wrap_u64]; omega

/-- one byte more of a number -/
theorem step (acc q u : Nat) (hq : q ≤ 9) (hacc : acc < 128 ^ q) (hu : u < 256) (h9 : q = 9 → u ≤ 1) :
    bits .or .u64 (acc : Int) (IntKind.u64.wrap (IntKind.u64.wrap (bits .and .u8 (u : Int) 127) * 2 ^ (7 * q))) = ((acc + u % 128 * 128 ^ q : Nat) : Int) ∧ acc + u % 128 * 128 ^ q < 18446744073709551616 ∧ acc + u % 128 * 128 ^ q < 128 ^ (q + 1) := by
  have hm : u % 128 < 128 := Nat.mod_lt _ (by omega)
  have hb : acc + u % 128 * 128 ^ q < 18446744073709551616 := by
    rcases (by omega : q = 0 ∨ q = 1 ∨ q = 2 ∨ q = 3 ∨ q = 4 ∨ q = 5 ∨ q = 6 ∨ q = 7 ∨ q = 8 ∨ q = 9) with rfl | rfl | rfl | rfl | rfl | rfl | rfl | rfl | rfl | rfl
    all_goals simp only [Nat.reducePow] at hacc ⊢
    all_goals first | omega | (have := h9 rfl; omega)
  have hx : u % 128 * 128 ^ q < 18446744073709551616 := by omega
  refine ⟨?_, hb, ?_⟩
  · rw [and127 u hu, wrap_u64_nat (by omega)]
    have e : ((u % 128 : Nat) : Int) * 2 ^ (7 * q) = ((u % 128 * 128 ^ q : Nat) : Int) := by
      rw [pow128]; simp
    rw [e, wrap_u64_nat hx, u64_or_nat _ _ (by omega) hx, pow128, or_add _ _ _ (by rw [← pow128]; exact hacc)]
  · rw [Nat.pow_succ]
    have : u % 128 * 128 ^ q ≤ 127 * 128 ^ q := Nat.mul_le_mul_right _ (by omega)
    omega

theorem and1 (v : Nat) (hv : v < 18446744073709551616) : bits .and .u64 (v : Int) 1 = ((v % 2 : Nat) : Int) := by
  rw [show (1 : Int) = ((1 : Nat) : Int) from rfl, u64_and_nat v 1 hv (by omega)]
  congr 1
  exact Nat.and_two_pow_sub_one_eq_mod v 1

theorem wrap64_small {n : Int} (h0 : -9223372036854775808 ≤ n) (h1 : n < 9223372036854775808) : RowKit.wrap64 n = n := by
  unfold RowKit.wrap64; omega

theorem xor_zero (x : Nat) (hx : x < 9223372036854775808) : bits .xor .i64 (x : Int) 0 = (x : Int) := by
  show IntKind.i64.wrap ((BitVec.ofInt 64 (x : Int) ^^^ BitVec.ofInt 64 0).toNat : Int) = _
  have h0 : (BitVec.ofInt 64 0) = 0#64 := by decide
  rw [h0, BitVec.xor_zero, BitVec.ofInt_natCast, BitVec.toNat_ofNat, Nat.mod_eq_of_lt (by omega), IntKind.wrap_i64]
  omega
theorem xor_ones (x : Nat) (hx : x < 9223372036854775808) : bits .xor .i64 (x : Int) (-1) = -(x : Int) - 1 := by
  show IntKind.i64.wrap ((BitVec.ofInt 64 (x : Int) ^^^ BitVec.ofInt 64 (-1)).toNat : Int) = _
  have h0 : (BitVec.ofInt 64 (-1)) = BitVec.allOnes 64 := by decide
  rw [h0, BitVec.xor_allOnes, BitVec.toNat_not, BitVec.ofInt_natCast, BitVec.toNat_ofNat, Nat.mod_eq_of_lt (by omega), IntKind.wrap_i64]
  omega

/-- a whole number out of one from 0 on -/
def unzig (v : Nat) : Int := if v % 2 = 0 then ((v / 2 : Nat) : Int) else -((v / 2 : Nat) : Int) - 1

theorem unzig_bits (v : Nat) (hv : v < 18446744073709551616) :
    bits .xor .i64 (RowKit.wrap64 ((v : Int) / 2)) (RowKit.wrap64 (-RowKit.wrap64 (bits .and .u64 (v : Int) 1))) = unzig v := by
  rw [and1 v hv, show (v : Int) / 2 = ((v / 2 : Nat) : Int) by omega, wrap64_small (by omega) (by omega), wrap64_small (n := ((v % 2 : Nat) : Int)) (by omega) (by omega), wrap64_small (by omega) (by omega)]
  unfold unzig
  rcases (by omega : v % 2 = 0 ∨ v % 2 = 1) with h | h
  · rw [h, if_pos rfl]
    exact xor_zero _ (by omega)
  · rw [h, if_neg (by omega)]
    exact xor_ones _ (by omega)

theorem wsub_i {n p : Nat} (h : p ≤ n) (hn : n ≤ 30000) : IntKind.i64.wrap ((n : Int) - p) = (n : Int) - p := by rw [IntKind.wrap_i64]; omega
theorem wsub_u {n p : Nat} (h : p ≤ n) (hn : n ≤ 30000) : IntKind.u64.wrap ((n : Int) - p) = (n : Int) - p := by rw [IntKind.wrap_u64]; omega
theorem wnat_i {p : Nat} (hn : p ≤ 30000) : IntKind.i64.wrap (p : Int) = (p : Int) := by rw [IntKind.wrap_i64]; omega
theorem w64_nat {p : Nat} (hn : p ≤ 30000) : RowKit.wrap64 (p : Int) = (p : Int) := by unfold RowKit.wrap64; omega
theorem dle {n p k : Nat} (h : p + k ≤ n) : decide ((k : Int) ≤ (n : Int) - p) = true := by simp; omega
theorem dlt {n p k : Nat} (h : p + k ≤ n) : decide ((n : Int) - p < (k : Int)) = false := by simp; omega

/-- one byte more of eight -/
theorem be_bits (a u : Nat) (ha : a < 72057594037927936) (hu : u < 256) : bits .or .u64 (IntKind.u64.wrap ((a : Int) * 256)) (IntKind.u64.wrap (u : Int)) = ((a * 256 + u : Nat) : Int) := by
  rw [show (a : Int) * 256 = ((a * 256 : Nat) : Int) by omega, wrap_u64_nat (by omega), wrap_u64_nat (by omega), u64_or_nat _ _ (by omega) (by omega)]
  congr 1
  rw [Nat.or_comm, Nat.add_comm]
  exact or_add u a 8 (by omega)

theorem wrap_mod (u : Nat) : IntKind.u64.wrap ((u : Int) % 128) = (u : Int) % 128 := by rw [IntKind.wrap_u64]; omega
/-- one byte more of a number, as the reference reckons it -/
theorem rstep (acc q u : Nat) (hq : q ≤ 9) (hacc : acc < 128 ^ q) (hu : u < 256) (h9 : q = 9 → u ≤ 1) :
    IntKind.u64.wrap ((acc : Int) + IntKind.u64.wrap ((u : Int) % 128 * 2 ^ (7 * q))) = ((acc + u % 128 * 128 ^ q : Nat) : Int) ∧ acc + u % 128 * 128 ^ q < 18446744073709551616 ∧ acc + u % 128 * 128 ^ q < 128 ^ (q + 1) := by
  obtain ⟨_, h2, h3⟩ := step acc q u hq hacc hu h9
  refine ⟨?_, h2, h3⟩
  have e : (u : Int) % 128 * 2 ^ (7 * q) = ((u % 128 * 128 ^ q : Nat) : Int) := by
    rw [pow128]; simp
  rw [e, wrap_u64_nat (by omega), ← Int.natCast_add, wrap_u64_nat h2]

theorem wrap_half (v : Nat) (hv : v < 18446744073709551616) : RowKit.wrap64 (IntKind.u64.wrap ((v : Int) / 2)) = ((v / 2 : Nat) : Int) := by
  rw [show (v : Int) / 2 = ((v / 2 : Nat) : Int) by omega, wrap_u64_nat (by omega), wrap64_small (by omega) (by omega)]
theorem unzig_even (v : Nat) (hv : v < 18446744073709551616) (h : v % 2 = 0) : RowKit.wrap64 (IntKind.u64.wrap ((v : Int) / 2)) = unzig v := by
  unfold unzig
  rw [if_pos h, wrap_half v hv]
theorem unzig_odd (v : Nat) (hv : v < 18446744073709551616) (h : v % 2 = 1) : RowKit.wrap64 (RowKit.wrap64 (-RowKit.wrap64 (IntKind.u64.wrap ((v : Int) / 2))) - 1) = unzig v := by
  unfold unzig
  rw [if_neg (by omega), wrap_half v hv, wrap64_small (n := -((v / 2 : Nat) : Int)) (by omega) (by omega), wrap64_small (by omega) (by omega)]

theorem rbe (a u : Nat) (ha : a < 72057594037927936) (hu : u < 256) : IntKind.u64.wrap (IntKind.u64.wrap (256 * (a : Int)) + IntKind.u64.wrap (u : Int)) = ((a * 256 + u : Nat) : Int) := by
  rw [show 256 * (a : Int) = ((a * 256 : Nat) : Int) by omega, wrap_u64_nat (n := a * 256) (by omega), wrap_u64_nat (n := u) (by omega), ← Int.natCast_add, wrap_u64_nat (by omega)]

end Go.Proofs.Ytibhldifmneboaa.Bt
