/- The writers of numbers and texts of package code: appendUint, zig, PutUint, PutInt, appendText, PutText: each hands out a row of its own with the bytes that the plain writers say. -/
import Derived.Test.YtibhldifmneboaaRd
import Derived.Test.YtibhldifmneboaaCd
import Derived.Test.YtibhldifmneboaaBt
import Derived.Lib.AppendStr
import Derived.OwnWalk
set_option linter.unusedVariables false
set_option linter.unusedSimpArgs false
namespace Go.Proofs.Ytibhldifmneboaa
open Go Go.RowKit Cd
namespace Pu

/-- bytes as cells -/
def bc (l : List UInt8) : List Value := l.map fun u => .int .u8 u.toNat
theorem bc_append (a b : List UInt8) : bc (a ++ b) = bc a ++ bc b := by simp [bc]
theorem bc_one (n : Nat) (h : n < 256) : bc [UInt8.ofNat n] = [.int .u8 (n : Int)] := by simp [bc, toNat_of h]

set_option maxRecDepth 100000 in
/-- one byte of a number that has more -/
theorem or128 (m : Nat) : bits .or .u8 ((m : Int) % 256) 128 = ((m % 128 + 128 : Nat) : Int) := by
  have e : (m : Int) % 256 = ((m % 256 : Nat) : Int) := by omega
  rw [e]
  rw [show (128 : Int) = ((128 : Nat) : Int) from rfl, u8_or_nat (m % 256) 128 (by omega) (by omega)]
  have key : ∀ k : Fin 256, k.val ||| 128 = k.val % 128 + 128 := by decide
  have := key ⟨m % 256, Nat.mod_lt _ (by omega)⟩
  simp only at this
  rw [this]
  congr 1
  omega
theorem wrap_u8_small {m : Nat} (h : m < 256) : IntKind.u8.wrap (m : Int) = (m : Int) := by rw [IntKind.wrap_u8]; omega
theorem shr7 {m : Nat} (h : m < 18446744073709551616) : IntKind.u64.wrap ((m : Int) / 128) = ((m / 128 : Nat) : Int) := by rw [IntKind.wrap_u64]; omega

set_option maxRecDepth 100000 in
theorem appendUint_any (base n : Nat) (v : Value) (l : List UInt8) (hn : n < 18446744073709551616) (hl : l.length ≤ 1000000000) (w : World) (hb : base ≤ w.heap.size)
    (hown : w.ownsRow base 5 1 v l.length (bc l)) :
    Calls Try.prog 60 #[v, .int .u64 n] w fun e w' => ∃ v', e = .returned v' ∧ w'.ownsRow base 5 1 v' (l.length + (enc7 n).length) (bc (l ++ enc7 n)) ∧ Below base w w' := by
  obtain ⟨i0, hi, hz0, hz1, hz2⟩ := info_parts (P := Try.prog) (e := 5) (z := .int .u8 0) (size := 1) (bytes := 1) (by rfl)
  go_enter Try.func60, Try.ntmps60
  go_wp2
  go_loopw [0, 1] (fun b x wr => ∃ (pre : List UInt8) (m : Nat), x = .int .u64 m ∧ m < 18446744073709551616 ∧ Hid (pre ++ enc7 m = enc7 n) ∧ wr.ownsRow base 5 1 b (l.length + pre.length) (bc (l ++ pre)) ∧ Below base w wr) (fun _ x _ => (intOf x).toNat)
  case atStart => exact ⟨[], n, rfl, hn, Lib.hid (by simp), by simpa using hown, Below.refl _ _⟩
  case round =>
    obtain ⟨pre, m, rfl, hm, he, ho, hB⟩ := hrel
    clear hown
    have hp : pre.length ≤ 10 := by
      have h1 := congrArg List.length he.out
      have h2 := enc7_len10 hn
      rw [List.length_append] at h1
      omega
    by_cases c : m < 128
    · have e0 := he.out
      rw [enc7_small c] at e0
      have W1 := Lib.hid (wrap_u8_small (m := m) (by omega))
      have b1 : (m : Int) ≤ 127 := by omega
      clear hn he
      go_wp2_with (at_builtin; refine wpList_append_own _ rfl _ _ 44 rfl base 5 i0 (.int .u8 0) 1 1 Try.underlying44 hi hz0 hz1 hz2 rfl (by decide) _ _ _ rfl (ho.alloc _) ⟨wr.heap.size, 0, none⟩ 1 1 [.int .u8 (m : Int)] rfl rfl ?c1 ?c2 ?c3 ?c4 ?c5 ?_)
      case c1 =>
        intro j u hj
        match j, hj with
        | 0, hj => simp at hj; subst hj; simp [Addr.add]
        | (j + 1), hj => simp at hj
      case c2 => intro u hu; simp at hu; subst hu; rfl
      case c3 => unfold maxLen; omega
      case c4 => omega
      case c5 => have := hB.size; simp; omega
      intro v' w1 hown1 hgrow1 _
      go_wp2
      go_ret
      refine ⟨_, rfl, ?_, ?_⟩
      · rw [← e0, bc_append, bc_append, bc_one m (by omega), ← List.append_assoc, ← bc_append, List.length_append, List.length_singleton, ← Nat.add_assoc]
        exact hown1
      · exact (hB.alloc (by have := hB.size; omega) _).grown hgrow1 (by have := hB.size; simp; omega) (fun k hk => (ho.lt _ hk).1)
    · have e0 := he.out
      rw [enc7_big c] at e0
      have e1 : Hid ((pre ++ [UInt8.ofNat (m % 128 + 128)]) ++ enc7 (m / 128) = enc7 n) := Lib.hid (by rw [List.append_assoc]; exact e0)
      have W1 := Lib.hid (or128 m)
      have b1 : 127 < (m : Int) := by omega
      have hm2 : m / 128 < 18446744073709551616 := by omega
      have hm3 : m / 128 < m := by omega
      have hm4 : m % 128 + 128 < 256 := by omega
      clear hn he e0
      go_wp2_with (at_builtin; refine wpList_append_own _ rfl _ _ 44 rfl base 5 i0 (.int .u8 0) 1 1 Try.underlying44 hi hz0 hz1 hz2 rfl (by decide) _ _ _ rfl (ho.alloc _) ⟨wr.heap.size, 0, none⟩ 1 1 [.int .u8 ((m % 128 + 128 : Nat) : Int)] rfl rfl ?c1 ?c2 ?c3 ?c4 ?c5 ?_)
      case c1 =>
        intro j u hj
        match j, hj with
        | 0, hj => simp at hj; subst hj; rw [W1.out]; simp [Addr.add]
        | (j + 1), hj => simp at hj
      case c2 => intro u hu; simp only [List.mem_singleton] at hu; subst hu; rfl
      case c3 => unfold maxLen; omega
      case c4 => omega
      case c5 => have := hB.size; simp; omega
      intro v' w1 hown1 hgrow1 _
      go_wp2
      go_roundw
      case rel =>
        refine ⟨_, m / 128, ?_, hm2, e1, ?_, ?_⟩
        · congr 1
          try omega
        · rw [List.length_append, List.length_singleton, ← List.append_assoc, bc_append, bc_one _ hm4, ← Nat.add_assoc]
          exact hown1
        · exact (hB.alloc (by have := hB.size; omega) _).grown hgrow1 (by have := hB.size; simp; omega) (fun k hk => (ho.lt _ hk).1)
      case measure => simp [intOf]; omega

/-- a whole number as one from 0 on -/
def zig (x : Int) : Nat := if 0 ≤ x then (2 * x).toNat else (-2 * x - 1).toNat
theorem zig_lt {x : Int} (h0 : -9223372036854775808 ≤ x) (h1 : x < 9223372036854775808) : zig x < 18446744073709551616 := by
  unfold zig; split <;> omega
theorem xor_zero_u (x : Nat) (hx : x < 18446744073709551616) : bits .xor .u64 (x : Int) 0 = (x : Int) := by
  show IntKind.u64.wrap ((BitVec.ofInt 64 (x : Int) ^^^ BitVec.ofInt 64 0).toNat : Int) = _
  have h0 : (BitVec.ofInt 64 0) = 0#64 := by decide
  rw [h0, BitVec.xor_zero, BitVec.ofInt_natCast, BitVec.toNat_ofNat, Nat.mod_eq_of_lt (by omega), IntKind.wrap_u64]
  omega
theorem xor_ones_u (x : Nat) (hx : x < 18446744073709551616) : bits .xor .u64 (x : Int) 18446744073709551615 = 18446744073709551615 - (x : Int) := by
  show IntKind.u64.wrap ((BitVec.ofInt 64 (x : Int) ^^^ BitVec.ofInt 64 18446744073709551615).toNat : Int) = _
  have h0 : (BitVec.ofInt 64 18446744073709551615) = BitVec.allOnes 64 := by decide
  rw [h0, BitVec.xor_allOnes, BitVec.toNat_not, BitVec.ofInt_natCast, BitVec.toNat_ofNat, Nat.mod_eq_of_lt (by omega), IntKind.wrap_u64]
  omega
theorem zig_bits (x : Int) (h0 : -9223372036854775808 ≤ x) (h1 : x < 9223372036854775808) :
    bits .xor .u64 (IntKind.u64.wrap (IntKind.u64.wrap x * 2)) (IntKind.u64.wrap (x / 9223372036854775808)) = (zig x : Int) := by
  unfold zig
  by_cases h : 0 ≤ x
  · have e1 : IntKind.u64.wrap (IntKind.u64.wrap x * 2) = ((2 * x).toNat : Int) := by rw [IntKind.wrap_u64, IntKind.wrap_u64]; omega
    have e2 : IntKind.u64.wrap (x / 9223372036854775808) = 0 := by rw [IntKind.wrap_u64]; omega
    rw [e1, e2, if_pos h]
    exact xor_zero_u _ (by omega)
  · have e1 : IntKind.u64.wrap (IntKind.u64.wrap x * 2) = ((2 * x + 18446744073709551616).toNat : Int) := by rw [IntKind.wrap_u64, IntKind.wrap_u64]; omega
    have e2 : IntKind.u64.wrap (x / 9223372036854775808) = 18446744073709551615 := by rw [IntKind.wrap_u64]; omega
    rw [e1, e2, if_neg h, xor_ones_u _ (by omega)]
    omega
set_option maxRecDepth 100000 in
theorem zig_any (x : Int) (h0 : -9223372036854775808 ≤ x) (h1 : x < 9223372036854775808) (w : World) :
    Calls Try.prog 61 #[.int .i64 x] w fun e w' => e = .returned (.int .u64 (zig x)) ∧ w = w' := by
  have hz := Lib.hid (zig_bits x h0 h1)
  clear h0 h1
  go_enter Try.func61, Try.ntmps61
  go_wp2
  go_ret
  rw [← hz.out]
  exact ⟨rfl, rfl⟩

/-- what the writers hand out: a row of their own -/
def Put (l : List UInt8) (w : World) (e : Ending) (w' : World) : Prop := ∃ v, e = .returned v ∧ w'.ownsRow w.heap.size 5 1 v l.length (bc l) ∧ Below w.heap.size w w'

theorem putUint_any (n : Nat) (hn : n < 18446744073709551616) (w : World) : Calls Try.prog 26 #[.int .u64 n] w (Put (enc7 n) w) := by
  have c := fun W (h : w.heap.size ≤ W.heap.size) => appendUint_any w.heap.size n (.slice none 0 0) [] hn (by simp) W h (World.ownsRow_nil W _ 5 1)
  go_enter Try.func26, Try.ntmps26
  go_wp2_with fail
  refine (c _ (Nat.le_refl _)).mono ?_
  rintro e w1 ⟨v, rfl, ho, hb⟩
  go_wp2
  go_ret
  exact ⟨v, rfl, by simpa using ho, hb⟩

theorem putInt_any (x : Int) (h0 : -9223372036854775808 ≤ x) (h1 : x < 9223372036854775808) (w : World) : Calls Try.prog 28 #[.int .i64 x] w (Put (enc7 (zig x)) w) := by
  have c := fun W (h : w.heap.size ≤ W.heap.size) => appendUint_any w.heap.size (zig x) (.slice none 0 0) [] (zig_lt h0 h1) (by simp) W h (World.ownsRow_nil W _ 5 1)
  go_enter Try.func28, Try.ntmps28
  go_wp2_with fail
  refine (zig_any x h0 h1 _).mono ?_
  rintro e w1 ⟨rfl, rfl⟩
  go_wp2_with fail
  refine (c _ (Nat.le_refl _)).mono ?_
  rintro e w1 ⟨v, rfl, ho, hb⟩
  go_wp2
  go_ret
  exact ⟨v, rfl, by simpa using ho, hb⟩

theorem strCells_bc (s : ByteArray) : Lib.strCells s = bc s.data.toList := rfl
set_option maxRecDepth 100000 in
theorem appendText_any (base : Nat) (s : ByteArray) (v : Value) (l : List UInt8) (hs : s.size ≤ 1000000000) (hl : l.length ≤ 1000000000) (w : World) (hb : base ≤ w.heap.size)
    (hown : w.ownsRow base 5 1 v l.length (bc l)) :
    Calls Try.prog 68 #[v, .string s] w fun e w' => ∃ v', e = .returned v' ∧ w'.ownsRow base 5 1 v' (l.length + (enc7 s.size).length + s.size) (bc (l ++ enc7 s.size ++ s.data.toList)) ∧ Below base w w' := by
  obtain ⟨i0, hi, hz0, hz1, hz2⟩ := info_parts (P := Try.prog) (e := 5) (z := .int .u8 0) (size := 1) (bytes := 1) (by rfl)
  have hsz := enc7_len10 (n := s.size) (by omega)
  have c := fun W (h : base ≤ W.heap.size) => appendUint_any base s.size v l (by omega) hl W h
  go_enter Try.func68, Try.ntmps68
  go_wp2_with fail
  refine (c _ hb hown).mono ?_
  rintro e w1 ⟨v', rfl, ho, hB⟩
  go_wp2_with (at_builtin; refine Lib.wpList_append_own_string _ rfl _ _ 44 9 rfl base 5 i0 Try.underlying44 Try.underlying9 hi hz0 hz1 hz2 _ _ _ rfl ho s rfl ?c1 ?c2 ?c3 ?_)
  case c1 => unfold maxLen; omega
  case c2 => omega
  case c3 => have := hB.size; omega
  intro v2 w2 hown1 hgrow1 _
  go_wp2
  go_ret
  refine ⟨v2, rfl, ?_, ?_⟩
  · rw [bc_append, ← strCells_bc]
    exact hown1
  · exact hB.grown hgrow1 (by have := hB.size; omega) (fun k hk => (ho.lt _ hk).1)

theorem putText_any (s : ByteArray) (hs : s.size ≤ 1000000000) (w : World) : Calls Try.prog 31 #[.string s] w (Put (enc7 s.size ++ s.data.toList) w) := by
  have c := fun W (h : w.heap.size ≤ W.heap.size) => appendText_any w.heap.size s (.slice none 0 0) [] hs (by simp) W h (World.ownsRow_nil W _ 5 1)
  go_enter Try.func31, Try.ntmps31
  go_wp2_with fail
  refine (c _ (Nat.le_refl _)).mono ?_
  rintro e w1 ⟨v, rfl, ho, hb⟩
  go_wp2
  go_ret
  refine ⟨v, rfl, ?_, hb⟩
  have e1 : (enc7 s.size ++ s.data.toList).length = 0 + (enc7 s.size).length + s.size := by rw [List.length_append, Array.length_toList, Nat.zero_add]; rfl
  rw [e1]
  simpa using ho
end Pu
end Go.Proofs.Ytibhldifmneboaa
