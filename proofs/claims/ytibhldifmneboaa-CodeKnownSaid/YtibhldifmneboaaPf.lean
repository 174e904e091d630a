/- Plain: no number's bytes begin another one's; whole numbers' and texts' neither; a greater number has no fewer bytes. -/
import Derived.Test.YtibhldifmneboaaPv
set_option linter.unusedVariables false
set_option linter.unusedSimpArgs false
namespace Go.Proofs.Ytibhldifmneboaa
open Go Go.RowKit Cd Rd
namespace Pu

theorem pre_enc {a b : Nat} (ha : a < 18446744073709551616) (hb : b < 18446744073709551616) : pre (enc7 a) (enc7 b) = ((a : Int) == (b : Int)) := by
  rw [Bool.eq_iff_iff, pre_eq, beq_iff_eq]
  constructor
  · rintro ⟨r, h⟩
    have h1 := number_enc7 a ha []
    have h2 := number_enc7 b hb r
    rw [h, ← List.append_nil (enc7 a), h1] at h2
    injection h2 with h3
    rw [h3]
  · intro h
    obtain rfl : a = b := by omega
    exact List.prefix_refl _

theorem enc7_mono : ∀ (a b : Nat), a ≤ b → (enc7 a).length ≤ (enc7 b).length := by
  intro a
  induction a using Nat.strongRecOn with
  | ind a ih =>
    intro b h
    by_cases c : a < 128
    · rw [enc7_small c]
      by_cases d : b < 128
      · rw [enc7_small d]; simp
      · rw [enc7_big d]; simp
    · rw [enc7_big c, enc7_big (n := b) (by omega), List.length_cons, List.length_cons]
      have := ih (a / 128) (by omega) (b / 128) (by omega)
      omega

theorem unzig_zig {x : Int} : Bt.unzig (zig x) = x := by
  unfold Bt.unzig zig
  by_cases h : 0 ≤ x
  · rw [if_pos h]; split <;> omega
  · rw [if_neg h]; split <;> omega
theorem pre_zig {i k : Int} (h0 : -9223372036854775808 ≤ i) (h1 : i < 9223372036854775808) (h2 : -9223372036854775808 ≤ k) (h3 : k < 9223372036854775808) : pre (enc7 (zig i)) (enc7 (zig k)) = (i == k) := by
  rw [pre_enc (zig_lt h0 h1) (zig_lt h2 h3), Bool.eq_iff_iff, beq_iff_eq, beq_iff_eq]
  constructor
  · intro h
    have h' : zig i = zig k := by omega
    rw [← unzig_zig (x := i), h', unzig_zig]
  · intro h; rw [h]

theorem enc7_pos (n : Nat) : 1 ≤ (enc7 n).length := by
  by_cases c : n < 128
  · rw [enc7_small c]; simp
  · rw [enc7_big c]; simp

/-- a text's bytes -/
def putT (s : ByteArray) : List UInt8 := enc7 s.size ++ s.data.toList
theorem putT_len (s : ByteArray) : (putT s).length = (enc7 s.size).length + s.size := by
  unfold putT; rw [List.length_append, Array.length_toList]; rfl
theorem text_put (s : ByteArray) (hs : s.size < 18446744073709551616) (r : List UInt8) : text (putT s ++ r) = .ok s (putT s).length := by
  unfold text
  have h1 : putT s ++ r = enc7 s.size ++ (s.data.toList ++ r) := by unfold putT; rw [List.append_assoc]
  rw [h1, number_enc7 _ hs]
  simp only [List.drop_left]
  unfold bytesR
  have hl : s.data.toList.length = s.size := by rw [Array.length_toList]; rfl
  rw [if_neg (by rw [List.length_append, hl]; omega), Out.shift, ← hl, List.take_left, putT_len]
  simp only [Array.toArray_toList, hl]
theorem text_put' (s : ByteArray) (hs : s.size < 18446744073709551616) : text (putT s) = .ok s (putT s).length := by
  have := text_put s hs []
  rwa [List.append_nil] at this
theorem pre_text {s t : ByteArray} (hs : s.size < 18446744073709551616) (ht : t.size < 18446744073709551616) : pre (putT s) (putT t) = (s.toList == t.toList) := by
  rw [Bool.eq_iff_iff, pre_eq, beq_iff_eq, ByteArray.toList_eq, ByteArray.toList_eq]
  constructor
  · rintro ⟨r, h⟩
    have h1 := text_put t ht r
    rw [h, text_put' s hs] at h1
    injection h1 with h2
    rw [h2]
  · intro h
    have : s = t := by
      cases s; cases t
      simpa using h
    rw [this]
    exact List.prefix_refl _

theorem putTextB (s : ByteArray) (hs : s.size ≤ 1000000000) (w : World) : Calls Try.prog 31 #[.string s] w (PutB (putT s) w) := (putText_any s hs w).mono fun _ _ h => h.row
theorem putIntB (x : Int) (h0 : -9223372036854775808 ≤ x) (h1 : x < 9223372036854775808) (w : World) : Calls Try.prog 28 #[.int .i64 x] w (PutB (enc7 (zig x)) w) := (putInt_any x h0 h1 w).mono fun _ _ h => h.row
theorem putUintB (n : Nat) (h : n < 18446744073709551616) (w : World) : Calls Try.prog 26 #[.int .u64 n] w (PutB (enc7 n) w) := (putUint_any n h w).mono fun _ _ h => h.row

/-- the row's end -/
def Tr (w : World) (e : Ending) (w' : World) : Prop := e = .returned (.bool true) ∧ Below w.heap.size w w'
theorem heap_drewN (w : World) (k : Nat) : (w.drewN k).heap = w.heap := rfl
theorem below_drew {w w1 : World} {B : Nat} (h : Below B w w1) (k : Nat) : Below B w (w1.drewN k) := ⟨h.os, h.tape, h.output, h.size, h.block⟩

end Pu
end Go.Proofs.Ytibhldifmneboaa
