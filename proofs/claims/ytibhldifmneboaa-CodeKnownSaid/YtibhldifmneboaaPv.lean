/- begins and awake of the statements' package; what the writers hand out, as rows that are read. -/
import Derived.Test.YtibhldifmneboaaPu
import Derived.Test.YtibhldifmneboaaRw
import Derived.Test.YtibhldifmneboaaRr
set_option linter.unusedVariables false
set_option linter.unusedSimpArgs false
namespace Go.Proofs.Ytibhldifmneboaa
open Go Go.RowKit Cd Rd
namespace Pu

theorem bs_keep {w w' : World} {A : Option Addr} {l : List UInt8} (h : Bs w A l) (hb : Below w.heap.size w w') : Bs w' A l := fun hx => by
  obtain ⟨ad, e, hc⟩ := h hx
  refine ⟨ad, e, fun j u hu => ?_⟩
  have h1 := hc j u hu
  have h2 : (ad.add j).block < w.heap.size := by
    rcases Nat.lt_or_ge (ad.add j).block w.heap.size with k | k
    · exact k
    · rw [World.cell?, Array.getElem?_eq_none k] at h1
      simp at h1
  rw [hb.cell h2]
  exact h1

/-- what the writers hand out: a row that can be read -/
def PutB (l : List UInt8) (w : World) (e : Ending) (w' : World) : Prop :=
  ∃ A n c, e = .returned (.slice A n c) ∧ Hid (n = l.length) ∧ n ≤ c ∧ Bs w' A l ∧ Below w.heap.size w w'

theorem Put.row {l : List UInt8} {w w' : World} {e : Ending} (h : Put l w e w') : PutB l w e w' := by
  obtain ⟨v, rfl, ho, hb⟩ := h
  rcases ho.2 with ⟨rfl, h0⟩ | ⟨g, cap, cur, rfl, hg, hh, hc, hm, hs, ht⟩
  · refine ⟨none, 0, 0, rfl, h0.symm, Nat.le_refl _, fun hx => ?_, hb⟩
    omega
  · refine ⟨some ⟨g, 0, none⟩, _, cap, rfl, rfl, hc, fun hx => ⟨_, rfl, fun j u hu => ?_⟩, hb⟩
    refine ho.cells (g := g) rfl j _ ?_
    simp [bc, hu]

/-- is b the beginning of a -/
def pre (a b : List UInt8) : Bool := decide (b.length ≤ a.length) && (a.take b.length == b)
theorem pre_eq {a b : List UInt8} : pre a b = true ↔ b <+: a := by
  unfold pre
  constructor
  · intro h
    simp only [Bool.and_eq_true, decide_eq_true_eq, beq_iff_eq] at h
    rw [← h.2]
    exact List.take_prefix _ _
  · intro h
    simp only [Bool.and_eq_true, decide_eq_true_eq, beq_iff_eq]
    exact ⟨h.length_le, (List.prefix_iff_eq_take.1 h).symm⟩

set_option maxRecDepth 100000 in
theorem begins_any (A B : Option Addr) (n m c d : Nat) (a b : List UInt8) (hn : n ≤ 1000000000) (hm : m ≤ 1000000000) (hc : n ≤ c) (hd : m ≤ d) (ha : n = a.length) (hb : m = b.length) (w : World) (h1 : Bs w A a) (h2 : Bs w B b) :
    Calls Try.prog 27 #[.slice A n c, .slice B m d] w fun e w' => e = .returned (.bool (pre a b)) ∧ ∃ k, w' = w.drewN k := by
  have wn := IntKind.wrap_i64 (n : Int)
  by_cases hl : m ≤ n
  · have hg : decide ((m : Int) ≤ (n : Int)) = true := by simp; omega
    have hcv1 : ∀ k, (convert 44 9 (.slice B m d)).run Try.prog (w.drewN k) = .ok (.string ⟨b.toArray⟩) (w.drewN k) := by
      intro k
      have : Bs (w.drewN k) B b := h2
      rw [hb]
      exact this.conv d
    have hcv2 : ∀ k, (convert 44 9 (.slice (if c = 0 then A else A.map (·.add 0)) m c)).run Try.prog (w.drewN k) = .ok (.string ⟨(a.take m).toArray⟩) (w.drewN k) := by
      intro k
      have h1' : Bs (w.drewN k) A a := h1
      have := (h1'.cut (c := c) (p := 0) (k := m) (by omega) (by omega)).conv c
      have hl : ((a.drop 0).take m).length = m := by rw [List.length_take, List.length_drop]; omega
      rw [hl, List.drop_zero] at this
      exact this
    obtain ⟨i0, hi0, _, hsz0, _⟩ := info_parts info5
    have hsl : ∀ W : World, (Instr.slice 44 (.slice A n c) none (some (.int .i64 (m : Int))) none).run Try.prog W = .ok (.slice (if c = 0 then A else A.map (·.add 0)) m c) W := by
      intro W
      have hel : Try.prog.elem 44 = 5 := by simp [Program.elem, Try.underlying44]
      have hu : Try.prog.underlying 44 = some (.slice (Try.prog.elem 44)) := by rw [hel]; exact Try.underlying44
      rw [run_slice_h W 44 A n c hu .i64 m (by omega) (by omega), hel]
      simp [sizeOf, typeInfo, hi0, hsz0, sliced, Result.andThen]
    have hp : pre a b = ((⟨(a.take m).toArray⟩ : ByteArray).toList == (⟨b.toArray⟩ : ByteArray).toList) := by
      unfold pre
      rw [← ha, ← hb, decide_eq_true hl, Bool.true_and]
      rw [ByteArray.toList_eq, ByteArray.toList_eq]
    rw [hp]
    generalize (if c = 0 then A else A.map (·.add 0)) = A' at *
    generalize (⟨(a.take m).toArray⟩ : ByteArray) = S at *
    generalize (⟨b.toArray⟩ : ByteArray) = T at *
    have q0 : IntKind.i64.wrap (m : Int) = m := by rw [IntKind.wrap_i64]; omega
    have q1 : RowKit.wrap64 (m : Int) = m := by unfold RowKit.wrap64; omega
    have q2 : IntKind.i64.wrap (n : Int) = n := by rw [IntKind.wrap_i64]; omega
    clear hp ha hb h1 h2 hi0 hsz0 wn
    go_enter Try.func27, Try.ntmps27
    go_wp2
    go_quiet (fail)
    go_wp2
    go_ret
    exact ⟨rfl, _, rfl⟩
  · have hg : decide ((m : Int) ≤ (n : Int)) = false := by simp; omega
    have hp : pre a b = false := by
      unfold pre
      rw [decide_eq_false (by omega), Bool.false_and]
    rw [hp]
    have q0 : IntKind.i64.wrap (m : Int) = m := by rw [IntKind.wrap_i64]; omega
    have q2 : IntKind.i64.wrap (n : Int) = n := by rw [IntKind.wrap_i64]; omega
    clear hp ha hb h1 h2 wn
    go_enter Try.func27, Try.ntmps27
    go_wp2
    go_quiet (fail)
    go_wp2
    go_ret
    exact ⟨rfl, _, rfl⟩

theorem enc7_300 : enc7 300 = [172, 2] := by
  rw [enc7_big (by decide), enc7_small (by decide)]
  decide
theorem number_lit : number [172, 2, 7] = .ok 300 2 := by
  have := number_enc7 300 (by decide) [7]
  rw [enc7_300] at this
  exact this
theorem lit_bs (w : World) : Bs (w.alloc (.cells #[.int .u8 172, .int .u8 2, .int .u8 7] 5)) (some ⟨w.heap.size, 0, none⟩) [172, 2, 7] := fun _ => ⟨_, rfl, fun j u hu => by
  match j, hu with
  | 0, hu => simp at hu; subst hu; simp [Addr.add]
  | 1, hu => simp at hu; subst hu; simp [Addr.add]
  | 2, hu => simp at hu; subst hu; simp [Addr.add]
  | (j + 3), hu => simp at hu⟩

set_option maxRecDepth 100000 in
theorem awake_any (w : World) : Calls Try.prog 25 #[] w fun e w' => e = .returned (.bool true) ∧ Below w.heap.size w w' := by
  have c1 := ReadUint_any (some ⟨w.heap.size, 0, none⟩) 3 3 [172, 2, 7] (by omega) (by omega) rfl _ (lit_bs w)
  rw [number_lit] at c1
  have c2 := fun W => (putUint_any 300 (by decide) W)
  go_enter Try.func25, Try.ntmps25
  go_wp2_with fail
  refine c1.mono ?_
  rintro e w1 ⟨b1, rfl⟩
  go_wp2_with fail
  refine (c2 _).mono ?_
  rintro e w2 h2
  obtain ⟨A, n, c, rfl, hn', hc, hb, b2⟩ := h2.row
  clear h2
  have hn := hn'.out
  clear hn'
  rw [enc7_300] at hb hn
  obtain rfl : n = 2 := hn
  have cv := hb.conv c
  have e1 : Val64 300 = .int .u64 300 := rfl
  simp only [List.length_cons, List.length_nil] at cv
  have e3 : ((⟨#[172, 2]⟩ : ByteArray).toList == (⟨#[172, 2]⟩ : ByteArray).toList) = true := by simp
  go_wp2
  go_ret
  refine ⟨rfl, (((Below.refl _ w).alloc (Nat.le_refl _) (.cells #[.int .u8 172, .int .u8 2, .int .u8 7] 5)).trans (b1.mono ?_)).trans (b2.mono ?_)⟩
  · simp
  · have := b1.size; simp at this; omega
end Pu
end Go.Proofs.Ytibhldifmneboaa
