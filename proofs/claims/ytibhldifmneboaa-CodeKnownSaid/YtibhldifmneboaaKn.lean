/- CodeKnown, walked: the chapter's examples and limits. -/
import Derived.Test.YtibhldifmneboaaCo
set_option linter.unusedVariables false
set_option linter.unusedSimpArgs false
namespace Go.Proofs.Ytibhldifmneboaa
open Go Go.RowKit Go.Sort Cd Rd
namespace Pu

theorem enc_max : enc7 18446744073709551615 = [255, 255, 255, 255, 255, 255, 255, 255, 255, 1] := by
  rw [enc7_big (by decide)]; simp only [Nat.reduceDiv, Nat.reduceMod, Nat.reduceAdd]
  rw [enc7_big (by decide)]; simp only [Nat.reduceDiv, Nat.reduceMod, Nat.reduceAdd]
  rw [enc7_big (by decide)]; simp only [Nat.reduceDiv, Nat.reduceMod, Nat.reduceAdd]
  rw [enc7_big (by decide)]; simp only [Nat.reduceDiv, Nat.reduceMod, Nat.reduceAdd]
  rw [enc7_big (by decide)]; simp only [Nat.reduceDiv, Nat.reduceMod, Nat.reduceAdd]
  rw [enc7_big (by decide)]; simp only [Nat.reduceDiv, Nat.reduceMod, Nat.reduceAdd]
  rw [enc7_big (by decide)]; simp only [Nat.reduceDiv, Nat.reduceMod, Nat.reduceAdd]
  rw [enc7_big (by decide)]; simp only [Nat.reduceDiv, Nat.reduceMod, Nat.reduceAdd]
  rw [enc7_big (by decide)]; simp only [Nat.reduceDiv, Nat.reduceMod, Nat.reduceAdd]
  rw [enc7_small (by decide)]
  decide
theorem enc_299 : enc7 (zig (-150)) = [171, 2] := by
  have e : zig (-150) = 299 := by decide
  rw [e, enc7_big (by decide), enc7_small (by decide)]
  decide
theorem put_ab : putT ⟨#[97, 98]⟩ = [2, 97, 98] := by
  unfold putT
  have e : (⟨#[97, 98]⟩ : ByteArray).size = 2 := rfl
  rw [e, enc7_small (by decide)]
  decide
theorem num_1 : number [128] = .no 1 4 := by rfl
theorem num_2 : number [128, 0] = .no 1 3 := by rfl
theorem num_3 : number [255, 255, 255, 255, 255, 255, 255, 255, 255, 2] = .no 9 3 := by rfl
theorem val_1 : value [5, 129, 8] = .no 1 2 := by rfl
theorem val_2 : value [3, 128, 32] = .no 1 2 := by rfl
theorem val_3 : valueAll [0, 0] = .no 1 3 := by rfl
def lst3 : List Nd := [{ kind := 5, kids := 2 }, { kind := 2, int := 1 }, {}]
theorem right3 : Right lst3 := by
  refine ⟨?_, by decide, by decide, ?_, by decide, by decide⟩
  · intro x hx
    simp only [lst3, List.mem_cons, List.not_mem_nil, or_false] at hx
    rcases hx with rfl | rfl | rfl
    · exact .inr (.inr (.inr (.inr (.inr ⟨2, by omega, rfl⟩))))
    · exact .inr (.inr (.inl ⟨1, by omega, by omega, rfl⟩))
    · exact .inl rfl
  · intro j hj
    have : j < 3 := hj
    rcases (by omega : j = 0 ∨ j = 1 ∨ j = 2) with rfl | rfl | rfl <;> decide
theorem put3 : putL lst3 = [5, 2, 2, 2, 0] := by
  have e : zig 1 = 2 := by decide
  simp only [putL, lst3, List.flatMap_cons, List.flatMap_nil, put1]
  simp [e, enc7_small]

/-- a literal of bytes, read -/
theorem lit_row (w : World) (l : List UInt8) : Bs (w.alloc (.cells (bc l).toArray 5)) (some ⟨w.heap.size, 0, none⟩) l := fun _ => ⟨_, rfl, fun j u hu => by
  have h0 : (w.alloc (.cells (bc l).toArray 5)).heap[w.heap.size]? = some (.cells (bc l).toArray 5) := heap_alloc_new w _
  have : (⟨w.heap.size, 0, none⟩ : Addr).add j = ⟨w.heap.size, j, none⟩ := by
    cases j <;> simp [Addr.add]
  rw [this]
  simp only [World.cell?, h0]
  simp [bc, hu]⟩

theorem rd1 (W : World) : Calls Try.prog 33 #[.slice (some ⟨W.heap.size, 0, none⟩) 1 1] (W.alloc (.cells #[.int .u8 128] 5)) fun e w' => e = .returned (.tuple #[.int .u64 0, .int .i64 1, .int .i64 4]) ∧ Below W.heap.size W w' := by
  have h := ReadUint_any (some ⟨W.heap.size, 0, none⟩) 1 1 [128] (by omega) (by omega) rfl _ (lit_row W [128])
  rw [num_1] at h
  exact h.mono fun e w' ⟨h1, h2⟩ => ⟨h2, ((Below.refl _ W).alloc (Nat.le_refl _) _).trans (h1.mono (by simp))⟩
theorem rd2 (W : World) : Calls Try.prog 33 #[.slice (some ⟨W.heap.size, 0, none⟩) 2 2] (W.alloc (.cells #[.int .u8 128, .int .u8 0] 5)) fun e w' => e = .returned (.tuple #[.int .u64 0, .int .i64 1, .int .i64 3]) ∧ Below W.heap.size W w' := by
  have h := ReadUint_any (some ⟨W.heap.size, 0, none⟩) 2 2 [128, 0] (by omega) (by omega) rfl _ (lit_row W [128, 0])
  rw [num_2] at h
  exact h.mono fun e w' ⟨h1, h2⟩ => ⟨h2, ((Below.refl _ W).alloc (Nat.le_refl _) _).trans (h1.mono (by simp))⟩
theorem rv1 (W : World) : Calls Try.prog 40 #[.slice (some ⟨W.heap.size, 0, none⟩) 3 3] (W.alloc (.cells #[.int .u8 5, .int .u8 129, .int .u8 8] 5)) fun e w' => e = .returned (.tuple #[.slice none 0 0, .int .i64 1, .int .i64 2]) ∧ Below W.heap.size W w' := by
  have h := ReadValue_any (some ⟨W.heap.size, 0, none⟩) 3 3 [5, 129, 8] (by omega) (by omega) rfl _ (lit_row W [5, 129, 8])
  rw [val_1] at h
  exact h.mono fun e w' ⟨h1, h2⟩ => ⟨h1, ((Below.refl _ W).alloc (Nat.le_refl _) _).trans (h2.mono (by simp))⟩
theorem rv2 (W : World) : Calls Try.prog 40 #[.slice (some ⟨W.heap.size, 0, none⟩) 3 3] (W.alloc (.cells #[.int .u8 3, .int .u8 128, .int .u8 32] 5)) fun e w' => e = .returned (.tuple #[.slice none 0 0, .int .i64 1, .int .i64 2]) ∧ Below W.heap.size W w' := by
  have h := ReadValue_any (some ⟨W.heap.size, 0, none⟩) 3 3 [3, 128, 32] (by omega) (by omega) rfl _ (lit_row W [3, 128, 32])
  rw [val_2] at h
  exact h.mono fun e w' ⟨h1, h2⟩ => ⟨h1, ((Below.refl _ W).alloc (Nat.le_refl _) _).trans (h2.mono (by simp))⟩
theorem rv3 (W : World) : Calls Try.prog 43 #[.slice (some ⟨W.heap.size, 0, none⟩) 2 2] (W.alloc (.cells #[.int .u8 0, .int .u8 0] 5)) fun e w' => e = .returned (.tuple #[.slice none 0 0, .int .i64 1, .int .i64 3]) ∧ Below W.heap.size W w' := by
  have h := ReadAll_any (some ⟨W.heap.size, 0, none⟩) 2 2 [0, 0] (by omega) (by omega) rfl _ (lit_row W [0, 0])
  rw [val_3] at h
  exact h.mono fun e w' ⟨h1, h2⟩ => ⟨h1, ((Below.refl _ W).alloc (Nat.le_refl _) _).trans (h2.mono (by simp))⟩
def lit15 : Array Value := #[.int .u8 5, .int .i64 2, .int .i64 0, .string ⟨#[]⟩, .complex .f64 0 0, .int .u8 2, .int .i64 0, .int .i64 1, .string ⟨#[]⟩, .complex .f64 0 0, .int .u8 0, .int .i64 0, .int .i64 0, .string ⟨#[]⟩, .complex .f64 0 0]
theorem pv (W : World) : Calls Try.prog 45 #[.slice (some ⟨W.heap.size, 0, none⟩) 3 3] (W.alloc (.cells lit15 37)) fun e w' => ∃ A c, e = .returned (.tuple #[.slice A 5 c, .int .i64 0]) ∧ Bs w' A [5, 2, 2, 2, 0] ∧ Below W.heap.size W w' := by
  have h0 : (W.alloc (.cells lit15 37)).heap[W.heap.size]? = some (.cells lit15 37) := heap_alloc_new W _
  have hown : (W.alloc (.cells lit15 37)).ownsRow 0 37 5 (.slice (some ⟨W.heap.size, 0, none⟩) lst3.length 3) lst3.length (nds lst3) :=
    ⟨rfl, .inr ⟨W.heap.size, 3, lit15, rfl, Nat.zero_le _, h0, by decide, by unfold maxLen; omega, rfl, rfl⟩⟩
  refine (putValue_any W.heap.size 3 lst3 right3 _ hown (by simp)).mono ?_
  rintro e w' ⟨v, rfl, ho, hb⟩
  obtain ⟨A, n, c, h3, hn, hc, hbs, -⟩ := Put.row (w := W.alloc (.cells lit15 37)) ⟨v, rfl, ho, hb⟩
  injection h3 with h3
  subst h3
  have hn := hn.out
  rw [put3] at hn hbs
  subst hn
  exact ⟨A, c, rfl, hbs, ((Below.refl _ W).alloc (Nat.le_refl _) _).trans (hb.mono (by simp))⟩

theorem own_bs {w : World} {base : Nat} {v : Value} {l : List UInt8} (ho : w.ownsRow base 5 1 v l.length (bc l)) : ∃ A c, v = .slice A l.length c ∧ l.length ≤ c ∧ Bs w A l := by
  rcases ho.2 with ⟨rfl, h0⟩ | ⟨g, cap, cur, rfl, hg, hh, hc, hm, hs, ht⟩
  · rw [h0]
    exact ⟨none, 0, rfl, Nat.le_refl _, fun hx => by omega⟩
  · refine ⟨some ⟨g, 0, none⟩, cap, rfl, hc, fun hx => ⟨_, rfl, fun j u hu => ?_⟩⟩
    refine ho.cells (g := g) rfl j _ ?_
    simp [bc, hu]

set_option maxHeartbeats 2000000 in
set_option maxRecDepth 100000 in
theorem codeKnown_any (w : World) : Calls Try.prog 9 #[] w (Tr w) := by
  have ca := fun W => awake_any W
  have c0 := fun W => putUint_any 18446744073709551615 (by decide) W
  have cI := fun W => putIntB (-150) (by omega) (by omega) W
  have cT := fun W => putTextB ⟨#[97, 98]⟩ (by decide) W
  rw [enc_max] at c0
  rw [enc_299] at cI
  rw [put_ab] at cT
  obtain ⟨i0, hi, hz0, hz1, hz2⟩ := info_parts (P := Try.prog) (e := 5) (z := .int .u8 0) (size := 1) (bytes := 1) (by rfl)
  go_enter Try.func9, Try.ntmps9
  go_wp2_with fail
  refine (c0 _).mono ?_
  rintro e w1 ⟨v, rfl, ho, b1⟩
  obtain ⟨g, cap, cur, rfl, hgw, hg, hcap, hcm, hcs, htk⟩ : ∃ g cap cur, v = .slice (some ⟨g, 0, none⟩) 10 cap ∧ w.heap.size ≤ g ∧ w1.heap[g]? = some (.cells cur 5 (0, 0)) ∧ 10 ≤ cap ∧ cap ≤ maxLen ∧ cur.size = cap * 1 ∧ cur.toList.take (10 * 1) = bc [255, 255, 255, 255, 255, 255, 255, 255, 255, 1] := by
    rcases ho.2 with ⟨_, h0⟩ | h
    · simp at h0
    · exact h
  clear ho
  go_wp2_with fail
  refine (rd1 _).mono ?_
  rintro e w2 ⟨rfl, b2⟩
  go_wp2_with fail
  refine (rd2 _).mono ?_
  rintro e w3 ⟨rfl, b3⟩
  have hg3 : w3.heap[g]? = some (.cells cur 5 (0, 0)) := by
    have l1 := (Array.getElem?_eq_some_iff.1 hg).1
    rw [b3.block g (Nat.lt_of_lt_of_le l1 b2.size), b2.block g l1]
    exact hg
  have B3 := (b1.trans (b2.mono b1.size)).trans (b3.mono (Nat.le_trans b1.size b2.size))
  have own9 : w3.ownsRow w.heap.size 5 1 (.slice (some ⟨g, 0, none⟩) 9 cap) 9 (bc [255, 255, 255, 255, 255, 255, 255, 255, 255]) := by
    refine ⟨rfl, .inr ⟨g, cap, cur, rfl, hgw, hg3, by omega, hcm, hcs, ?_⟩⟩
    have := congrArg (List.take 9) htk
    rw [List.take_take] at this
    exact this
  clear hg hg3 htk hcs hcm
  have h9 : (9 : Int) ≤ cap := by omega
  go_wp2_with (at_builtin; refine wpList_append_own _ rfl _ _ 44 rfl w.heap.size 5 i0 (.int .u8 0) 1 1 Try.underlying44 hi hz0 hz1 hz2 rfl (by decide) _ _ _ rfl (own9.alloc _) ⟨_, 0, none⟩ 1 1 [.int .u8 2] rfl rfl (one_cell _ _ rfl) (one_one _) (by unfold maxLen; omega) (by omega) (by have := B3.size; simp; omega) ?_)
  intro v4 w4 own10 hgrow4 _
  have B4 : Below w.heap.size w w4 := (B3.alloc B3.size _).grown hgrow4 (by have := B3.size; simp; omega) (fun k hk => (own9.lt _ hk).1)
  obtain ⟨A4, c4, rfl, hc4, hb4⟩ := own_bs (l := [255, 255, 255, 255, 255, 255, 255, 255, 255, 2]) own10
  have r4 := ReadUint_any A4 10 c4 [255, 255, 255, 255, 255, 255, 255, 255, 255, 2] (by omega) hc4 rfl w4 hb4
  rw [num_3] at r4
  have lz : ([255, 255, 255, 255, 255, 255, 255, 255, 255, 2] : List UInt8).length = 10 := rfl
  clear own9 own10 hgrow4 B3
  go_wp2_with fail
  refine r4.mono ?_
  rintro e w5 ⟨b5, rfl⟩
  have B5 := B4.trans (b5.mono B4.size)
  clear b5 B4 hb4 r4
  go_wp2_with fail
  refine (rv1 _).mono ?_
  rintro e w6 ⟨rfl, b6⟩
  have B6 := B5.trans (b6.mono B5.size)
  clear b6 B5
  go_wp2_with fail
  refine (rv2 _).mono ?_
  rintro e w7 ⟨rfl, b7⟩
  have B7 := B6.trans (b7.mono B6.size)
  clear b7 B6
  go_wp2_with fail
  refine (rv3 _).mono ?_
  rintro e w8 ⟨rfl, b8⟩
  have B8 := B7.trans (b8.mono B7.size)
  clear b8 B7
  go_wp2_with fail
  refine (pv _).mono ?_
  rintro e w9 ⟨A9, c9, rfl, hb9, b9⟩
  have B9 := B8.trans (b9.mono B8.size)
  clear b9 B8
  go_wp2_with fail
  refine (ca _).mono ?_
  rintro e w10 ⟨rfl, b10⟩
  have B10 := B9.trans (b10.mono B9.size)
  have hb10 := (bs_keep hb9 b10).conv c9
  have ln9 : ([5, 2, 2, 2, 0] : List UInt8).length = 5 := rfl
  rw [ln9] at hb10
  have e9 : ((⟨[5, 2, 2, 2, 0].toArray⟩ : ByteArray).toList == (⟨#[5, 2, 2, 2, 0]⟩ : ByteArray).toList) = true := by simp
  clear b10 B9 hb9
  go_wp2_with fail
  refine (cI _).mono ?_
  rintro e w11 ⟨A11, n11, c11, rfl, hn11, hc11, hb11, b11⟩
  obtain rfl : n11 = 2 := hn11.out
  have B11 := B10.trans (b11.mono B10.size)
  have hv11 := hb11.conv c11
  have ln11 : ([171, 2] : List UInt8).length = 2 := rfl
  rw [ln11] at hv11
  clear b11 B10 hb11 hn11
  go_wp2_with fail
  refine (cT _).mono ?_
  rintro e w12 ⟨A12, n12, c12, rfl, hn12, hc12, hb12, b12⟩
  obtain rfl : n12 = 3 := hn12.out
  have B12 := B11.trans (b12.mono B11.size)
  have hv12 := hb12.conv c12
  have ln12 : ([2, 97, 98] : List UInt8).length = 3 := rfl
  rw [ln12] at hv12
  clear b12 B11 hb12 hn12
  go_wp2
  go_ret
  exact ⟨rfl, B12⟩
end Pu
end Go.Proofs.Ytibhldifmneboaa
