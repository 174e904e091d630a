/- value.measure, at lists of good nodes. -/
import Derived.Test.YtibhldifmneboaaNg
set_option linter.unusedVariables false
set_option linter.unusedSimpArgs false
namespace Go.Proofs.Ytibhldifmneboaa
open Go Go.RowKit Go.Shelf
namespace Rd
open Cd Pl Fl
attribute [local go_sem] st_complex'
attribute [local go_sem] Oper.semAt_some

/-- a node's block -/
def NBox (W : World) (B : Nat) (x : Nd) : Prop := W.heap[B]? = some (.cells #[.int .u8 x.kind, .int .i64 x.kids, .int .i64 x.int, .string x.text, .complex .f64 x.num.1 x.num.2] 37 (0, 0))
theorem NBox.cells {W : World} {B : Nat} {x : Nd} (h : NBox W B x) : W.cell? ⟨B, 0, none⟩ = some (.int .u8 x.kind) ∧ W.cell? ⟨B, 1, none⟩ = some (.int .i64 x.kids) ∧ W.cell? ⟨B, 2, none⟩ = some (.int .i64 x.int) ∧ W.cell? ⟨B, 3, none⟩ = some (.string x.text) ∧ W.cell? ⟨B, 4, none⟩ = some (.complex .f64 x.num.1 x.num.2) := by
  unfold NBox at h
  simp [World.cell?, h]
theorem NBox.lt {W : World} {B : Nat} {x : Nd} (h : NBox W B x) : B < W.heap.size := (Array.getElem?_eq_some_iff.1 h).1
theorem NBox.new (W : World) (x : Nd) : NBox (W.alloc (.cells #[.int .u8 x.kind, .int .i64 x.kids, .int .i64 x.int, .string x.text, .complex .f64 x.num.1 x.num.2] 37)) W.heap.size x := World.alloc_heap_new W _
theorem nbox_own {β : Type} (B : Nat) (x : Nd) : Own (fun (_ : β) W => NBox W B x) := by
  intro s W W' row h hg hr
  have hne : some B ≠ row := by
    intro e
    obtain ⟨o, ho, hc⟩ := hr B e.symm
    rw [h] at ho
    injection ho with ho
    rw [← ho] at hc
    cases hc
  exact (hg.block B (Array.getElem?_eq_some_iff.1 h).1 hne).trans h

def szN (x : Nd) : Int := 1 + x.text.size
def msum (l : List GN) : Int := (l.map fun x => szN x.1.1).sum
theorem msum_snoc (l : List GN) (x : GN) : msum (l ++ [x]) = msum l + (1 + (x.1.1.text.size : Int)) := by simp [msum, szN]
theorem msum_bound (l : List GN) : 0 ≤ msum l ∧ msum l ≤ 4097 * l.length := by
  induction l with
  | nil => simp [msum]
  | cons x r ih =>
    have e : msum (x :: r) = 1 + (x.1.1.text.size : Int) + msum r := by simp [msum, szN]
    have := (good_kids x.2).2.2.2
    rw [e, List.length_cons]
    omega

set_option maxRecDepth 100000 in
set_option maxHeartbeats 2000000 in
theorem measure_in (F : Fence) (n : Nat) (h83 : F.fn 83) (h81 : F.fn 81) (h95 : F.fn 95) (hro : F.round = none) (hn : 3 ≤ n) (b cap : Nat) (xs : List Nd) (hlen : xs.length ≤ 1024) (hg : ∀ x ∈ xs, Nd.good x) (w : World)
    (hI : w.ownsRow 0 37 5 (.slice (some ⟨b, 0, none⟩) xs.length cap) xs.length (nds xs)) (hbw : b < w.heap.size) :
    CallsIn F n Try.prog 83 #[.slice (some ⟨b, 0, none⟩) xs.length cap] w fun e W' => e = .returned (.int .i64 (msum (upto (nodeG xs hg) xs.length))) ∧ Below w.heap.size w W' := by
  have h1 : 1 ≤ n := by omega
  refine callsIn_of_wp_marks Try.func83 rfl h83 ?_ hro
  simp only [Try.ntmps83, List.size_toArray, List.length_cons, List.length_nil, Nat.reduceAdd, Nat.reduceSub, Array.replicate_succ, Array.replicate_zero, List.push_toArray, List.append_toArray, List.nil_append, List.cons_append]
  gi_wp2_with (gi_at_call 81; refine (nodes_in F (n - 1) h81 hro _ _ _ _).mono ?_; rintro e w' ⟨rfl, rfl⟩)
  have bS := (Boxed.new w 3 (.int .i64 0)).alloc (.cells #[.slice (some ⟨b, 0, none⟩) xs.length cap] 26)
  have bV := Boxed.new (w.alloc (.cells #[.int .i64 0] 3)) 26 (.slice (some ⟨b, 0, none⟩) xs.length cap)
  simp only [World.size_alloc] at bV
  have hB0 : Below w.heap.size w ((w.alloc (.cells #[.int .i64 0] 3)).alloc (.cells #[.slice (some ⟨b, 0, none⟩) xs.length cap] 26)) := ((Below.refl _ w).alloc (Nat.le_refl _) _).alloc (by simp) _
  have hsz : ((w.alloc (.cells #[.int .i64 0] 3)).alloc (.cells #[.slice (some ⟨b, 0, none⟩) xs.length cap] 26)).heap.size = w.heap.size + 2 := by simp
  obtain ⟨W0, hW0⟩ : ∃ W0, (w.alloc (.cells #[.int .i64 0] 3)).alloc (.cells #[.slice (some ⟨b, 0, none⟩) xs.length cap] 26) = W0 := ⟨_, rfl⟩
  rw [hW0] at bS bV hB0 hsz ⊢
  clear hW0
  refine wpIn_rangeFunc_ownH hro h1 (gf := 95) (lb := #[.pointer (some ⟨w.heap.size + 1, 0, none⟩)]) rfl h95 (enters_of Try.func95 (by kernel_rfl) rfl)
    (nodes_stops F (n - 1) h95 hro (by omega) (w.heap.size + 1) w.heap.size b cap xs hlen hg hbw W0 (by omega) (by omega) bV.cell (own_below hI hB0)) belowK_t (belowK_b (by omega)) (Below.refl _ _) (fun _ => rfl)
    (fun pre W => Boxed W w.heap.size 3 (.int .i64 (msum pre)) ∧ Below w.heap.size w W)
    (fun _ _ _ => False)
    (OwnFrom.and (Own.from (boxed_own _ _ _) _) (ownFrom_below (Nat.le_refl _) (by omega)))
    (fun _ _ _ _ _ hs _ _ => hs)
    ⟨bS, hB0⟩
    (fun x a' W => ∃ Bx, w.heap.size < Bx ∧ NBox W Bx x.1.1 ∧ a' = { tmps := #[.slice (some ⟨b, 0, none⟩) xs.length cap, undef, .int .i64 0, .pointer (some ⟨w.heap.size, 0, none⟩), .pointer (some ⟨Bx, 0, none⟩), .slice (some ⟨b, 0, none⟩) xs.length cap, .func (.func 95) #[] #[.pointer (some ⟨w.heap.size + 1, 0, none⟩)], .agg #[.int .u8 x.1.1.kind, .int .i64 x.1.1.kids, .int .i64 x.1.1.int, .string x.1.1.text, .complex .f64 x.1.1.num.1 x.1.1.num.2], .int .i64 x.1.2, undef, undef, undef, undef, undef, undef, undef], defers := [] })
    (fun x a' _ X Y row hs hg hr => by obtain ⟨Bx, h1, h2, h3⟩ := hs; exact ⟨Bx, h1, nbox_own Bx x.1.1 () X Y row h2 hg (fun r e => (hr r e).2), h3⟩)
    ?assign ?body ?done ?stop
  case assign =>
    rintro l pre x W K ⟨bS1, hB1⟩ hK
    dsimp only [encN]
    gi_wp2
    exact hK _ _ ((KeepsOthers.alloc _ _).from _) ((Below.refl _ W).alloc hB1.size _) ⟨bS1.alloc _, hB1.alloc hB1.size _⟩ ⟨W.heap.size, bS1.lt, NBox.new W _, rfl⟩
  case body =>
    rintro l pre x a' W hl ⟨r, hr⟩ ⟨bS1, hB1⟩ ⟨Bx, hBx, bX, rfl⟩ hlt
    have cS := bS1.cell
    have fS := bS1.frozen
    obtain ⟨-, -, -, c3, -⟩ := bX.cells
    have m1 := msum_bound pre
    have m2 := (good_kids x.2).2.2.2
    have m3 : pre.length ≤ 1024 := by omega
    have m4 : (x.1.1.text.size : Int) ≤ 4096 := by omega
    have HS := Lib.hid (msum_snoc pre x)
    generalize msum pre = M at *
    gi_wp2
    refine ⟨(KeepsOthers.setCell _ _ _).from _, (Below.refl _ W).setCell (p := ⟨w.heap.size, 0, none⟩) (Nat.le_refl _) _, ?_, hB1.setCell (p := ⟨w.heap.size, 0, none⟩) (Nat.le_refl _) _⟩
    rw [HS.out]
    exact bS1.set _
  case done =>
    rintro D ys W hD rfl ⟨bS1, hB1⟩ hK
    have cS := bS1.cell
    gi_wp2
    refine ⟨by simp, .inl ⟨_, _, rfl, run_takeDeferred hK, ?_⟩⟩
    exact ⟨_, results_tmp rfl _ _ _, rfl, hB1.trans (belowK_b (w := w) (Nat.le_refl _) W D _ _ (by omega) hK rfl rfl)⟩
  case stop =>
    rintro D c pre W _ _ h _
    exact h.elim

theorem measure_any (b cap : Nat) (xs : List Nd) (hlen : xs.length ≤ 1024) (hg : ∀ x ∈ xs, Nd.good x) (w : World)
    (hI : w.ownsRow 0 37 5 (.slice (some ⟨b, 0, none⟩) xs.length cap) xs.length (nds xs)) (hbw : b < w.heap.size) :
    Calls Try.prog 83 #[.slice (some ⟨b, 0, none⟩) xs.length cap] w fun e W' => e = .returned (.int .i64 (msum (upto (nodeG xs hg) xs.length))) ∧ Below w.heap.size w W' :=
  (callsIn_wide (n := 3)).1 (measure_in Fence.wide 3 trivial trivial trivial rfl (by omega) b cap xs hlen hg w hI hbw)
end Rd
end Go.Proofs.Ytibhldifmneboaa
