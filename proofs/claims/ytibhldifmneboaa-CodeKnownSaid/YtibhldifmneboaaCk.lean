/- value.Check, at right lists: it is OK. -/
import Derived.Test.YtibhldifmneboaaMs
set_option linter.unusedVariables false
set_option linter.unusedSimpArgs false
namespace Go.Proofs.Ytibhldifmneboaa
open Go Go.RowKit Go.Shelf
namespace Rd
open Cd Pl Fl
attribute [local go_sem] st_complex'
attribute [local go_sem] Oper.semAt_some

/-- a right list -/
structure Right (xs : List Nd) : Prop where
  good : ∀ x ∈ xs, Nd.good x
  len : xs.length ≤ 1024
  pos : 0 < xs.length
  open_ : ∀ j, j < xs.length → 0 < opn xs j
  shut : opn xs xs.length = 0
  size : (xs.map fun x => szN x).sum ≤ 4096

def lastO (pre : List GN) : Int := match pre.getLast? with | some x => x.1.2 | none => 1
theorem lastO_snoc (pre : List GN) (x : GN) : lastO (pre ++ [x]) = x.1.2 := by simp [lastO]

theorem upto_last {α : Type} {f : Nat → α} {k : Nat} {p : List α} {x : α} (h : upto f k = p ++ [x]) : k = p.length + 1 ∧ x = f p.length := by
  have h1 : k = p.length + 1 := by have := congrArg List.length h; rw [upto_length] at this; simpa using this
  subst h1
  rw [upto_succ] at h
  have := List.append_inj_right' h rfl
  injection this with h2
  exact ⟨rfl, h2.symm⟩
theorem upto_map {l : List Nd} (hg : ∀ x ∈ l, Nd.good x) : ∀ k, k ≤ l.length → (upto (nodeG l hg) k).map (fun x => x.1.1) = l.take k := by
  intro k
  induction k with
  | zero => intro _; simp [upto]
  | succ k ih =>
    intro h
    obtain ⟨x, hx⟩ : ∃ x, l[k]? = some x := ⟨_, List.getElem?_eq_getElem (by omega)⟩
    rw [upto_succ, List.map_append, ih (by omega), List.take_add_one, hx]
    show _ ++ [(nodeAt l k).1] = _
    unfold nodeAt
    rw [hx]
    rfl
theorem msum_all (l : List Nd) (hg : ∀ x ∈ l, Nd.good x) : msum (upto (nodeG l hg) l.length) = (l.map fun x => szN x).sum := by
  have h := upto_map hg l.length (Nat.le_refl _)
  rw [List.take_length] at h
  have e : msum (upto (nodeG l hg) l.length) = (((upto (nodeG l hg) l.length).map (fun x => x.1.1)).map szN).sum := by simp [msum, Function.comp_def]
  rw [e, h]
theorem boxed_below {W W' : World} {B : Nat} {t : TypeId} {v : Value} (h : Boxed W B t v) (hb : Below W.heap.size W W') : Boxed W' B t v := (hb.block B h.lt).trans h
theorem keeps_below {W W' : World} (hb : Below W.heap.size W W') : KeepsOthers W W' := ⟨hb.size, fun k o hk _ => (hb.block k (Array.getElem?_eq_some_iff.1 hk).1).trans hk⟩

set_option maxRecDepth 100000 in
set_option maxHeartbeats 2000000 in
theorem check_in (n : Nat) (hn : 4 ≤ n) (b cap : Nat) (xs : List Nd) (hr : Right xs) (w : World)
    (hI : w.ownsRow 0 37 5 (.slice (some ⟨b, 0, none⟩) xs.length cap) xs.length (nds xs)) (hbw : b < w.heap.size) :
    CallsIn Fence.wide n Try.prog 46 #[.slice (some ⟨b, 0, none⟩) xs.length cap] w fun e W' => e = .returned (.int .i64 0) ∧ Below w.heap.size w W' := by
  have h1 : 1 ≤ n := by omega
  have hl1 : (xs.length : Int) ≤ 1024 := by have := hr.len; omega
  have hld : decide (1024 < (xs.length : Int)) = false := by simp; omega
  have hlw : IntKind.i64.wrap (xs.length : Int) = xs.length := by rw [IntKind.wrap_i64]; omega
  refine callsIn_of_wp_marks Try.func46 rfl trivial ?_ rfl
  simp only [Try.ntmps46, List.size_toArray, List.length_cons, List.length_nil, Nat.reduceAdd, Nat.reduceSub, Array.replicate_succ, Array.replicate_zero, List.push_toArray, List.append_toArray, List.nil_append, List.cons_append]
  gi_wp2_with (refine ⟨trivial, ?_⟩; gi_at_call 81; refine (nodes_in Fence.wide (n - 1) trivial rfl _ _ _ _).mono ?_; rintro e w' ⟨rfl, rfl⟩)
  have bv : Boxed ((((w.alloc (.cells #[.slice (some ⟨b, 0, none⟩) xs.length cap] 26)).alloc (.cells #[.int .i64 0] 27)).alloc (.cells #[.int .i64 1] 3)).alloc (.cells #[.int .i64 0] 3)) w.heap.size 26 (.slice (some ⟨b, 0, none⟩) xs.length cap) := (((Boxed.new w 26 _).alloc _).alloc _).alloc _
  have be := (((Boxed.new (w.alloc (.cells #[.slice (some ⟨b, 0, none⟩) xs.length cap] 26)) 27 (.int .i64 0)).alloc (.cells #[.int .i64 1] 3)).alloc (.cells #[.int .i64 0] 3))
  have bl := (Boxed.new ((w.alloc (.cells #[.slice (some ⟨b, 0, none⟩) xs.length cap] 26)).alloc (.cells #[.int .i64 0] 27)) 3 (.int .i64 1)).alloc (.cells #[.int .i64 0] 3)
  have ba := Boxed.new (((w.alloc (.cells #[.slice (some ⟨b, 0, none⟩) xs.length cap] 26)).alloc (.cells #[.int .i64 0] 27)).alloc (.cells #[.int .i64 1] 3)) 3 (.int .i64 0)
  have bn := Boxed.new ((((w.alloc (.cells #[.slice (some ⟨b, 0, none⟩) xs.length cap] 26)).alloc (.cells #[.int .i64 0] 27)).alloc (.cells #[.int .i64 1] 3)).alloc (.cells #[.int .i64 0] 3)) 26 (.slice (some ⟨b, 0, none⟩) xs.length cap)
  replace bv := bv.alloc (.cells #[.slice (some ⟨b, 0, none⟩) xs.length cap] 26)
  replace be := be.alloc (.cells #[.slice (some ⟨b, 0, none⟩) xs.length cap] 26)
  replace bl := bl.alloc (.cells #[.slice (some ⟨b, 0, none⟩) xs.length cap] 26)
  replace ba := ba.alloc (.cells #[.slice (some ⟨b, 0, none⟩) xs.length cap] 26)
  simp only [World.size_alloc] at be bl ba bn
  have hB0 : Below w.heap.size w (((((w.alloc (.cells #[.slice (some ⟨b, 0, none⟩) xs.length cap] 26)).alloc (.cells #[.int .i64 0] 27)).alloc (.cells #[.int .i64 1] 3)).alloc (.cells #[.int .i64 0] 3)).alloc (.cells #[.slice (some ⟨b, 0, none⟩) xs.length cap] 26)) := (((((Below.refl _ w).alloc (Nat.le_refl _) _).alloc (by simp) _).alloc (by simp; omega) _).alloc (by simp; omega) _).alloc (by simp; omega) _
  have hsz : (((((w.alloc (.cells #[.slice (some ⟨b, 0, none⟩) xs.length cap] 26)).alloc (.cells #[.int .i64 0] 27)).alloc (.cells #[.int .i64 1] 3)).alloc (.cells #[.int .i64 0] 3)).alloc (.cells #[.slice (some ⟨b, 0, none⟩) xs.length cap] 26)).heap.size = w.heap.size + 5 := by simp
  obtain ⟨W0, hW0⟩ : ∃ W0, ((((w.alloc (.cells #[.slice (some ⟨b, 0, none⟩) xs.length cap] 26)).alloc (.cells #[.int .i64 0] 27)).alloc (.cells #[.int .i64 1] 3)).alloc (.cells #[.int .i64 0] 3)).alloc (.cells #[.slice (some ⟨b, 0, none⟩) xs.length cap] 26) = W0 := ⟨_, rfl⟩
  rw [hW0] at bv be bl ba bn hB0 hsz ⊢
  clear hW0
  refine wpIn_rangeFunc_ownH rfl h1 (gf := 95) (lb := #[.pointer (some ⟨w.heap.size + 1 + 1 + 1 + 1, 0, none⟩)]) rfl trivial (enters_of Try.func95 (by kernel_rfl) rfl)
    (nodes_stops Fence.wide (n - 1) trivial rfl (by omega) (w.heap.size + 1 + 1 + 1 + 1) w.heap.size b cap xs hr.len hr.good hbw W0 (by omega) (by omega) bn.cell (own_below hI hB0)) belowK_t (belowK_b (by omega)) (Below.refl _ _) (fun _ => rfl)
    (fun pre W => (Boxed W w.heap.size 26 (.slice (some ⟨b, 0, none⟩) xs.length cap) ∧ Boxed W (w.heap.size + 1) 27 (.int .i64 0) ∧ Boxed W (w.heap.size + 1 + 1) 3 (.int .i64 (lastO pre)) ∧ Boxed W (w.heap.size + 1 + 1 + 1) 3 (.int .i64 pre.length)) ∧ Below w.heap.size w W)
    (fun c pre _ => c = .ret ∧ ∃ (p : List GN) (x : GN), pre = p ++ [x] ∧ x.1.2 = 0 ∧ p.length + 1 < xs.length)
    (OwnFrom.and (OwnFrom.and (Own.from (boxed_own _ _ _) _) (OwnFrom.and (Own.from (boxed_own _ _ _) _) (OwnFrom.and (Own.from (boxed_own _ _ _) _) (Own.from (boxed_own _ _ _) _)))) (ownFrom_below (Nat.le_refl _) (by omega)))
    (fun _ _ _ _ _ hs _ _ => hs)
    ⟨⟨bv, be, bl, ba⟩, hB0⟩
    (fun x a' W => ∃ Bx, w.heap.size + 1 + 1 + 1 < Bx ∧ NBox W Bx x.1.1 ∧ a' = { tmps := #[.slice (some ⟨b, 0, none⟩) xs.length cap, .pointer (some ⟨w.heap.size, 0, none⟩), .pointer (some ⟨w.heap.size + 1, 0, none⟩), .pointer (some ⟨w.heap.size + 1 + 1, 0, none⟩), .pointer (some ⟨w.heap.size + 1 + 1 + 1, 0, none⟩), .pointer (some ⟨Bx, 0, none⟩), .int .i64 x.1.2, .slice (some ⟨b, 0, none⟩) xs.length cap, .int .i64 xs.length, .bool false, .slice (some ⟨b, 0, none⟩) xs.length cap, .func (.func 95) #[] #[.pointer (some ⟨w.heap.size + 1 + 1 + 1 + 1, 0, none⟩)], .agg #[.int .u8 x.1.1.kind, .int .i64 x.1.1.kids, .int .i64 x.1.1.int, .string x.1.1.text, .complex .f64 x.1.1.num.1 x.1.1.num.2], .int .i64 x.1.2, undef, undef, undef, undef, undef, undef, undef, undef, undef, undef, undef, undef, undef, undef, undef, undef, undef, undef, undef, undef, undef], defers := [] })
    (fun x a' _ X Y row hs hg hr => by obtain ⟨Bx, h1, h2, h3⟩ := hs; exact ⟨Bx, h1, nbox_own Bx x.1.1 () X Y row h2 hg (fun r e => (hr r e).2), h3⟩)
    ?assign ?body ?done ?stop
  case assign =>
    rintro l pre x W K ⟨⟨bv1, be1, bl1, ba1⟩, hB1⟩ hK
    dsimp only [encN]
    gi_wp2
    exact hK _ _ ((KeepsOthers.alloc _ _).from _) ((Below.refl _ W).alloc hB1.size _) ⟨⟨bv1.alloc _, be1.alloc _, bl1.alloc _, ba1.alloc _⟩, hB1.alloc hB1.size _⟩ ⟨W.heap.size, ba1.lt, NBox.new W _, rfl⟩
  case body =>
    rintro l pre x a' W hl ⟨r, hr'⟩ ⟨⟨bv1, be1, bl1, ba1⟩, hB1⟩ ⟨Bx, hBx, bX, rfl⟩ hlt
    have h1' : 1 ≤ n - 1 - 1 := by omega
    have ca1 := ba1.cell
    have fa1 := ba1.frozen
    obtain ⟨c0, c1, c2, c3, c4⟩ := bX.cells
    have m3 : pre.length ≤ 1024 := by have := hr.len; omega
    have ne1 : ¬ Bx = w.heap.size + 1 + 1 + 1 := by omega
    have ne2 : ¬ w.heap.size + 1 + 1 + 1 = Bx := by omega
    have m4 : (pre.length : Int) ≤ 1024 := by omega
    by_cases ho : x.1.2 = 0
    · have hob : (x.1.2 == 0) = true := by simp [ho]
      by_cases hlast : pre.length + 1 < xs.length
      · have hld2 : decide ((pre.length : Int) + 1 < (xs.length : Int)) = true := by simp; omega
        have hlt2 : (pre.length : Int) + 1 < (xs.length : Int) := by omega
        have HO := Lib.hid ho
        clear ho
        gi_wp2_with (refine ⟨trivial, ?_⟩; gi_at_call 82; refine (CallsIn.inRound l (callsIn_wide.2 (right_any x.1.1 x.2 _))).mono ?_; rintro e w2 ⟨rfl, hb2⟩; have bv2 := boxed_below (bv1.other (by omega) _) hb2; have be2 := boxed_below (be1.other (by omega) _) hb2; have bl2 := boxed_below (bl1.other (by omega) _) hb2; have ba2 := boxed_below (ba1.set _) hb2; have cv2 := bv2.cell; have ce2 := be2.cell; have fe2 := be2.frozen; have cl2 := bl2.cell; have fl2 := bl2.frozen; have ca2 := ba2.cell)
        exact ⟨((KeepsOthers.setCell _ _ _).trans ((keeps_below hb2).trans (KeepsOthers.setCell _ _ _))).from _, rfl, pre, x, rfl, HO.out, hlast⟩
      · have hld2 : decide ((pre.length : Int) + 1 < (xs.length : Int)) = false := by simp; omega
        have hlt2 : (xs.length : Int) ≤ (pre.length : Int) + 1 := by omega
        have HO := Lib.hid ho
        clear ho
        gi_wp2_with (refine ⟨trivial, ?_⟩; gi_at_call 82; refine (CallsIn.inRound l (callsIn_wide.2 (right_any x.1.1 x.2 _))).mono ?_; rintro e w2 ⟨rfl, hb2⟩; have bv2 := boxed_below (bv1.other (by omega) _) hb2; have be2 := boxed_below (be1.other (by omega) _) hb2; have bl2 := boxed_below (bl1.other (by omega) _) hb2; have ba2 := boxed_below (ba1.set _) hb2; have cv2 := bv2.cell; have ce2 := be2.cell; have fe2 := be2.frozen; have cl2 := bl2.cell; have fl2 := bl2.frozen; have ca2 := ba2.cell)
        refine ⟨((KeepsOthers.setCell _ _ _).trans ((keeps_below hb2).trans (KeepsOthers.setCell _ _ _))).from _, belowK_t (belowK_t ((Below.refl _ W).setCell (p := ⟨w.heap.size + 1 + 1 + 1, 0, none⟩) (by simp; omega) _) (hb2.mono (by simp [World.setCell]; exact hB1.size))) ((Below.refl _ w2).setCell (p := ⟨w.heap.size + 1 + 1, 0, none⟩) (by simp; omega) _), ⟨⟨bv2.other (by omega) _, be2.other (by omega) _, ?_, ?_⟩, ?_⟩⟩
        · rw [lastO_snoc]; exact bl2.set _
        · have := ba2.other (B' := w.heap.size + 1 + 1) (by omega) (.int .i64 x.1.2); rw [List.length_append]; simpa using this
        · exact belowK_t (belowK_t (hB1.setCell (p := ⟨w.heap.size + 1 + 1 + 1, 0, none⟩) (by simp; omega) _) (hb2.mono (by simp [World.setCell]; exact hB1.size))) ((Below.refl _ w2).setCell (p := ⟨w.heap.size + 1 + 1, 0, none⟩) (by simp; omega) _)

    · have hob : (x.1.2 == 0) = false := by simp [ho]
      clear ho
      gi_wp2_with (refine ⟨trivial, ?_⟩; gi_at_call 82; refine (CallsIn.inRound l (callsIn_wide.2 (right_any x.1.1 x.2 _))).mono ?_; rintro e w2 ⟨rfl, hb2⟩; have bv2 := boxed_below (bv1.other (by omega) _) hb2; have be2 := boxed_below (be1.other (by omega) _) hb2; have bl2 := boxed_below (bl1.other (by omega) _) hb2; have ba2 := boxed_below (ba1.set _) hb2; have cv2 := bv2.cell; have ce2 := be2.cell; have fe2 := be2.frozen; have cl2 := bl2.cell; have fl2 := bl2.frozen; have ca2 := ba2.cell)
      refine ⟨((KeepsOthers.setCell _ _ _).trans ((keeps_below hb2).trans (KeepsOthers.setCell _ _ _))).from _, belowK_t (belowK_t ((Below.refl _ W).setCell (p := ⟨w.heap.size + 1 + 1 + 1, 0, none⟩) (by simp; omega) _) (hb2.mono (by simp [World.setCell]; exact hB1.size))) ((Below.refl _ w2).setCell (p := ⟨w.heap.size + 1 + 1, 0, none⟩) (by simp; omega) _), ⟨⟨bv2.other (by omega) _, be2.other (by omega) _, ?_, ?_⟩, ?_⟩⟩
      · rw [lastO_snoc]; exact bl2.set _
      · have := ba2.other (B' := w.heap.size + 1 + 1) (by omega) (.int .i64 x.1.2); rw [List.length_append]; simpa using this
      · exact belowK_t (belowK_t (hB1.setCell (p := ⟨w.heap.size + 1 + 1 + 1, 0, none⟩) (by simp; omega) _) (hb2.mono (by simp [World.setCell]; exact hB1.size))) ((Below.refl _ w2).setCell (p := ⟨w.heap.size + 1 + 1, 0, none⟩) (by simp; omega) _)

  case done =>
    rintro D ys W hD rfl ⟨⟨bv1, be1, bl1, ba1⟩, hB1⟩ hK
    obtain ⟨m, hm⟩ : ∃ m, xs.length = m + 1 := ⟨xs.length - 1, by have := hr.pos; omega⟩
    have hlo : lastO (upto (nodeG xs hr.good) xs.length) = 0 := by
      rw [hm, upto_succ, lastO_snoc]
      show opn xs (m + 1) = 0
      rw [← hm]
      exact hr.shut
    rw [hlo] at bl1
    have cl1 := bl1.cell
    have cv1 := bv1.cell
    have hms : msum (upto (nodeG xs hr.good) xs.length) ≤ 4096 := by rw [msum_all]; exact hr.size
    have hIW := own_below hI hB1
    have hbW : b < W.heap.size := Nat.lt_of_lt_of_le hbw hB1.size
    have cm := measure_any b cap xs hr.len hr.good W hIW hbW
    generalize msum (upto (nodeG xs hr.good) xs.length) = M at *
    have hmd : decide (4096 < M) = false := by simp; omega
    clear hm hlo
    gi_wp2_with (refine ⟨trivial, ?_⟩; gi_at_call 83; refine (callsIn_wide.2 cm).mono ?_; rintro e w2 ⟨rfl, hb2⟩; have be2 := boxed_below be1 hb2; have ce2 := be2.cell; have fe2 := be2.frozen)
    have hDW : D < W.heap.size := (Array.getElem?_eq_some_iff.1 hK).1
    have hK2 : w2.heap[D]? = some (.deferred (some [])) := (hb2.block D hDW).trans hK
    have hK' := (KeepsOthers.setCell w2 ⟨w.heap.size + 1, 0, none⟩ (.int .i64 0)).same D _ hK2 rfl
    refine ⟨by simp, .inl ⟨_, _, rfl, run_takeDeferred hK', ?_⟩⟩
    have hc5 := cell_kept (World.cell?_setCell_same' w2 ⟨w.heap.size + 1, 0, none⟩ (.int .i64 0) (by rw [ce2]; rfl)) (grownBy_putObj' _ D (.deferred none)) (fun r e => by cases e; exact ⟨_, hK', rfl⟩)
    refine ⟨.int .i64 0, ?_, rfl, ((hB1.trans (hb2.mono hB1.size)).setCell (p := ⟨w.heap.size + 1, 0, none⟩) (by simp) _).trans (belowK_b (w := w) (Nat.le_refl _) _ D _ _ (by omega) hK' rfl rfl)⟩
    simp [results, Try.results46, go_sem, hc5]
  case stop =>
    rintro D c pre W hD ⟨k, hk, rfl⟩ ⟨rfl, p, x, hp, hx, hlt⟩ hK
    exfalso
    obtain ⟨h1, h2⟩ := upto_last hp
    have := hr.open_ (p.length + 1) hlt
    rw [h2] at hx
    have hx' : opn xs (p.length + 1) = 0 := hx
    omega

theorem check_any (b cap : Nat) (xs : List Nd) (hr : Right xs) (w : World) (hI : w.ownsRow 0 37 5 (.slice (some ⟨b, 0, none⟩) xs.length cap) xs.length (nds xs)) (hbw : b < w.heap.size) :
    Calls Try.prog 46 #[.slice (some ⟨b, 0, none⟩) xs.length cap] w fun e W' => e = .returned (.int .i64 0) ∧ Below w.heap.size w W' :=
  (callsIn_wide (n := 4)).1 (check_in 4 (by omega) b cap xs hr w hI hbw)
end Rd
end Go.Proofs.Ytibhldifmneboaa
