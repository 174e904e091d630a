/- The contract of package code's reader's value: it reads what the plain reader says. -/
import Derived.Test.YtibhldifmneboaaNd
import Derived.Test.YtibhldifmneboaaRn
import Derived.OwnWalk
set_option linter.unusedVariables false
set_option linter.unusedSimpArgs false
namespace Go.Proofs.Ytibhldifmneboaa
open Go Go.RowKit
namespace Rd
open Cd Pl

theorem st_complex' (P : Program) (w : World) (a : Addr) (m : Mode) (k : FloatKind) (x y : Nat) : (store a (.complex k x y) m).run P w = stored P w a (.complex k x y) m := run_store P w a _ m rfl
attribute [local go_sem] st_complex'

/-- a node's cells -/
def ndc (x : Nd) : List Value := [.int .u8 x.kind, .int .i64 x.kids, .int .i64 x.int, .string x.text, .complex .f64 x.num.1 x.num.2]
def nds (l : List Nd) : List Value := l.flatMap ndc
theorem nds_snoc (l : List Nd) (x : Nd) : nds (l ++ [x]) = nds l ++ ndc x := by simp [nds]
def nd0 : Value := .agg #[.int .u8 0, .int .i64 0, .int .i64 0, .string ⟨#[]⟩, .complex .f64 0 0]
theorem info37 : (Try.prog.info? 37).map (fun i => (i.zero, i.size, i.bytes)) = some (some nd0, 5, 56) := by kernel_rfl
def lenOf : Value → Nat | .slice _ n _ => n | _ => 0
theorem _root_.Go.World.ownsRow.slice {w : World} {base : Nat} {v : Value} {n : Nat} {xs : List Value} {t k : Nat} (h : w.ownsRow base t k v n xs) : ∃ a c, v = .slice a n c := by
  rcases h.2 with ⟨rfl, rfl⟩ | ⟨g, cap, cur, rfl, _⟩
  · exact ⟨_, _, rfl⟩
  · exact ⟨_, _, rfl⟩
theorem lenOf_own {w : World} {base : Nat} {v : Value} {n : Nat} {xs : List Value} (h : w.ownsRow base 37 5 v n xs) : lenOf v = n := by
  rcases h.2 with ⟨rfl, e⟩ | ⟨g, cap, cur, rfl, _⟩
  · exact e.symm
  · rfl

/-- what reading a value comes to -/
def ComeV (g : Nat) (A : Option Addr) (n c p : Nat) (o : Out (List Nd)) (w : World) (e : Ending) (w' : World) : Prop :=
  match o with
  | .ok x k => ∃ v, e = .returned v ∧ w'.ownsRow w.heap.size 37 5 v x.length (nds x) ∧ At w' g A n c (p + k) ∧ w.grownBy w' (some g)
  | .no a er => Out_ g (p + a) er w e w'

theorem block_own {w : World} {base t k : Nat} {v : Value} {n : Nat} {xs : List Value} (h : w.ownsRow base t k v n xs) {i : Nat} (hi : v.ownBlock = some i) : base ≤ i ∧ i < w.heap.size := h.lt _ hi
theorem own_keep {w w' : World} {base g : Nat} {v : Value} {n : Nat} {xs : List Value} (h : w.ownsRow base 37 5 v n xs) (hlt : g < base) (G : w.grownBy w' (some g)) : w'.ownsRow base 37 5 v n xs := by
  obtain ⟨h1, h2⟩ := h
  refine ⟨h1, ?_⟩
  rcases h2 with h2 | ⟨i, cap, cur, hv, hi, hh, r⟩
  · exact .inl h2
  · refine .inr ⟨i, cap, cur, hv, hi, ?_, r⟩
    rw [G.block i (Array.getElem?_eq_some_iff.1 hh).1 (by intro e; injection e; omega)]
    exact hh
theorem lit_cells (W : World) (l : List Value) {b : Nat} (hb : W.heap.size = b) : ∀ j u, l[j]? = some u → (W.alloc (.cells l.toArray 37)).cell? ((⟨b, 0, none⟩ : Addr).add j) = some u := by
  intro j u hj
  subst hb
  have h0 : (W.alloc (.cells l.toArray 37)).heap[W.heap.size]? = some (.cells l.toArray 37) := heap_alloc_new W _
  have : (⟨W.heap.size, 0, none⟩ : Addr).add j = ⟨W.heap.size, j, none⟩ := by
    cases j <;> simp [Addr.add]
  rw [this]
  simp only [World.cell?, h0]
  simpa using hj
theorem one_cells (x : Nd) : ∀ u ∈ ndc x, u.oneCell' = true := by
  intro u hu
  simp only [ndc, List.mem_cons, List.not_mem_nil, or_false] at hu
  rcases hu with rfl | rfl | rfl | rfl | rfl <;> rfl
theorem G_alloc {w w1 : World} {g : Nat} (h : w.grownBy w1 (some g)) (o : Obj) : w.grownBy (w1.alloc o) (some g) :=
  ⟨h.os, h.tape, h.output, by simp only [World.size_alloc]; have := h.size; omega, fun i hi hne => (Below.heap_alloc w1 o i (Nat.lt_of_lt_of_le hi h.size)).trans (h.block i hi hne)⟩
theorem G_new {w w1 : World} {g : Nat} (h : w.grownBy w1 (some g)) {a : Addr} (ha : w.heap.size ≤ a.block) (u : Value) : w.grownBy (w1.setCell a u) (some g) :=
  ⟨h.os, h.tape, h.output, by simpa [World.setCell] using h.size, fun i hi hne => (Below.heap_setCell w1 a u i (by omega)).trans (h.block i hi hne)⟩
theorem At.alloc {w : World} {g : Nat} {A : Option Addr} {n c p : Nat} (h : At w g A n c p) (o : Obj) : At (w.alloc o) g A n c p := by
  unfold At at h ⊢
  rw [Below.heap_alloc _ _ _ (Array.getElem?_eq_some_iff.1 h).1]
  exact h
theorem At.other {w : World} {g : Nat} {A : Option Addr} {n c p : Nat} (h : At w g A n c p) {a : Addr} (ha : g < a.block) (u : Value) : At (w.setCell a u) g A n c p := by
  unfold At at h ⊢
  rw [Below.heap_setCell _ _ _ _ (by omega)]
  exact h
theorem at_eq {w : World} {g : Nat} {A : Option Addr} {n c p p' : Nat} (h : At w g A n c p) (e : p = p') : At w g A n c p' := e ▸ h
theorem after {w wr W w' : World} {g : Nat} {v : Value} {k : Nat} {xs : List Value} {A : Option Addr} {n c p : Nat} (hlt : g < w.heap.size) (hg : w.grownBy wr (some g)) (G : wr.grownBy W (some g)) (hown : wr.ownsRow w.heap.size 37 5 v k xs)
    (aW : At W g A n c p) (hgrow : W.grownBy w' v.ownBlock) : At w' g A n c p ∧ w.grownBy w' (some g) := by
  have hne : ∀ i, i < w.heap.size → some i ≠ v.ownBlock := fun i hi e => by have := (block_own hown e.symm).1; omega
  have s1 := hg.size
  have s2 := G.size
  refine ⟨?_, ?_⟩
  · unfold At at aW ⊢
    rw [hgrow.block g (by omega) (hne g hlt)]
    exact aW
  · have g2 := G_trans hg G
    exact ⟨hgrow.os.trans g2.os, hgrow.tape.trans g2.tape, hgrow.output.trans g2.output, Nat.le_trans g2.size hgrow.size, fun i hi hn => (hgrow.block i (by omega) (hne i hi)).trans (g2.block i hi hn)⟩
/-- a node's block, behind a call that turned the reader alone -/
theorem node_cells {W W2 : World} {g : Nat} {l : List Value} (hgl : g < W.heap.size) (g2 : (W.alloc (.cells l.toArray 37)).grownBy W2 (some g)) :
    (∀ j u, l[j]? = some u → W2.cell? ⟨W.heap.size, j, none⟩ = some u ∧ W2.frozen? ⟨W.heap.size, j, none⟩ = false) ∧ W.heap.size < W2.heap.size := by
  have h0 : (W.alloc (.cells l.toArray 37)).heap[W.heap.size]? = some (.cells l.toArray 37) := heap_alloc_new W _
  have h1 : W2.heap[W.heap.size]? = some (.cells l.toArray 37) := by
    rw [g2.block _ (by simp) (by intro e; injection e; omega)]
    exact h0
  refine ⟨fun j u hj => ⟨by simp only [World.cell?, h1]; simpa using hj, by simp [World.frozen?, h1]⟩, ?_⟩
  have := g2.size
  simp at this
  omega

set_option maxHeartbeats 1000000 in
set_option maxRecDepth 100000 in
theorem value_any (g : Nat) (A : Option Addr) (n c p : Nat) (xs : List UInt8) (hn : n ≤ 30000) (hc : n ≤ c) (hx : xs.length = n) (hp : p ≤ n) (w : World) (h : At w g A n c p) (hb : Byt w g A xs) :
    Calls Try.prog 75 #[.pointer (some ⟨g, 0, none⟩)] w (ComeV g A n c p (value (xs.drop p)) w) := by
  obtain ⟨i0, hi, hz0, hz1, hz2⟩ := info_parts info37
  have hlt := h.lt
  obtain ⟨R, hR⟩ : ∃ R, R = value (xs.drop p) := ⟨_, rfl⟩
  rw [← hR]
  have HR := Lib.hid (show valGo 1025 0 [] 0 1 (xs.drop (p + 0)) = R from hR.symm)
  have HB := Lib.hid hb
  have HX := Lib.hid hx
  clear hR hb hx
  go_enter Try.func75, Try.ntmps75
  go_wp2
  go_loopw [3, 4, 5] (fun v s t wr => ∃ (acc : List Nd) (sz td q : Nat), s = .int .i64 sz ∧ t = .int .i64 td ∧ sz ≤ 4096 ∧ acc.length ≤ 1024 ∧ td ≤ 1 + 1024 * acc.length ∧ p + q ≤ n ∧ Hid (valGo (1025 - acc.length) q acc sz td (xs.drop (p + q)) = R) ∧
    At wr g A n c (p + q) ∧ wr.ownsRow w.heap.size 37 5 v acc.length (nds acc) ∧ w.grownBy wr (some g)) (fun v _ _ _ => 1025 - lenOf v)
  case atStart => exact ⟨[], 0, 1, 0, rfl, rfl, by omega, by simp, by simp, by omega, HR, h, World.ownsRow_nil w _ 37 5, G_drewN g w 0⟩
  case round =>
    obtain ⟨acc, sz, td, q, rfl, rfl, hsz, hal, htd, hpq, HE, hat, hown, hg⟩ := hrel
    obtain ⟨a3, c3, rfl⟩ := hown.slice
    clear h
    rcases Nat.eq_zero_or_pos td with rfl | htp
    · have E1 := HE.out
      obtain ⟨f, hf⟩ : ∃ f, 1025 - acc.length = f + 1 := ⟨1024 - acc.length, by omega⟩
      rw [hf, valGo_0] at E1
      have E2 := Lib.hid E1
      clear E1 HE
      go_wp2
      go_ret
      rw [← E2.out]
      exact ⟨_, rfl, hown, hat, hg⟩
    · obtain ⟨f, hf⟩ : ∃ f, 1025 - acc.length = f + 1 := ⟨1024 - acc.length, by omega⟩
      have htp' : 0 < (td : Int) := by omega
      rcases Nat.lt_or_ge (p + q) n with hlt2 | hge
      · obtain ⟨u, hu⟩ : ∃ u, xs[p + q]? = some u := ⟨_, List.getElem?_eq_getElem (by have := HX.out; omega)⟩
        have cn := next_ok g A n c (p + q) xs u hn HX.out hu wr hat (HB.out.keep hg hlt)
        have hul : u.toNat < 256 := u.toNat_lt
        have HE' := HE.out
        by_cases full : acc.length = 1024 ∨ 4096 < sz + 1
        · have E2 := Lib.hid (valGo_many hf htp hu full HE')
          have cf := fun w => fail_any ((p : Int) + q) 2 w
          by_cases l1024 : acc.length = 1024
          · have b1 : ((acc.length : Int) == 1024) = true := by simp only [beq_iff_eq]; omega
            clear HE HE' hf full hu
            go_wp2_with fail
            refine cn.mono ?_
            rintro e w1 ⟨rfl, a1, g1⟩
            obtain ⟨x0, x1, -⟩ := a1.cells
            have gw1 := G_trans hg g1
            go_wp2_with fail
            refine (cf _).mono ?_
            rintro e w2 ⟨rfl, rfl⟩
            go_wp2
            refine ⟨rfl, ?_⟩
            rw [E2.out]
            exact out_at gw1 (by push_cast; omega)
          · have b1 : ((acc.length : Int) == 1024) = false := by simp only [beq_eq_false_iff_ne, ne_eq]; omega
            have b2 : decide (4096 < (sz : Int) + 1) = true := by simp; omega
            have b2' : 4096 < (sz : Int) + 1 := by omega
            clear HE HE' hf full hu
            go_wp2_with fail
            refine cn.mono ?_
            rintro e w1 ⟨rfl, a1, g1⟩
            obtain ⟨x0, x1, -⟩ := a1.cells
            have gw1 := G_trans hg g1
            go_wp2_with fail
            refine (cf _).mono ?_
            rintro e w2 ⟨rfl, rfl⟩
            go_wp2
            refine ⟨rfl, ?_⟩
            rw [E2.out]
            exact out_at gw1 (by push_cast; omega)
        · have b1 : ((acc.length : Int) == 1024) = false := by simp only [beq_eq_false_iff_ne, ne_eq]; omega
          have b2 : decide (4096 < (sz : Int) + 1) = false := by simp; omega
          have b2' : (sz : Int) + 1 ≤ 4096 := by omega
          have lacc : acc.length + 1 ≤ 1024 := by omega
          by_cases k0 : u.toNat = 0
          · have kk := k0
            have hN : node1 sz u.toNat (xs.drop (p + q + 1)) = .ok { kind := 0 } 1 := by rw [kk]; rfl
            have E2 := Lib.hid (valGo_next hf htp hu full hN HE')
            clear hN
            rw [kk] at cn

            clear HE HE' hf full hu kk k0
            go_wp2_with fail
            refine cn.mono ?_
            rintro e w1 ⟨rfl, a1, g1⟩
            obtain ⟨x0, x1, -⟩ := a1.cells
            have ha1 := a1.lt
            have gw1 := G_trans hg g1

            go_wp2_with (at_builtin; refine wpList_append_own _ rfl _ _ 26 rfl w.heap.size 37 i0 nd0 5 56 Try.underlying26 hi hz0 hz1 hz2 rfl (by decide) _ _ _ rfl (own_keep hown hlt ?c0) ⟨_, 0, none⟩ 1 1 (ndc { kind := 0 }) rfl rfl ?c1 ?c2 ?c3 ?c4 ?c5 ?_)
            case c0 => exact G_alloc (G_alloc g1 _) _
            case c1 => exact lit_cells _ (ndc { kind := 0 }) (by simp [World.setCell])
            case c2 => exact one_cells _
            case c3 => unfold maxLen; omega
            case c4 => omega
            case c5 => exact (G_trans hg (G_alloc (G_alloc g1 _) _)).size
            intro v' w9 hown9 hgrow9 _
            obtain ⟨a9, G9⟩ := after hlt hg (G_alloc (G_alloc g1 _) _) hown ((a1.alloc _).alloc _) hgrow9
            go_wp2
            go_roundw
            case rel => exact ⟨acc ++ [{ kind := 0 }], sz + 1 + ({ kind := 0 } : Nd).text.size, td - 1 + ({ kind := 0 } : Nd).kids, q + (1), by go_num, by go_num, by simp only [show (⟨#[]⟩ : ByteArray).size = 0 from rfl]; omega, by simp; omega, by simp; omega, by omega, E2, at_eq a9 (by omega), by rw [List.length_append, nds_snoc]; exact hown9, G9⟩
            case measure => rw [lenOf_own hown9]; simp [lenOf]; omega
          by_cases k1 : u.toNat = 1
          · have kk := k1
            rcases Nat.lt_or_ge (p + q + 1) n with hlt3 | hge3
            · obtain ⟨u2, hu2⟩ : ∃ u, xs[p + q + 1]? = some u := ⟨_, List.getElem?_eq_getElem (by have := HX.out; omega)⟩
              by_cases hb : 1 < u2.toNat
              · have hN : node1 sz u.toNat (xs.drop (p + q + 1)) = .no 1 3 := by rw [kk, drop_cons hu2]; simp [node1, hb]
                have E2 := Lib.hid (valGo_err hf htp hu full hN HE')
                clear hN
                have cw := fun W (h : At W g A n c (p + q + 1)) (hg : w.grownBy W (some g)) => next_ok g A n c (p + q + 1) xs u2 hn HX.out hu2 W h (HB.out.keep hg hlt)
                rw [kk] at cn
                have cf := fun w => fail_any ((p : Int) + q + 1) 3 w
                have b3 : decide (1 < (u2.toNat : Int)) = true := by simp; omega
                have b3' : 1 < (u2.toNat : Int) := by omega
                have ul2 : u2.toNat < 256 := u2.toNat_lt
                clear hu2

                clear HE HE' hf full hu kk k1
                go_wp2_with fail
                refine cn.mono ?_
                rintro e w1 ⟨rfl, a1, g1⟩
                obtain ⟨x0, x1, -⟩ := a1.cells
                have ha1 := a1.lt
                have gw1 := G_trans hg g1

                go_wp2_with fail
                refine (cw _ (a1.alloc _) (G_alloc gw1 _)).mono ?_
                rintro e w2 ⟨rfl, a2, g2⟩
                have ha2 := a2.lt

                obtain ⟨nc, sz2⟩ := node_cells (l := [.int .u8 1, .int .i64 0, .int .i64 0, .string ⟨#[]⟩, .complex .f64 0 0]) ha1 g2
                obtain ⟨c0, f0⟩ := nc 0 _ rfl
                obtain ⟨c1, f1⟩ := nc 1 _ rfl
                obtain ⟨c2, f2⟩ := nc 2 _ rfl
                obtain ⟨c3', f3⟩ := nc 3 _ rfl
                obtain ⟨c4, f4⟩ := nc 4 _ rfl
                clear nc

                go_wp2_with fail
                refine (cf _).mono ?_
                rintro e w3 ⟨rfl, rfl⟩

                go_wp2
                refine ⟨rfl, ?_⟩
                rw [E2.out]
                exact out_at (G_new (G_trans (G_alloc gw1 _) g2) (a := ⟨w1.heap.size, 2, none⟩) gw1.size _) (by push_cast; omega)
              · have hN : node1 sz u.toNat (xs.drop (p + q + 1)) = .ok { kind := 1, int := u2.toNat } 2 := by rw [kk, drop_cons hu2]; simp [node1, hb]
                have E2 := Lib.hid (valGo_next hf htp hu full hN HE')
                clear hN
                have cw := fun W (h : At W g A n c (p + q + 1)) (hg : w.grownBy W (some g)) => next_ok g A n c (p + q + 1) xs u2 hn HX.out hu2 W h (HB.out.keep hg hlt)
                rw [kk] at cn
                have b3 : decide (1 < (u2.toNat : Int)) = false := by simp; omega
                have b3' : (u2.toNat : Int) ≤ 1 := by omega
                have ul2 : u2.toNat < 256 := u2.toNat_lt
                clear hu2

                clear HE HE' hf full hu kk k1
                go_wp2_with fail
                refine cn.mono ?_
                rintro e w1 ⟨rfl, a1, g1⟩
                obtain ⟨x0, x1, -⟩ := a1.cells
                have ha1 := a1.lt
                have gw1 := G_trans hg g1

                go_wp2_with fail
                refine (cw _ (a1.alloc _) (G_alloc gw1 _)).mono ?_
                rintro e w2 ⟨rfl, a2, g2⟩
                have ha2 := a2.lt

                obtain ⟨nc, sz2⟩ := node_cells (l := [.int .u8 1, .int .i64 0, .int .i64 0, .string ⟨#[]⟩, .complex .f64 0 0]) ha1 g2
                obtain ⟨c0, f0⟩ := nc 0 _ rfl
                obtain ⟨c1, f1⟩ := nc 1 _ rfl
                obtain ⟨c2, f2⟩ := nc 2 _ rfl
                obtain ⟨c3', f3⟩ := nc 3 _ rfl
                obtain ⟨c4, f4⟩ := nc 4 _ rfl
                clear nc

                go_wp2_with (at_builtin; refine wpList_append_own _ rfl _ _ 26 rfl w.heap.size 37 i0 nd0 5 56 Try.underlying26 hi hz0 hz1 hz2 rfl (by decide) _ _ _ rfl (own_keep hown hlt ?c0) ⟨_, 0, none⟩ 1 1 (ndc { kind := 1, int := u2.toNat }) rfl rfl ?c1 ?c2 ?c3 ?c4 ?c5 ?_)
                case c0 => exact G_alloc (G_new (G_trans (G_alloc g1 _) g2) (a := ⟨w1.heap.size, 2, none⟩) g1.size _) _
                case c1 => exact lit_cells _ (ndc { kind := 1, int := u2.toNat }) (by simp [World.setCell])
                case c2 => exact one_cells _
                case c3 => unfold maxLen; omega
                case c4 => omega
                case c5 => exact (G_trans hg (G_alloc (G_new (G_trans (G_alloc g1 _) g2) (a := ⟨w1.heap.size, 2, none⟩) g1.size _) _)).size
                intro v' w9 hown9 hgrow9 _
                obtain ⟨a9, G9⟩ := after hlt hg (G_alloc (G_new (G_trans (G_alloc g1 _) g2) (a := ⟨w1.heap.size, 2, none⟩) g1.size _) _) hown ((a2.other (a := ⟨w1.heap.size, 2, none⟩) ha1 _).alloc _) hgrow9
                go_wp2
                go_roundw
                case rel => exact ⟨acc ++ [{ kind := 1, int := u2.toNat }], sz + 1 + ({ kind := 1, int := u2.toNat } : Nd).text.size, td - 1 + ({ kind := 1, int := u2.toNat } : Nd).kids, q + (2), by go_num, by go_num, by simp only [show (⟨#[]⟩ : ByteArray).size = 0 from rfl]; omega, by simp; omega, by simp; omega, by omega, E2, at_eq a9 (by omega), by rw [List.length_append, nds_snoc]; exact hown9, G9⟩
                case measure => rw [lenOf_own hown9]; simp [lenOf]; omega
            · have epq : p + q + 1 = n := by omega
              have hN : node1 sz u.toNat (xs.drop (p + q + 1)) = .no 1 4 := by rw [kk, List.drop_eq_nil_of_le (by have := HX.out; omega)]; rfl
              have E2 := Lib.hid (valGo_err hf htp hu full hN HE')
              clear hN
              have cw := fun W h => next_no g A n c hn W h
              rw [kk] at cn
              have EN := Lib.hid epq
              have cnn : At wr g A n c (p + q) → True := fun _ => trivial

              clear HE HE' hf full hu kk k1
              go_wp2_with fail
              refine cn.mono ?_
              rintro e w1 ⟨rfl, a1, g1⟩
              obtain ⟨x0, x1, -⟩ := a1.cells
              have ha1 := a1.lt
              have gw1 := G_trans hg g1

              have a1n : At w1 g A n c n := at_eq a1 EN.out
              clear epq
              go_wp2_with fail
              refine (cw _ (a1n.alloc _)).mono ?_
              rintro e w2 ⟨rfl, g2⟩

              go_wp2
              refine ⟨rfl, ?_⟩
              rw [E2.out]
              exact out_at (G_trans (G_alloc gw1 _) g2) (by have := EN.out; push_cast; omega)
          by_cases k2 : u.toNat = 2
          · have kk := k2
            have cw := fun W (h : At W g A n c (p + q + 1)) (hg : w.grownBy W (some g)) => whole_any g A n c (p + q + 1) xs hn HX.out (by omega) W h (HB.out.keep hg hlt)
            rw [kk] at cn
            cases hm : number (xs.drop (p + q + 1)) with
            | no a er =>
              have hN : node1 sz u.toNat (xs.drop (p + q + 1)) = .no (1 + a) er := by rw [kk]; simp [node1, hm]
              have E2 := Lib.hid (valGo_err hf htp hu full hN HE')
              clear hN
              rw [hm] at cw

              clear HE HE' hf full hu kk k2
              go_wp2_with fail
              refine cn.mono ?_
              rintro e w1 ⟨rfl, a1, g1⟩
              obtain ⟨x0, x1, -⟩ := a1.cells
              have ha1 := a1.lt
              have gw1 := G_trans hg g1

              go_wp2_with fail
              refine (cw _ (a1.alloc _) (G_alloc gw1 _)).mono ?_
              rintro e w2 ⟨rfl, g2⟩

              go_wp2
              refine ⟨rfl, ?_⟩
              rw [E2.out]
              exact out_at (G_trans (G_alloc gw1 _) g2) (by push_cast; omega)
            | ok m s =>
              have hq := number_ok hm
              have hs : p + q + 1 + s ≤ n := by have := hq.2.2; rw [List.length_drop] at this; have := HX.out; omega
              have hN : node1 sz u.toNat (xs.drop (p + q + 1)) = .ok { kind := 2, int := Bt.unzig m } (1 + s) := by rw [kk]; simp [node1, hm]
              have E2 := Lib.hid (valGo_next hf htp hu full hN HE')
              clear hN
              have vI : ValI (Bt.unzig m) = .int .i64 (Bt.unzig m) := rfl
              rw [hm] at cw

              clear HE HE' hf full hu kk k2
              go_wp2_with fail
              refine cn.mono ?_
              rintro e w1 ⟨rfl, a1, g1⟩
              obtain ⟨x0, x1, -⟩ := a1.cells
              have ha1 := a1.lt
              have gw1 := G_trans hg g1

              go_wp2_with fail
              refine (cw _ (a1.alloc _) (G_alloc gw1 _)).mono ?_
              rintro e w2 ⟨rfl, a2, g2⟩
              have ha2 := a2.lt

              obtain ⟨nc, sz2⟩ := node_cells (l := [.int .u8 2, .int .i64 0, .int .i64 0, .string ⟨#[]⟩, .complex .f64 0 0]) ha1 g2
              obtain ⟨c0, f0⟩ := nc 0 _ rfl
              obtain ⟨c1, f1⟩ := nc 1 _ rfl
              obtain ⟨c2, f2⟩ := nc 2 _ rfl
              obtain ⟨c3', f3⟩ := nc 3 _ rfl
              obtain ⟨c4, f4⟩ := nc 4 _ rfl
              clear nc

              go_wp2_with (at_builtin; refine wpList_append_own _ rfl _ _ 26 rfl w.heap.size 37 i0 nd0 5 56 Try.underlying26 hi hz0 hz1 hz2 rfl (by decide) _ _ _ rfl (own_keep hown hlt ?c0) ⟨_, 0, none⟩ 1 1 (ndc { kind := 2, int := Bt.unzig m }) rfl rfl ?c1 ?c2 ?c3 ?c4 ?c5 ?_)
              case c0 => exact G_alloc (G_new (G_trans (G_alloc g1 _) g2) (a := ⟨w1.heap.size, 2, none⟩) g1.size _) _
              case c1 => exact lit_cells _ (ndc { kind := 2, int := Bt.unzig m }) (by simp [World.setCell])
              case c2 => exact one_cells _
              case c3 => unfold maxLen; omega
              case c4 => omega
              case c5 => exact (G_trans hg (G_alloc (G_new (G_trans (G_alloc g1 _) g2) (a := ⟨w1.heap.size, 2, none⟩) g1.size _) _)).size
              intro v' w9 hown9 hgrow9 _
              obtain ⟨a9, G9⟩ := after hlt hg (G_alloc (G_new (G_trans (G_alloc g1 _) g2) (a := ⟨w1.heap.size, 2, none⟩) g1.size _) _) hown ((a2.other (a := ⟨w1.heap.size, 2, none⟩) ha1 _).alloc _) hgrow9
              go_wp2
              go_roundw
              case rel => exact ⟨acc ++ [{ kind := 2, int := Bt.unzig m }], sz + 1 + ({ kind := 2, int := Bt.unzig m } : Nd).text.size, td - 1 + ({ kind := 2, int := Bt.unzig m } : Nd).kids, q + (1 + s), by go_num, by go_num, by simp only [show (⟨#[]⟩ : ByteArray).size = 0 from rfl]; omega, by simp; omega, by simp; omega, by omega, E2, at_eq a9 (by omega), by rw [List.length_append, nds_snoc]; exact hown9, G9⟩
              case measure => rw [lenOf_own hown9]; simp [lenOf]; omega
          by_cases k3 : u.toNat = 3
          · have kk := k3
            have cw := fun W (h : At W g A n c (p + q + 1)) (hg : w.grownBy W (some g)) => number_any g A n c (p + q + 1) xs hn HX.out (by omega) W h (HB.out.keep hg hlt)
            rw [kk] at cn
            cases hm : number (xs.drop (p + q + 1)) with
            | no a er =>
              have hN : node1 sz u.toNat (xs.drop (p + q + 1)) = .no (1 + a) er := by rw [kk]; simp [node1, hm]
              have E2 := Lib.hid (valGo_err hf htp hu full hN HE')
              clear hN
              rw [hm] at cw

              clear HE HE' hf full hu kk k3
              go_wp2_with fail
              refine cn.mono ?_
              rintro e w1 ⟨rfl, a1, g1⟩
              obtain ⟨x0, x1, -⟩ := a1.cells
              have ha1 := a1.lt
              have gw1 := G_trans hg g1

              go_wp2_with fail
              refine (cw _ (a1.alloc _) (G_alloc gw1 _)).mono ?_
              rintro e w2 ⟨rfl, g2⟩

              go_wp2
              refine ⟨rfl, ?_⟩
              rw [E2.out]
              exact out_at (G_trans (G_alloc gw1 _) g2) (by push_cast; omega)
            | ok m s =>
              have hq := number_ok hm
              have hs : p + q + 1 + s ≤ n := by have := hq.2.2; rw [List.length_drop] at this; have := HX.out; omega
              by_cases hb : 4095 - sz < m
              · have hN : node1 sz u.toNat (xs.drop (p + q + 1)) = .no 1 2 := by rw [kk]; simp [node1, hm, hb]
                have E2 := Lib.hid (valGo_err hf htp hu full hN HE')
                clear hN
                have vI : Val64 m = .int .u64 m := rfl
                rw [hm] at cw
                have cf := fun w => fail_any ((p : Int) + q + 1) 2 w
                have ew : IntKind.u64.wrap (4096 - ((sz : Int) + 1)) = 4096 - ((sz : Int) + 1) := by rw [IntKind.wrap_u64]; omega
                have b3 : decide (4096 - ((sz : Int) + 1) < (m : Int)) = true := by simp; omega
                have b3' : 4096 - ((sz : Int) + 1) < (m : Int) := by omega

                clear HE HE' hf full hu kk k3
                go_wp2_with fail
                refine cn.mono ?_
                rintro e w1 ⟨rfl, a1, g1⟩
                obtain ⟨x0, x1, -⟩ := a1.cells
                have ha1 := a1.lt
                have gw1 := G_trans hg g1

                go_wp2_with fail
                refine (cw _ (a1.alloc _) (G_alloc gw1 _)).mono ?_
                rintro e w2 ⟨rfl, a2, g2⟩
                have ha2 := a2.lt

                obtain ⟨nc, sz2⟩ := node_cells (l := [.int .u8 3, .int .i64 0, .int .i64 0, .string ⟨#[]⟩, .complex .f64 0 0]) ha1 g2
                obtain ⟨c0, f0⟩ := nc 0 _ rfl
                obtain ⟨c1, f1⟩ := nc 1 _ rfl
                obtain ⟨c2, f2⟩ := nc 2 _ rfl
                obtain ⟨c3', f3⟩ := nc 3 _ rfl
                obtain ⟨c4, f4⟩ := nc 4 _ rfl
                clear nc

                go_wp2_with fail
                refine (cf _).mono ?_
                rintro e w3 ⟨rfl, rfl⟩

                go_wp2
                refine ⟨rfl, ?_⟩
                rw [E2.out]
                exact out_at (G_trans (G_alloc gw1 _) g2) (by push_cast; omega)
              · by_cases hr : n - (p + q + 1 + s) < m
                · have hb2 : bytesR m ((xs.drop (p + q + 1)).drop s) = .no ((xs.drop (p + q + 1)).drop s).length 4 := by unfold bytesR; rw [if_pos (by rw [List.length_drop, List.length_drop]; have := HX.out; omega)]
                  have hL : ((xs.drop (p + q + 1)).drop s).length = n - (p + q + 1) - s := by rw [List.length_drop, List.length_drop]; have := HX.out; omega
                  rw [hL] at hb2
                  have hN : node1 sz u.toNat (xs.drop (p + q + 1)) = .no (1 + s + (n - (p + q + 1) - s)) 4 := by rw [kk]; simp only [node1, hm, hb2]; simp [hb]
                  have E2 := Lib.hid (valGo_err hf htp hu full hN HE')
                  clear hN
                  have vI : Val64 m = .int .u64 m := rfl
                  rw [hm] at cw
                  have ew : IntKind.u64.wrap (4096 - ((sz : Int) + 1)) = 4096 - ((sz : Int) + 1) := by rw [IntKind.wrap_u64]; omega
                  have b3 : decide (4096 - ((sz : Int) + 1) < (m : Int)) = false := by simp; omega
                  have b3' : (m : Int) ≤ 4096 - ((sz : Int) + 1) := by omega
                  have cb := fun W h => bytes_no g A n c (p + q + 1 + s) m hr (by omega) hn (by omega) W h

                  clear HE HE' hf full hu kk k3
                  go_wp2_with fail
                  refine cn.mono ?_
                  rintro e w1 ⟨rfl, a1, g1⟩
                  obtain ⟨x0, x1, -⟩ := a1.cells
                  have ha1 := a1.lt
                  have gw1 := G_trans hg g1

                  go_wp2_with fail
                  refine (cw _ (a1.alloc _) (G_alloc gw1 _)).mono ?_
                  rintro e w2 ⟨rfl, a2, g2⟩
                  have ha2 := a2.lt

                  obtain ⟨nc, sz2⟩ := node_cells (l := [.int .u8 3, .int .i64 0, .int .i64 0, .string ⟨#[]⟩, .complex .f64 0 0]) ha1 g2
                  obtain ⟨c0, f0⟩ := nc 0 _ rfl
                  obtain ⟨c1, f1⟩ := nc 1 _ rfl
                  obtain ⟨c2, f2⟩ := nc 2 _ rfl
                  obtain ⟨c3', f3⟩ := nc 3 _ rfl
                  obtain ⟨c4, f4⟩ := nc 4 _ rfl
                  clear nc

                  go_wp2_with fail
                  refine (cb _ a2).mono ?_
                  rintro e w3 ⟨rfl, g3⟩

                  go_wp2
                  refine ⟨rfl, ?_⟩
                  rw [E2.out]
                  exact out_at (G_trans (G_trans (G_alloc gw1 _) g2) g3) (by push_cast; omega)
                · have hb2 : bytesR m ((xs.drop (p + q + 1)).drop s) = .ok ⟨((xs.drop (p + q + 1 + s)).take m).toArray⟩ m := by unfold bytesR; rw [if_neg (by rw [List.length_drop, List.length_drop]; have := HX.out; omega), List.drop_drop]
                  have hT : (⟨((xs.drop (p + q + 1 + s)).take m).toArray⟩ : ByteArray).size = m := (bytesR_ok hb2).2.2.2
                  have hN : node1 sz u.toNat (xs.drop (p + q + 1)) = .ok { kind := 3, text := ⟨((xs.drop (p + q + 1 + s)).take m).toArray⟩ } (1 + s + m) := by rw [kk]; simp only [node1, hm, hb2]; simp [hb]
                  have E2 := Lib.hid (valGo_next hf htp hu full hN HE')
                  clear hN
                  obtain ⟨T, hTT⟩ : ∃ T, (⟨((xs.drop (p + q + 1 + s)).take m).toArray⟩ : ByteArray) = T := ⟨_, rfl⟩
                  rw [hTT] at hT E2
                  clear hb2
                  have vI : Val64 m = .int .u64 m := rfl
                  rw [hm] at cw
                  have ew : IntKind.u64.wrap (4096 - ((sz : Int) + 1)) = 4096 - ((sz : Int) + 1) := by rw [IntKind.wrap_u64]; omega
                  have b3 : decide (4096 - ((sz : Int) + 1) < (m : Int)) = false := by simp; omega
                  have b3' : (m : Int) ≤ 4096 - ((sz : Int) + 1) := by omega
                  have cb := fun W h hg => bytes_ok g A n c (p + q + 1 + s) m xs hn hc HX.out (by omega) W h (HB.out.keep hg hlt)
                  rw [hTT] at cb
                  clear hTT

                  clear HE HE' hf full hu kk k3
                  go_wp2_with fail
                  refine cn.mono ?_
                  rintro e w1 ⟨rfl, a1, g1⟩
                  obtain ⟨x0, x1, -⟩ := a1.cells
                  have ha1 := a1.lt
                  have gw1 := G_trans hg g1

                  go_wp2_with fail
                  refine (cw _ (a1.alloc _) (G_alloc gw1 _)).mono ?_
                  rintro e w2 ⟨rfl, a2, g2⟩
                  have ha2 := a2.lt

                  obtain ⟨nc, sz2⟩ := node_cells (l := [.int .u8 3, .int .i64 0, .int .i64 0, .string ⟨#[]⟩, .complex .f64 0 0]) ha1 g2
                  obtain ⟨c0, f0⟩ := nc 0 _ rfl
                  obtain ⟨c1, f1⟩ := nc 1 _ rfl
                  obtain ⟨c2, f2⟩ := nc 2 _ rfl
                  obtain ⟨c3', f3⟩ := nc 3 _ rfl
                  obtain ⟨c4, f4⟩ := nc 4 _ rfl
                  clear nc

                  go_wp2_with fail
                  refine (cb _ a2 (G_trans (G_alloc gw1 _) g2)).mono ?_
                  rintro e w3 ⟨rfl, a3', g3⟩
                  have ha3 := a3'.lt
                  obtain ⟨nc, sz3⟩ := node_cells (l := [.int .u8 3, .int .i64 0, .int .i64 0, .string ⟨#[]⟩, .complex .f64 0 0]) ha1 (G_trans g2 g3)
                  obtain ⟨c0, f0⟩ := nc 0 _ rfl
                  obtain ⟨c1, f1⟩ := nc 1 _ rfl
                  obtain ⟨c2, f2⟩ := nc 2 _ rfl
                  obtain ⟨c3', f3⟩ := nc 3 _ rfl
                  obtain ⟨c4, f4⟩ := nc 4 _ rfl
                  clear nc

                  go_wp2_with (at_builtin; refine wpList_append_own _ rfl _ _ 26 rfl w.heap.size 37 i0 nd0 5 56 Try.underlying26 hi hz0 hz1 hz2 rfl (by decide) _ _ _ rfl (own_keep hown hlt ?c0) ⟨_, 0, none⟩ 1 1 (ndc { kind := 3, text := T }) rfl rfl ?c1 ?c2 ?c3 ?c4 ?c5 ?_)
                  case c0 => exact G_alloc (G_new (G_trans (G_trans (G_alloc g1 _) g2) g3) (a := ⟨w1.heap.size, 3, none⟩) g1.size _) _
                  case c1 => exact lit_cells _ (ndc { kind := 3, text := T }) (by simp [World.setCell])
                  case c2 => exact one_cells _
                  case c3 => unfold maxLen; omega
                  case c4 => omega
                  case c5 => exact (G_trans hg (G_alloc (G_new (G_trans (G_trans (G_alloc g1 _) g2) g3) (a := ⟨w1.heap.size, 3, none⟩) g1.size _) _)).size
                  intro v' w9 hown9 hgrow9 _
                  obtain ⟨a9, G9⟩ := after hlt hg (G_alloc (G_new (G_trans (G_trans (G_alloc g1 _) g2) g3) (a := ⟨w1.heap.size, 3, none⟩) g1.size _) _) hown ((a3'.other (a := ⟨w1.heap.size, 3, none⟩) ha1 _).alloc _) hgrow9
                  go_wp2
                  go_roundw
                  case rel => exact ⟨acc ++ [{ kind := 3, text := T }], sz + 1 + ({ kind := 3, text := T } : Nd).text.size, td - 1 + ({ kind := 3, text := T } : Nd).kids, q + (1 + s + m), by go_num, by go_num, by simp only [hT]; omega, by simp; omega, by simp; omega, by omega, E2, at_eq a9 (by omega), by rw [List.length_append, nds_snoc]; exact hown9, G9⟩
                  case measure => rw [lenOf_own hown9]; simp [lenOf]; omega
          by_cases k4 : u.toNat = 4
          · have kk := k4
            have cw := fun W (h : At W g A n c (p + q + 1)) (hg : w.grownBy W (some g)) => num_any g A n c (p + q + 1) xs hn hc HX.out (by omega) W h (HB.out.keep hg hlt)
            rw [kk] at cn
            cases hm : fineBits fineB (xs.drop (p + q + 1)) with
            | no a er =>
              have hN : node1 sz u.toNat (xs.drop (p + q + 1)) = .no (1 + a) er := by rw [kk]; simp [node1, hm]
              have E2 := Lib.hid (valGo_err hf htp hu full hN HE')
              clear hN
              rw [hm] at cw

              clear HE HE' hf full hu kk k4
              go_wp2_with fail
              refine cn.mono ?_
              rintro e w1 ⟨rfl, a1, g1⟩
              obtain ⟨x0, x1, -⟩ := a1.cells
              have ha1 := a1.lt
              have gw1 := G_trans hg g1

              go_wp2_with fail
              refine (cw _ (a1.alloc _) (G_alloc gw1 _)).mono ?_
              rintro e w2 ⟨rfl, g2⟩

              go_wp2
              refine ⟨rfl, ?_⟩
              rw [E2.out]
              exact out_at (G_trans (G_alloc gw1 _) g2) (by push_cast; omega)
            | ok z s =>
              have hs : s = 16 ∧ p + q + 1 + 16 ≤ n := by
                have hm' := hm
                unfold fineBits at hm'
                split at hm'
                · cases hm'
                · rename_i hl
                  rw [List.length_drop] at hl
                  split at hm'
                  · injection hm' with h1 h2; have := HX.out; omega
                  · cases hm'
              obtain ⟨rfl, hs⟩ := hs
              have hN : node1 sz u.toNat (xs.drop (p + q + 1)) = .ok { kind := 4, num := z } (1 + 16) := by rw [kk]; simp [node1, hm]
              have E2 := Lib.hid (valGo_next hf htp hu full hN HE')
              clear hN
              have vI : ValZ z = .complex .f64 z.1 z.2 := rfl
              rw [hm] at cw

              clear HE HE' hf full hu kk k4
              go_wp2_with fail
              refine cn.mono ?_
              rintro e w1 ⟨rfl, a1, g1⟩
              obtain ⟨x0, x1, -⟩ := a1.cells
              have ha1 := a1.lt
              have gw1 := G_trans hg g1

              go_wp2_with fail
              refine (cw _ (a1.alloc _) (G_alloc gw1 _)).mono ?_
              rintro e w2 ⟨rfl, a2, g2⟩
              have ha2 := a2.lt

              obtain ⟨nc, sz2⟩ := node_cells (l := [.int .u8 4, .int .i64 0, .int .i64 0, .string ⟨#[]⟩, .complex .f64 0 0]) ha1 g2
              obtain ⟨c0, f0⟩ := nc 0 _ rfl
              obtain ⟨c1, f1⟩ := nc 1 _ rfl
              obtain ⟨c2, f2⟩ := nc 2 _ rfl
              obtain ⟨c3', f3⟩ := nc 3 _ rfl
              obtain ⟨c4, f4⟩ := nc 4 _ rfl
              clear nc

              go_wp2_with (at_builtin; refine wpList_append_own _ rfl _ _ 26 rfl w.heap.size 37 i0 nd0 5 56 Try.underlying26 hi hz0 hz1 hz2 rfl (by decide) _ _ _ rfl (own_keep hown hlt ?c0) ⟨_, 0, none⟩ 1 1 (ndc { kind := 4, num := z }) rfl rfl ?c1 ?c2 ?c3 ?c4 ?c5 ?_)
              case c0 => exact G_alloc (G_new (G_trans (G_alloc g1 _) g2) (a := ⟨w1.heap.size, 4, none⟩) g1.size _) _
              case c1 => exact lit_cells _ (ndc { kind := 4, num := z }) (by simp [World.setCell])
              case c2 => exact one_cells _
              case c3 => unfold maxLen; omega
              case c4 => omega
              case c5 => exact (G_trans hg (G_alloc (G_new (G_trans (G_alloc g1 _) g2) (a := ⟨w1.heap.size, 4, none⟩) g1.size _) _)).size
              intro v' w9 hown9 hgrow9 _
              obtain ⟨a9, G9⟩ := after hlt hg (G_alloc (G_new (G_trans (G_alloc g1 _) g2) (a := ⟨w1.heap.size, 4, none⟩) g1.size _) _) hown ((a2.other (a := ⟨w1.heap.size, 4, none⟩) ha1 _).alloc _) hgrow9
              go_wp2
              go_roundw
              case rel => exact ⟨acc ++ [{ kind := 4, num := z }], sz + 1 + ({ kind := 4, num := z } : Nd).text.size, td - 1 + ({ kind := 4, num := z } : Nd).kids, q + (1 + 16), by go_num, by go_num, by simp only [show (⟨#[]⟩ : ByteArray).size = 0 from rfl]; omega, by simp; omega, by simp; omega, by omega, E2, at_eq a9 (by omega), by rw [List.length_append, nds_snoc]; exact hown9, G9⟩
              case measure => rw [lenOf_own hown9]; simp [lenOf]; omega
          by_cases k5 : u.toNat = 5
          · have kk := k5
            have cw := fun W (h : At W g A n c (p + q + 1)) (hg : w.grownBy W (some g)) => number_any g A n c (p + q + 1) xs hn HX.out (by omega) W h (HB.out.keep hg hlt)
            rw [kk] at cn
            cases hm : number (xs.drop (p + q + 1)) with
            | no a er =>
              have hN : node1 sz u.toNat (xs.drop (p + q + 1)) = .no (1 + a) er := by rw [kk]; simp [node1, hm]
              have E2 := Lib.hid (valGo_err hf htp hu full hN HE')
              clear hN
              rw [hm] at cw

              clear HE HE' hf full hu kk k5
              go_wp2_with fail
              refine cn.mono ?_
              rintro e w1 ⟨rfl, a1, g1⟩
              obtain ⟨x0, x1, -⟩ := a1.cells
              have ha1 := a1.lt
              have gw1 := G_trans hg g1

              go_wp2_with fail
              refine (cw _ (a1.alloc _) (G_alloc gw1 _)).mono ?_
              rintro e w2 ⟨rfl, g2⟩

              go_wp2
              refine ⟨rfl, ?_⟩
              rw [E2.out]
              exact out_at (G_trans (G_alloc gw1 _) g2) (by push_cast; omega)
            | ok m s =>
              have hq := number_ok hm
              have hs : p + q + 1 + s ≤ n := by have := hq.2.2; rw [List.length_drop] at this; have := HX.out; omega
              by_cases hb : 1024 < m
              · have hN : node1 sz u.toNat (xs.drop (p + q + 1)) = .no 1 2 := by rw [kk]; simp [node1, hm, hb]
                have E2 := Lib.hid (valGo_err hf htp hu full hN HE')
                clear hN
                have vI : Val64 m = .int .u64 m := rfl
                rw [hm] at cw
                have cf := fun w => fail_any ((p : Int) + q + 1) 2 w
                have b3 : decide (1024 < (m : Int)) = true := by simp; omega
                have b3' : 1024 < (m : Int) := by omega

                clear HE HE' hf full hu kk k5
                go_wp2_with fail
                refine cn.mono ?_
                rintro e w1 ⟨rfl, a1, g1⟩
                obtain ⟨x0, x1, -⟩ := a1.cells
                have ha1 := a1.lt
                have gw1 := G_trans hg g1

                go_wp2_with fail
                refine (cw _ (a1.alloc _) (G_alloc gw1 _)).mono ?_
                rintro e w2 ⟨rfl, a2, g2⟩
                have ha2 := a2.lt

                obtain ⟨nc, sz2⟩ := node_cells (l := [.int .u8 5, .int .i64 0, .int .i64 0, .string ⟨#[]⟩, .complex .f64 0 0]) ha1 g2
                obtain ⟨c0, f0⟩ := nc 0 _ rfl
                obtain ⟨c1, f1⟩ := nc 1 _ rfl
                obtain ⟨c2, f2⟩ := nc 2 _ rfl
                obtain ⟨c3', f3⟩ := nc 3 _ rfl
                obtain ⟨c4, f4⟩ := nc 4 _ rfl
                clear nc

                go_wp2_with fail
                refine (cf _).mono ?_
                rintro e w3 ⟨rfl, rfl⟩

                go_wp2
                refine ⟨rfl, ?_⟩
                rw [E2.out]
                exact out_at (G_trans (G_alloc gw1 _) g2) (by push_cast; omega)
              · have hN : node1 sz u.toNat (xs.drop (p + q + 1)) = .ok { kind := 5, kids := m } (1 + s) := by rw [kk]; simp [node1, hm, hb]
                have E2 := Lib.hid (valGo_next hf htp hu full hN HE')
                clear hN
                have vI : Val64 m = .int .u64 m := rfl
                rw [hm] at cw
                have b3 : decide (1024 < (m : Int)) = false := by simp; omega
                have b3' : (m : Int) ≤ 1024 := by omega

                clear HE HE' hf full hu kk k5
                go_wp2_with fail
                refine cn.mono ?_
                rintro e w1 ⟨rfl, a1, g1⟩
                obtain ⟨x0, x1, -⟩ := a1.cells
                have ha1 := a1.lt
                have gw1 := G_trans hg g1

                go_wp2_with fail
                refine (cw _ (a1.alloc _) (G_alloc gw1 _)).mono ?_
                rintro e w2 ⟨rfl, a2, g2⟩
                have ha2 := a2.lt

                obtain ⟨nc, sz2⟩ := node_cells (l := [.int .u8 5, .int .i64 0, .int .i64 0, .string ⟨#[]⟩, .complex .f64 0 0]) ha1 g2
                obtain ⟨c0, f0⟩ := nc 0 _ rfl
                obtain ⟨c1, f1⟩ := nc 1 _ rfl
                obtain ⟨c2, f2⟩ := nc 2 _ rfl
                obtain ⟨c3', f3⟩ := nc 3 _ rfl
                obtain ⟨c4, f4⟩ := nc 4 _ rfl
                clear nc

                go_wp2_with (at_builtin; refine wpList_append_own _ rfl _ _ 26 rfl w.heap.size 37 i0 nd0 5 56 Try.underlying26 hi hz0 hz1 hz2 rfl (by decide) _ _ _ rfl (own_keep hown hlt ?c0) ⟨_, 0, none⟩ 1 1 (ndc { kind := 5, kids := m }) rfl rfl ?c1 ?c2 ?c3 ?c4 ?c5 ?_)
                case c0 => exact G_alloc (G_new (G_trans (G_alloc g1 _) g2) (a := ⟨w1.heap.size, 1, none⟩) g1.size _) _
                case c1 => exact lit_cells _ (ndc { kind := 5, kids := m }) (by simp [World.setCell])
                case c2 => exact one_cells _
                case c3 => unfold maxLen; omega
                case c4 => omega
                case c5 => exact (G_trans hg (G_alloc (G_new (G_trans (G_alloc g1 _) g2) (a := ⟨w1.heap.size, 1, none⟩) g1.size _) _)).size
                intro v' w9 hown9 hgrow9 _
                obtain ⟨a9, G9⟩ := after hlt hg (G_alloc (G_new (G_trans (G_alloc g1 _) g2) (a := ⟨w1.heap.size, 1, none⟩) g1.size _) _) hown ((a2.other (a := ⟨w1.heap.size, 1, none⟩) ha1 _).alloc _) hgrow9
                go_wp2
                go_roundw
                case rel => exact ⟨acc ++ [{ kind := 5, kids := m }], sz + 1 + ({ kind := 5, kids := m } : Nd).text.size, td - 1 + ({ kind := 5, kids := m } : Nd).kids, q + (1 + s), by go_num, by go_num, by simp only [show (⟨#[]⟩ : ByteArray).size = 0 from rfl]; omega, by simp; omega, by simp; omega, by omega, E2, at_eq a9 (by omega), by rw [List.length_append, nds_snoc]; exact hown9, G9⟩
                case measure => rw [lenOf_own hown9]; simp [lenOf]; omega
          have hN : node1 sz u.toNat (xs.drop (p + q + 1)) = .no 0 3 := by simp [node1, k0, k1, k2, k3, k4, k5]
          have E2 := Lib.hid (valGo_err hf htp hu full hN HE')
          clear hN
          have cf := fun w => fail_any ((p : Int) + q) 3 w
          have z0 : ((u.toNat : Int) == 0) = false := by simp only [beq_eq_false_iff_ne, ne_eq]; omega
          have z1 : ((u.toNat : Int) == 1) = false := by simp only [beq_eq_false_iff_ne, ne_eq]; omega
          have z2 : ((u.toNat : Int) == 2) = false := by simp only [beq_eq_false_iff_ne, ne_eq]; omega
          have z3 : ((u.toNat : Int) == 3) = false := by simp only [beq_eq_false_iff_ne, ne_eq]; omega
          have z4 : ((u.toNat : Int) == 4) = false := by simp only [beq_eq_false_iff_ne, ne_eq]; omega
          have z5 : ((u.toNat : Int) == 5) = false := by simp only [beq_eq_false_iff_ne, ne_eq]; omega
          clear k0 k1 k2 k3 k4 k5

          clear HE HE' hf full hu
          go_wp2_with fail
          refine cn.mono ?_
          rintro e w1 ⟨rfl, a1, g1⟩
          obtain ⟨x0, x1, -⟩ := a1.cells
          have ha1 := a1.lt
          have gw1 := G_trans hg g1

          go_wp2_with fail
          refine (cf _).mono ?_
          rintro e w3 ⟨rfl, rfl⟩

          go_wp2
          refine ⟨rfl, ?_⟩
          rw [E2.out]
          exact out_at (G_alloc gw1 _) (by push_cast; omega)
      · have E1 := HE.out
        rw [List.drop_eq_nil_of_le (by have := HX.out; omega), hf, valGo_nil _ _ _ _ _ htp] at E1
        have epq : p + q = n := by omega
        rw [epq] at hat
        have cn := next_no g A n c hn wr hat
        replace E1 := Lib.hid E1
        have EN := Lib.hid epq
        clear epq HE
        go_wp2_with fail
        refine cn.mono ?_
        rintro e w1 ⟨rfl, g1⟩
        go_wp2
        refine ⟨rfl, ?_⟩
        rw [← E1.out]
        exact out_at (G_trans hg g1) (by have := EN.out; omega)
end Rd
end Go.Proofs.Ytibhldifmneboaa
