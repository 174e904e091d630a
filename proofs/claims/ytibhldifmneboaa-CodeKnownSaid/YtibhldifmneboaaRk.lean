/- The reference's ReadValue and ReadAll. -/
import Derived.Test.YtibhldifmneboaaRj
set_option linter.unusedVariables false
set_option linter.unusedSimpArgs false
namespace Go.Proofs.Ytibhldifmneboaa
open Go Go.RowKit
namespace Rd
open Cd Pl
attribute [local go_sem] st_complex'

theorem node_ok {A : Option Addr} {n c p sz : Nat} {xs : List UInt8} {u : UInt8} (hn : n ≤ 30000) (hc : n ≤ c) (hx : xs.length = n) (hu : xs[p]? = some u) (hsz : sz + 1 ≤ 4096) {w : World} (hb : Bs w A xs) {x : Nd} {j : Nat} (h : node1 sz u.toNat (xs.drop (p + 1)) = .ok x j) :
    Calls Try.prog 76 #[.slice A n c, .int .i64 p, .int .i64 sz] w fun e w' => e = .returned (.tuple #[.agg #[.int .u8 x.kind, .int .i64 x.kids, .int .i64 x.int, .string x.text, .complex .f64 x.num.1 x.num.2], .int .i64 ((p + j : Nat) : Int), .int .i64 0]) ∧ Below w.heap.size w w' := by
  have := node_any A n c p sz xs u hn hc hx hu hsz w hb
  rw [h] at this
  exact this.mono fun e w' ⟨h1, h2⟩ => ⟨h2, h1⟩
theorem node_no {A : Option Addr} {n c p sz : Nat} {xs : List UInt8} {u : UInt8} (hn : n ≤ 30000) (hc : n ≤ c) (hx : xs.length = n) (hu : xs[p]? = some u) (hsz : sz + 1 ≤ 4096) {w : World} (hb : Bs w A xs) {a : Nat} {er : Int} (h : node1 sz u.toNat (xs.drop (p + 1)) = .no a er) :
    Calls Try.prog 76 #[.slice A n c, .int .i64 p, .int .i64 sz] w fun e w' => (∃ y : Nd, e = .returned (.tuple #[.agg #[.int .u8 y.kind, .int .i64 y.kids, .int .i64 y.int, .string y.text, .complex .f64 y.num.1 y.num.2], .int .i64 ((p + a : Nat) : Int), .int .i64 er])) ∧ Below w.heap.size w w' := by
  have := node_any A n c p sz xs u hn hc hx hu hsz w hb
  rw [h] at this
  exact this.mono fun e w' ⟨h1, h2⟩ => ⟨h2, h1⟩

theorem node1_no {size k : Nat} {r : List UInt8} {a : Nat} {er : Int} (h : node1 size k r = .no a er) : (er != 0) = true := by
  unfold node1 at h
  split at h
  · cases h
  split at h
  · split at h
    · injection h with h1 h2; subst h2; rfl
    · split at h
      · injection h with h1 h2; subst h2; rfl
      · cases h
  split at h
  · split at h
    · rename_i hn; injection h with h1 h2; subst h2; exact number_no hn
    · cases h
  split at h
  · split at h
    · rename_i hn; injection h with h1 h2; subst h2; exact number_no hn
    · split at h
      · injection h with h1 h2; subst h2; rfl
      · split at h
        · rename_i hb; injection h with h1 h2; subst h2; rw [bytesR_no hb]; rfl
        · cases h
  split at h
  · split at h
    · rename_i hb; injection h with h1 h2; subst h2; exact fine_no hb
    · cases h
  split at h
  · split at h
    · rename_i hn; injection h with h1 h2; subst h2; exact number_no hn
    · split at h
      · injection h with h1 h2; subst h2; rfl
      · cases h
  · injection h with h1 h2; subst h2; rfl

/-- behind an append to a row of the call's own -/
theorem after_b {w wr W w' : World} {v : Value} {k : Nat} {xs : List Value} (hg : Below w.heap.size w wr) (G : Below wr.heap.size wr W) (hown : wr.ownsRow w.heap.size 37 5 v k xs) (hgrow : W.grownBy w' v.ownBlock) : Below w.heap.size w w' := by
  have s1 := hg.size
  exact (hg.trans (G.mono s1)).grown hgrow (by have := G.size; omega) (fun i hi => (block_own hown hi).1)

theorem valGo_ne : ∀ (f q : Nat) (acc : List Nd) (sz td : Nat) (l : List UInt8) {a : Nat} {er : Int}, valGo f q acc sz td l = .no a er → (er != 0) = true
  | 0, q, acc, sz, td, l, a, er, h => by
    simp only [valGo] at h
    injection h with h1 h2; subst h2; rfl
  | f + 1, q, acc, sz, td, l, a, er, h => by
    rcases Nat.eq_zero_or_pos td with rfl | htp
    · rw [valGo_0] at h; cases h
    · cases l with
      | nil => rw [valGo_nil _ _ _ _ _ htp] at h; injection h with h1 h2; subst h2; rfl
      | cons c r =>
        by_cases full : acc.length = 1024 ∨ 4096 < sz + 1
        · rw [valGo_full _ _ _ _ _ htp _ _ full] at h; injection h with h1 h2; subst h2; rfl
        · cases hN : node1 sz c.toNat r with
          | no a' er' => rw [valGo_no htp full hN] at h; injection h with h1 h2; subst h2; exact node1_no hN
          | ok x k => rw [valGo_ok htp full hN] at h; exact valGo_ne f _ _ _ _ _ h
theorem value_no {l : List UInt8} {a : Nat} {er : Int} (h : value l = .no a er) : (er != 0) = true := valGo_ne _ _ _ _ _ _ h
theorem node_kept {w wr W w' : World} {v : Value} {k base : Nat} {xs : List Value} {l : List Value} {o : Obj} (hown : wr.ownsRow base 37 5 v k xs) (hs : wr.heap.size ≤ W.heap.size) (hgrow : ((W.alloc (.cells l.toArray 37)).alloc o).grownBy w' v.ownBlock) :
    ∀ j u, l[j]? = some u → w'.cell? ⟨W.heap.size, j, none⟩ = some u := by
  intro j u hj
  have h0 : (W.alloc (.cells l.toArray 37)).heap[W.heap.size]? = some (.cells l.toArray 37) := heap_alloc_new W _
  have h1 : w'.heap[W.heap.size]? = some (.cells l.toArray 37) := by
    rw [hgrow.block _ (by simp; omega) (by intro e; have := (block_own hown e.symm).2; omega), Below.heap_alloc _ _ _ (by simp)]
    exact h0
  simp only [World.cell?, h1]
  simpa using hj

set_option maxHeartbeats 1000000 in
set_option maxRecDepth 100000 in
theorem refValue_any (A : Option Addr) (n c : Nat) (xs : List UInt8) (hn : n ≤ 30000) (hc : n ≤ c) (hx : xs.length = n) (w : World) (hb : Bs w A xs) :
    Calls Try.prog 41 #[.slice A n c] w (RdV (value xs) w) := by
  obtain ⟨i0, hi, hz0, hz1, hz2⟩ := info_parts info37
  obtain ⟨R, hR⟩ : ∃ R, R = value xs := ⟨_, rfl⟩
  rw [← hR]
  have HR := Lib.hid (show valGo 1025 0 [] 0 1 (xs.drop (0 + 0)) = R from hR.symm)
  have HB := Lib.hid hb
  have HX := Lib.hid hx
  have ewn : IntKind.i64.wrap (n : Int) = n := by rw [IntKind.wrap_i64]; omega
  clear hR hb hx
  go_enter Try.func41, Try.ntmps41
  go_wp2
  go_loopw [5, 6, 7, 8] (fun v a s t wr => ∃ (acc : List Nd) (sz td q : Nat), a = .int .i64 q ∧ s = .int .i64 sz ∧ t = .int .i64 td ∧ sz ≤ 4096 ∧ acc.length ≤ 1024 ∧ td ≤ 1 + 1024 * acc.length ∧ q ≤ n ∧ Hid (valGo (1025 - acc.length) q acc sz td (xs.drop (0 + q)) = R) ∧
    wr.ownsRow w.heap.size 37 5 v acc.length (nds acc) ∧ Below w.heap.size w wr) (fun v _ _ _ _ => 1025 - lenOf v)
  case atStart => exact ⟨[], 0, 1, 0, rfl, rfl, rfl, by omega, by simp, by simp, by omega, HR, World.ownsRow_nil w _ 37 5, Below.refl _ w⟩
  case round =>
    obtain ⟨acc, sz, td, q, rfl, rfl, rfl, hsz, hal, htd, hpq, HE, hown, hg⟩ := hrel
    obtain ⟨a3, c3, rfl⟩ := hown.slice
    obtain ⟨f, hf⟩ : ∃ f, 1025 - acc.length = f + 1 := ⟨1024 - acc.length, by omega⟩
    rcases Nat.eq_zero_or_pos td with rfl | htp
    · have E1 := HE.out
      rw [hf, valGo_0] at E1
      have E2 := Lib.hid E1
      clear E1 HE
      go_wp2
      go_ret3
      rw [← E2.out]
      exact ⟨_, rfl, hown, hg⟩
    · have htp' : 0 < (td : Int) := by omega
      rcases Nat.lt_or_ge q n with hlt2 | hge
      · obtain ⟨u, hu⟩ : ∃ u, xs[0 + q]? = some u := ⟨_, List.getElem?_eq_getElem (by have := HX.out; omega)⟩
        have d1 : decide ((n : Int) ≤ (q : Int)) = false := by simp; omega
        have d1' : (q : Int) < n := by omega
        have HE' := HE.out
        by_cases full : acc.length = 1024 ∨ 4096 < sz + 1
        · have E2 := Lib.hid (valGo_many hf htp hu full HE')
          by_cases l1024 : 1024 ≤ acc.length
          · have b1 : decide (1024 ≤ (acc.length : Int)) = true := by simp; omega
            have b1' : 1024 ≤ (acc.length : Int) := by omega
            clear HE HE' hf full hu
            go_wp2
            go_ret3
            rw [E2.out]
            exact ⟨rfl, hg⟩
          · have b1 : decide (1024 ≤ (acc.length : Int)) = false := by simp; omega
            have b1' : (acc.length : Int) < 1024 := by omega
            have b2 : decide (4096 < (sz : Int) + 1) = true := by simp; omega
            have b2' : 4096 < (sz : Int) + 1 := by omega
            clear HE HE' hf full hu l1024
            go_wp2
            go_ret3
            rw [E2.out]
            exact ⟨rfl, hg⟩
        · have b1 : decide (1024 ≤ (acc.length : Int)) = false := by simp; omega
          have b1' : (acc.length : Int) < 1024 := by omega
          have b2 : decide (4096 < (sz : Int) + 1) = false := by simp; omega
          have b2' : (sz : Int) + 1 ≤ 4096 := by omega
          have hszz : sz + 1 ≤ 4096 := by omega
          have hu' : xs[q]? = some u := by rw [← hu, Nat.zero_add]
          cases hN : node1 sz u.toNat (xs.drop (0 + q + 1)) with
          | no a er =>
            have E2 := Lib.hid (valGo_err hf htp hu full hN HE')
            have her := node1_no hN
            rw [Nat.zero_add] at hN
            have cn := node_no (A := A) (c := c) hn hc HX.out hu' hszz (bs_keep' HB.out hg) hN
            clear HE HE' hf full hu hu' hN
            go_wp2_with fail
            refine cn.mono ?_
            rintro e w1 ⟨⟨y, rfl⟩, g1⟩
            go_wp2
            go_ret3
            rw [E2.out]
            exact ⟨rfl, (hg.trans (g1.mono hg.size)).alloc (by have := g1.size; have := hg.size; omega) _⟩
          | ok x j =>
            have E2 := Lib.hid (valGo_next hf htp hu full hN HE')
            obtain ⟨j1, j2, j3, j4⟩ := node1_ok hszz hN
            have j5 : q + j ≤ n := by rw [List.length_drop] at j2; have := HX.out; omega
            rw [Nat.zero_add] at hN
            have cn := node_ok (A := A) (c := c) hn hc HX.out hu' hszz (bs_keep' HB.out hg) hN
            clear HE HE' hf full hu hu' hN j2
            go_wp2_with fail
            refine cn.mono ?_
            rintro e w1 ⟨rfl, g1⟩
            have G1 : ∀ o1 o2, Below wr.heap.size wr ((w1.alloc o1).alloc o2) := fun o1 o2 => (g1.alloc g1.size o1).alloc (by have := g1.size; simp only [World.size_alloc]; omega) o2
            go_wp2_with (at_builtin; refine wpList_append_own _ rfl _ _ 26 rfl w.heap.size 37 i0 nd0 5 56 Try.underlying26 hi hz0 hz1 hz2 rfl (by decide) _ _ _ rfl (own_below hown ?c0) ⟨_, 0, none⟩ 1 1 (ndc x) rfl rfl ?c1 ?c2 ?c3 ?c4 ?c5 ?_)
            case c0 => exact G1 _ _
            case c1 => exact lit_cells _ (ndc x) (by simp [World.setCell])
            case c2 => exact one_cells _
            case c3 => unfold maxLen; omega
            case c4 => omega
            case c5 => exact (hg.trans ((G1 _ _).mono hg.size)).size
            intro v' w9 hown9 hgrow9 _
            have G9 := after_b hg (G1 _ _) hown hgrow9
            have nk := node_kept (w := w) hown g1.size (l := [.int .u8 x.kind, .int .i64 x.kids, .int .i64 x.int, .string x.text, .complex .f64 x.num.1 x.num.2]) hgrow9
            have c1 := nk 1 _ rfl
            have c3' := nk 3 _ rfl
            clear nk hgrow9
            have e1 : (x.text.size : Int) ≤ 4096 := by omega
            have e2 : (x.kids : Int) ≤ 1024 := by omega
            go_wp2
            go_roundw
            case rel => exact ⟨acc ++ [x], sz + 1 + x.text.size, td - 1 + x.kids, q + j, by go_num, by go_num, by go_num, j3, by simp; omega, by simp; omega, j5, E2, by rw [List.length_append, nds_snoc]; exact hown9, G9⟩
            case measure => rw [lenOf_own hown9]; simp [lenOf]; omega
      · have E1 := HE.out
        rw [List.drop_eq_nil_of_le (by have := HX.out; omega), hf, valGo_nil _ _ _ _ _ htp] at E1
        have epq : q = n := by omega
        have d1 : decide ((n : Int) ≤ (q : Int)) = true := by simp; omega
        have d1' : (n : Int) ≤ q := by omega
        replace E1 := Lib.hid E1
        have EN := Lib.hid epq
        clear epq HE
        go_wp2
        go_ret3
        rw [← E1.out, EN.out]
        exact ⟨rfl, hg⟩

set_option maxRecDepth 100000 in
theorem refAll_any (A : Option Addr) (n c : Nat) (xs : List UInt8) (hn : n ≤ 30000) (hc : n ≤ c) (hx : xs.length = n) (w : World) (hb : Bs w A xs) :
    Calls Try.prog 44 #[.slice A n c] w (RdV (valueAll xs) w) := by
  have cr := refValue_any A n c xs hn hc hx w hb
  have ewn : IntKind.i64.wrap (n : Int) = n := by rw [IntKind.wrap_i64]; omega
  unfold valueAll
  cases hR : value xs with
  | ok x k =>
    rw [hR] at cr
    simp only [hx]
    clear hx hb hR
    by_cases hk : k < n
    · rw [if_pos hk]
      have hd : decide ((k : Int) < (n : Int)) = true := by simp; omega
      go_enter Try.func44, Try.ntmps44
      go_wp2_with fail
      refine cr.mono ?_
      rintro e w1 ⟨v, rfl, ho, hB⟩
      go_wp2
      go_ret3
      exact ⟨rfl, hB⟩
    · rw [if_neg hk]
      have hd : decide ((k : Int) < (n : Int)) = false := by simp; omega
      go_enter Try.func44, Try.ntmps44
      go_wp2_with fail
      refine cr.mono ?_
      rintro e w1 ⟨v, rfl, ho, hB⟩
      go_wp2
      go_ret3
      exact ⟨v, rfl, ho, hB⟩
  | no a er =>
    rw [hR] at cr
    have her : (er == 0) = false := by have := value_no hR; simpa using this
    clear hx hb hR
    go_enter Try.func44, Try.ntmps44
    go_wp2_with fail
    refine cr.mono ?_
    rintro e w1 ⟨rfl, hB⟩
    go_wp2
    go_ret3
    exact ⟨rfl, hB⟩
end Rd
end Go.Proofs.Ytibhldifmneboaa
