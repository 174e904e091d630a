/- The contract of raft's voted. -/
import Derived.Test.YtdacdkidjgbdoaaTe
set_option linter.unusedVariables false
set_option linter.unusedSimpArgs false
namespace Go.Proofs.Ytdacdkidjgbdoaa
open Go Go.RowKit
namespace Rf
attribute [local go_sem ↓] Go.wp_at_zero Go.wp_at_succ

theorem or_voters (v f : Nat) (hv : v < 128) (hf : f < 7) : bits BinOp.or IntKind.u64 (v : Int) (IntKind.u64.wrap (2 ^ f)) = ((v ||| 2 ^ f : Nat) : Int) := by
  have : ∀ v : Nat, v < 128 → ∀ f : Nat, f < 7 → bits BinOp.or IntKind.u64 (v : Int) (IntKind.u64.wrap (2 ^ f)) = ((v ||| 2 ^ f : Nat) : Int) := by decide +kernel
  exact this v hv f hf
theorem or_lt (v f : Nat) (hv : v < 128) (hf : f < 7) : v ||| 2 ^ f < 128 := by
  have : ∀ v : Nat, v < 128 → ∀ f : Nat, f < 7 → v ||| 2 ^ f < 128 := by decide +kernel
  exact this v hv f hf
theorem pop_le (n : Nat) : pop n ≤ 7 := by
  have b : ∀ c : Bool, (if c = true then 1 else 0) ≤ 1 := fun c => by cases c <;> simp
  have h0 := b (n.testBit 0); have h1 := b (n.testBit 1); have h2 := b (n.testBit 2); have h3 := b (n.testBit 3); have h4 := b (n.testBit 4); have h5 := b (n.testBit 5); have h6 := b (n.testBit 6)
  unfold pop
  omega
/-- with a vote -/
def counted (s : Srv) (f : Nat) : Srv := { s with voters := s.voters ||| 2 ^ f }
def votedOn (s : Srv) (m : Msg) : Bool := decide (s.role = 1) && (decide (m.term = s.term) && m.ok)
def votedS (s : Srv) (m : Msg) : Srv := if votedOn s m = true then (if 2 * pop (s.voters ||| 2 ^ m.src.toNat) ≤ s.nodes then counted s m.src.toNat else leadS (counted s m.src.toNat)) else s
def votedM (s : Srv) (m : Msg) : List Msg := if votedOn s m = true then (if 2 * pop (s.voters ||| 2 ^ m.src.toNat) ≤ s.nodes then [] else outs (sendTo (leadS (counted s m.src.toNat))) s.id s.nodes) else []
theorem Did.none {g : Nat} {s : Srv} {v : Value} {w w1 : World} (h : Is w1 g s v) (hO : Only (fun k => k = g) w w1) (hlt : g < w.heap.size) : Did g v w s [] (.slice none 0 0) w1 :=
  (Did.quiet h (Below.refl _ _) (Out.nil _ _)).below (hO.weak (fun _ e => .inl e)) (fun k hk => .inl hk) hlt

set_option maxRecDepth 100000 in
set_option maxHeartbeats 2000000 in
theorem voted_a (g : Nat) (s : Srv) (v : Value) (R : Nat) (T : Int) (hR : s.role = R) (hT : s.term = T) (k : Nat) (src dst tm ix lt cm : Int) (ok : Bool) (a : Option Addr) (n c : Nat) (w : World) (h : Is w g s v) (d0 : ((R : Int) != 1) = true) :
    Calls Try.prog 44 #[.pointer (some ⟨g, 0, none⟩), .agg #[.int .u8 k, .int .i64 src, .int .i64 dst, .int .i64 tm, .int .i64 ix, .int .i64 lt, .slice a n c, .int .i64 cm, .bool ok]] w (DidPost g v w s []) := by
  have hB := (Below.refl _ w).alloc (Nat.le_refl _) (.cells #[.int .u8 k, .int .i64 src, .int .i64 dst, .int .i64 tm, .int .i64 ix, .int .i64 lt, .slice a n c, .int .i64 cm, .bool ok] 34)
  have h1 := h.below hB
  obtain ⟨x2, f2⟩ := h.term
  obtain ⟨x5, f5⟩ := h.role
  rw [hT] at x2
  rw [hR] at x5
  have hlt := h.lt
  clear hT hR
  go_enter Try.func44, Try.ntmps44
  go_wp2_with fail
  go_quiet (fail)
  go_wp2_with fail
  go_ret
  exact ⟨_, rfl, Did.none (h1.drewN _) ((Only.of_below hB).drewN _) hlt⟩

set_option maxRecDepth 100000 in
set_option maxHeartbeats 2000000 in
theorem voted_b (g : Nat) (s : Srv) (v : Value) (R : Nat) (T : Int) (hR : s.role = R) (hT : s.term = T) (k : Nat) (src dst tm ix lt cm : Int) (ok : Bool) (a : Option Addr) (n c : Nat) (w : World) (h : Is w g s v) (d0 : ((R : Int) != 1) = false) (d1 : (tm != T) = true) :
    Calls Try.prog 44 #[.pointer (some ⟨g, 0, none⟩), .agg #[.int .u8 k, .int .i64 src, .int .i64 dst, .int .i64 tm, .int .i64 ix, .int .i64 lt, .slice a n c, .int .i64 cm, .bool ok]] w (DidPost g v w s []) := by
  have hB := (Below.refl _ w).alloc (Nat.le_refl _) (.cells #[.int .u8 k, .int .i64 src, .int .i64 dst, .int .i64 tm, .int .i64 ix, .int .i64 lt, .slice a n c, .int .i64 cm, .bool ok] 34)
  have h1 := h.below hB
  obtain ⟨x2, f2⟩ := h.term
  obtain ⟨x5, f5⟩ := h.role
  rw [hT] at x2
  rw [hR] at x5
  have hlt := h.lt
  clear hT hR
  go_enter Try.func44, Try.ntmps44
  go_wp2_with fail
  go_quiet (fail)
  go_wp2_with fail
  go_ret
  exact ⟨_, rfl, Did.none (h1.drewN _) ((Only.of_below hB).drewN _) hlt⟩

set_option maxRecDepth 100000 in
set_option maxHeartbeats 2000000 in
theorem voted_c (g : Nat) (s : Srv) (v : Value) (R : Nat) (T : Int) (hR : s.role = R) (hT : s.term = T) (k : Nat) (src dst tm ix lt cm : Int) (ok : Bool) (a : Option Addr) (n c : Nat) (w : World) (h : Is w g s v) (d0 : ((R : Int) != 1) = false) (d1 : (tm != T) = false) :
    Calls Try.prog 44 #[.pointer (some ⟨g, 0, none⟩), .agg #[.int .u8 k, .int .i64 src, .int .i64 dst, .int .i64 tm, .int .i64 ix, .int .i64 lt, .slice a n c, .int .i64 cm, .bool false]] w (DidPost g v w s []) := by
  have hB := (Below.refl _ w).alloc (Nat.le_refl _) (.cells #[.int .u8 k, .int .i64 src, .int .i64 dst, .int .i64 tm, .int .i64 ix, .int .i64 lt, .slice a n c, .int .i64 cm, .bool false] 34)
  have h1 := h.below hB
  obtain ⟨x2, f2⟩ := h.term
  obtain ⟨x5, f5⟩ := h.role
  rw [hT] at x2
  rw [hR] at x5
  have hlt := h.lt
  clear hT hR
  go_enter Try.func44, Try.ntmps44
  go_wp2_with fail
  go_quiet (fail)
  go_wp2_with fail
  go_ret
  exact ⟨_, rfl, Did.none (h1.drewN _) ((Only.of_below hB).drewN _) hlt⟩

set_option maxRecDepth 100000 in
set_option maxHeartbeats 2000000 in
theorem voted_d (g : Nat) (s : Srv) (v : Value) (F : Fit s) (T : Int) (hR : s.role = 1) (hT : s.term = T) (hv : s.voters < 128) (k f : Nat) (hf : f < 7) (dst tm ix lt cm : Int) (a : Option Addr) (n c : Nat) (w : World) (h : Is w g s v) (d1 : (tm != T) = false) (hp : 2 * pop (s.voters ||| 2 ^ f) ≤ s.nodes) :
    Calls Try.prog 44 #[.pointer (some ⟨g, 0, none⟩), .agg #[.int .u8 k, .int .i64 (f : Nat), .int .i64 dst, .int .i64 tm, .int .i64 ix, .int .i64 lt, .slice a n c, .int .i64 cm, .bool true]] w (DidPost g v w (counted s f) []) := by
  have hB := (Below.refl _ w).alloc (Nat.le_refl _) (.cells #[.int .u8 k, .int .i64 (f : Nat), .int .i64 dst, .int .i64 tm, .int .i64 ix, .int .i64 lt, .slice a n c, .int .i64 cm, .bool true] 34)
  have h1 := h.below hB
  have hbx := heap_alloc_new w (.cells #[.int .u8 k, .int .i64 (f : Nat), .int .i64 dst, .int .i64 tm, .int .i64 ix, .int .i64 lt, .slice a n c, .int .i64 cm, .bool true] 34)
  obtain ⟨x1, f1⟩ := h.nodes
  obtain ⟨x2, f2⟩ := h.term
  obtain ⟨x5, f5⟩ := h.role
  rw [hT] at x2
  rw [hR] at x5
  have hlt := h.lt
  have hor := or_voters s.voters f hv hf
  have hol := or_lt s.voters f hv hf
  have hcs : ({ s with voters := s.voters ||| 2 ^ f } : Srv) = counted s f := rfl
  have F2 : Fit (counted s f) := ⟨F.nodes, F.len, F.commit, F.mat, F.next⟩
  clear hT hR
  have d0 : ((1 : Int) != 1) = false := by decide
  go_enter Try.func44, Try.ntmps44
  go_wp2_with fail
  go_quiet (fail)
  go_wp2_with fail
  have hbx2 := hbx
  generalize hW : (w.alloc (.cells #[.int .u8 k, .int .i64 (f : Nat), .int .i64 dst, .int .i64 tm, .int .i64 ix, .int .i64 lt, .slice a n c, .int .i64 cm, .bool true] 34)) = W0 at *
  have h2 := h1.drewN nq
  have hO2 : Only (fun k => k = g) w (W0.drewN nq) := (Only.of_below hB).drewN nq
  replace hbx2 : (W0.drewN nq).heap[w.heap.size]? = _ := hbx2
  have hblt : w.heap.size < (W0.drewN nq).heap.size := (Array.getElem?_eq_some_iff.1 hbx2).1
  generalize (W0.drewN nq) = W at *
  clear hW hB h1 hbx x1 f1 x2 f2 x5 f5
  have y1 : W.cell? ⟨w.heap.size, 1, none⟩ = some (.int .i64 (f : Nat)) := by simp [World.cell?, hbx2]
  obtain ⟨y8, f8⟩ := h2.voters
  have hgn : ¬ g = w.heap.size := by omega
  have hf2 : (f : Int) < 64 := by omega
  have h3 := h2.set (s' := counted s f) rfl 8 (.int .u64 (s.voters ||| 2 ^ f : Nat)) rfl
  have hO3 := Only.set (S := fun k => k = g) hO2 (p := ⟨g, 8, none⟩) (.inl rfl) (.int .u64 (s.voters ||| 2 ^ f : Nat))
  go_region
  have h4 : Is (W.setCell ⟨g, 8, none⟩ (.int .u64 (s.voters ||| 2 ^ f : Nat))).drew g (counted s f) v := h3.drewN 1
  have hO4 : Only (fun k => k = g) w (W.setCell ⟨g, 8, none⟩ (.int .u64 (s.voters ||| 2 ^ f : Nat))).drew := hO3.drew
  generalize (W.setCell ⟨g, 8, none⟩ (.int .u64 (s.voters ||| 2 ^ f : Nat))).drew = W3 at *
  clear h3 hO3 y8 f8 h2 hO2 hbx2
  have z8 : W3.cell? ⟨g, 8, none⟩ = some (.int .u64 (s.voters ||| 2 ^ f : Nat)) := h4.voters.1
  have z1 : W3.cell? ⟨g, 1, none⟩ = some (.int .i64 s.nodes) := h4.nodes.1
  generalize hX : s.voters ||| 2 ^ f = X at *
  have cp := fun W' => ones_is X hol W'
  have hp7 := pop_le X
  clear hcs hor
  have e1 : decide (2 * (pop X : Int) ≤ s.nodes) = true := by simp; omega
  clear hp hol hX
  generalize pop X = P at *
  go_wp2_with fail
  go_quiet ((go_at_call 66; exact Calls.quiet_of_same ((cp _).mono (fun e w' he => ⟨he.1, he.2.symm⟩))))
  go_wp2_with fail
  go_ret
  exact ⟨_, rfl, Did.none (h4.drewN _) (hO4.drewN _) hlt⟩
set_option maxRecDepth 100000 in
set_option maxHeartbeats 2000000 in
theorem voted_e (g : Nat) (s : Srv) (v : Value) (F : Fit s) (T : Int) (hR : s.role = 1) (hT : s.term = T) (hv : s.voters < 128) (k f : Nat) (hf : f < 7) (dst tm ix lt cm : Int) (a : Option Addr) (n c : Nat) (w : World) (h : Is w g s v) (d1 : (tm != T) = false) (hp : ¬ 2 * pop (s.voters ||| 2 ^ f) ≤ s.nodes) :
    Calls Try.prog 44 #[.pointer (some ⟨g, 0, none⟩), .agg #[.int .u8 k, .int .i64 (f : Nat), .int .i64 dst, .int .i64 tm, .int .i64 ix, .int .i64 lt, .slice a n c, .int .i64 cm, .bool true]] w (DidPost g v w (leadS (counted s f)) (outs (sendTo (leadS (counted s f))) s.id s.nodes)) := by
  have hB := (Below.refl _ w).alloc (Nat.le_refl _) (.cells #[.int .u8 k, .int .i64 (f : Nat), .int .i64 dst, .int .i64 tm, .int .i64 ix, .int .i64 lt, .slice a n c, .int .i64 cm, .bool true] 34)
  have h1 := h.below hB
  have hbx := heap_alloc_new w (.cells #[.int .u8 k, .int .i64 (f : Nat), .int .i64 dst, .int .i64 tm, .int .i64 ix, .int .i64 lt, .slice a n c, .int .i64 cm, .bool true] 34)
  obtain ⟨x1, f1⟩ := h.nodes
  obtain ⟨x2, f2⟩ := h.term
  obtain ⟨x5, f5⟩ := h.role
  rw [hT] at x2
  rw [hR] at x5
  have hlt := h.lt
  have hor := or_voters s.voters f hv hf
  have hol := or_lt s.voters f hv hf
  have hcs : ({ s with voters := s.voters ||| 2 ^ f } : Srv) = counted s f := rfl
  have F2 : Fit (counted s f) := ⟨F.nodes, F.len, F.commit, F.mat, F.next⟩
  clear hT hR
  have d0 : ((1 : Int) != 1) = false := by decide
  go_enter Try.func44, Try.ntmps44
  go_wp2_with fail
  go_quiet (fail)
  go_wp2_with fail
  have hbx2 := hbx
  generalize hW : (w.alloc (.cells #[.int .u8 k, .int .i64 (f : Nat), .int .i64 dst, .int .i64 tm, .int .i64 ix, .int .i64 lt, .slice a n c, .int .i64 cm, .bool true] 34)) = W0 at *
  have h2 := h1.drewN nq
  have hO2 : Only (fun k => k = g) w (W0.drewN nq) := (Only.of_below hB).drewN nq
  replace hbx2 : (W0.drewN nq).heap[w.heap.size]? = _ := hbx2
  have hblt : w.heap.size < (W0.drewN nq).heap.size := (Array.getElem?_eq_some_iff.1 hbx2).1
  generalize (W0.drewN nq) = W at *
  clear hW hB h1 hbx x1 f1 x2 f2 x5 f5
  have y1 : W.cell? ⟨w.heap.size, 1, none⟩ = some (.int .i64 (f : Nat)) := by simp [World.cell?, hbx2]
  obtain ⟨y8, f8⟩ := h2.voters
  have hgn : ¬ g = w.heap.size := by omega
  have hf2 : (f : Int) < 64 := by omega
  have h3 := h2.set (s' := counted s f) rfl 8 (.int .u64 (s.voters ||| 2 ^ f : Nat)) rfl
  have hO3 := Only.set (S := fun k => k = g) hO2 (p := ⟨g, 8, none⟩) (.inl rfl) (.int .u64 (s.voters ||| 2 ^ f : Nat))
  go_region
  have h4 : Is (W.setCell ⟨g, 8, none⟩ (.int .u64 (s.voters ||| 2 ^ f : Nat))).drew g (counted s f) v := h3.drewN 1
  have hO4 : Only (fun k => k = g) w (W.setCell ⟨g, 8, none⟩ (.int .u64 (s.voters ||| 2 ^ f : Nat))).drew := hO3.drew
  generalize (W.setCell ⟨g, 8, none⟩ (.int .u64 (s.voters ||| 2 ^ f : Nat))).drew = W3 at *
  clear h3 hO3 y8 f8 h2 hO2 hbx2
  have z8 : W3.cell? ⟨g, 8, none⟩ = some (.int .u64 (s.voters ||| 2 ^ f : Nat)) := h4.voters.1
  have z1 : W3.cell? ⟨g, 1, none⟩ = some (.int .i64 s.nodes) := h4.nodes.1
  generalize hX : s.voters ||| 2 ^ f = X at *
  have cp := fun W' => ones_is X hol W'
  have hp7 := pop_le X
  clear hcs hor
  have e1 : decide (2 * (pop X : Int) ≤ s.nodes) = false := by simp; omega
  have e1' : (s.nodes : Int) < 2 * (pop X : Int) := by omega
  clear hp hol hX
  generalize pop X = P at *
  go_wp2_with fail
  go_quiet ((go_at_call 66; exact Calls.quiet_of_same ((cp _).mono (fun e w' he => ⟨he.1, he.2.symm⟩))))
  go_wp2_with fail
  refine (lead_is g (counted s f) v F2 _ (h4.drewN _)).mono ?_
  rintro e w4 ⟨out, rfl, hD⟩
  go_wp2_with fail
  go_ret
  exact ⟨out, rfl, hD.below ((hO4.drewN _).weak (fun _ e => .inl e)) (fun k hk => .inl hk) hlt⟩

theorem voted_is (g : Nat) (s : Srv) (v : Value) (m : Msg) (a : Option Addr) (n c : Nat) (F : Fit s) (hv : s.voters < 128) (hs : 0 ≤ m.src ∧ m.src < 7) (w : World) (h : Is w g s v) :
    Calls Try.prog 44 #[.pointer (some ⟨g, 0, none⟩), .agg (mc m (.slice a n c))] w (DidPost g v w (votedS s m) (votedM s m)) := by
  obtain ⟨k, src, dst, tm, ix, lt, es, cm, ok⟩ := m
  obtain ⟨hs1, hs2⟩ := hs
  dsimp only at hs1 hs2
  show Calls Try.prog 44 #[.pointer (some ⟨g, 0, none⟩), .agg #[.int .u8 k, .int .i64 src, .int .i64 dst, .int .i64 tm, .int .i64 ix, .int .i64 lt, .slice a n c, .int .i64 cm, .bool ok]] w _
  unfold votedS votedM
  generalize hG : votedOn s ⟨k, src, dst, tm, ix, lt, es, cm, ok⟩ = G
  unfold votedOn at hG
  dsimp only at hG ⊢
  by_cases r1 : s.role = 1
  rotate_left
  · have hG2 : G = false := by rw [← hG]; simp [r1]
    subst hG2
    exact voted_a g s v _ _ rfl rfl k src dst tm ix lt cm ok a n c w h (by simp; omega)
  by_cases t1 : tm = s.term
  rotate_left
  · have hG2 : G = false := by rw [← hG]; simp [t1]
    subst hG2
    exact voted_b g s v _ _ rfl rfl k src dst tm ix lt cm ok a n c w h (by simp [r1]) (by simp [t1])
  cases ok with
  | false =>
    have hG2 : G = false := by rw [← hG]; simp
    subst hG2
    exact voted_c g s v _ _ rfl rfl k src dst tm ix lt cm true a n c w h (by simp [r1]) (by simp [t1])
  | true =>
    have hG2 : G = true := by rw [← hG]; simp [r1, t1]
    subst hG2
    obtain ⟨f, rfl⟩ : ∃ f : Nat, src = f := ⟨src.toNat, by omega⟩
    simp only [Int.toNat_natCast, if_true]
    by_cases hp : 2 * pop (s.voters ||| 2 ^ f) ≤ s.nodes
    · rw [if_pos hp, if_pos hp]
      exact voted_d g s v F _ r1 rfl hv k f (by omega) dst tm ix lt cm a n c w h (by simp [t1]) hp
    · rw [if_neg hp, if_neg hp]
      exact voted_e g s v F _ r1 rfl hv k f (by omega) dst tm ix lt cm a n c w h (by simp [t1]) hp
end Rf
end Go.Proofs.Ytdacdkidjgbdoaa
