/- The contract of raft's asked. -/
import Derived.Test.YtdacdkidjgbdoaaTc
set_option linter.unusedVariables false
set_option linter.unusedSimpArgs false
namespace Go.Proofs.Ytdacdkidjgbdoaa
open Go Go.RowKit
namespace Rf
attribute [local go_sem ↓] Go.wp_at_zero Go.wp_at_succ

def newerB (s : Srv) (m : Msg) : Bool := decide (tat s.log s.log.length < m.logTerm ∨ m.logTerm = tat s.log s.log.length ∧ (s.log.length : Int) ≤ m.index)
def grantB (s : Srv) (m : Msg) : Bool := decide (m.term = s.term) && (decide (s.vote = -1 ∨ s.vote = m.src) && newerB s m)
def askedS (s : Srv) (m : Msg) : Srv := if grantB s m = true then { s with vote := m.src } else s
def askedM (s : Srv) (m : Msg) : List Msg := [answerTo s m.src 2 0 (grantB s m)]
def DidPost (g : Nat) (v : Value) (w : World) (s' : Srv) (ms : List Msg) (e : Ending) (w' : World) : Prop := ∃ out, e = .returned out ∧ Did g v w s' ms out w'

theorem asked_end {g : Nat} {s' : Srv} {v out : Value} {w w1 w2 : World} {ms : List Msg} (h : Is w1 g s' v) (hO : Only (fun k => k = g) w w1) (hlt : g < w.heap.size) (ho : Out w2 w1.heap.size out ms) (hB : Below w1.heap.size w1 w2) : Did g v w s' ms out w2 :=
  (Did.quiet h hB ho).below (hO.weak (fun _ e => .inl e)) (fun k hk => .inl hk) hlt

set_option maxRecDepth 100000 in
set_option maxHeartbeats 1000000 in
theorem asked_A1 (g : Nat) (s : Srv) (v : Value) (top T V : Int) (L : Nat) (hT : s.term = T) (hV : s.vote = V) (hL : s.log.length = L) (hLe : L ≤ 100000) (k : Nat) (src dst tm ix lt cm : Int) (ok : Bool) (a : Option Addr) (n c : Nat) (htop : tat s.log s.log.length = top) (w : World) (h : Is w g s v) (d0 : decide (top < lt) = true) (d1 : (tm == T) = false) :
    Calls Try.prog 43 #[.pointer (some ⟨g, 0, none⟩), .agg #[.int .u8 k, .int .i64 src, .int .i64 dst, .int .i64 tm, .int .i64 ix, .int .i64 lt, .slice a n c, .int .i64 cm, .bool ok]] w (DidPost g v w s [answerTo s src 2 0 false]) := by
  have hB := (Below.refl _ w).alloc (Nat.le_refl _) (.cells #[.int .u8 k, .int .i64 src, .int .i64 dst, .int .i64 tm, .int .i64 ix, .int .i64 lt, .slice a n c, .int .i64 cm, .bool ok] 34)
  have h1 := h.below hB
  have hbx := heap_alloc_new w (.cells #[.int .u8 k, .int .i64 src, .int .i64 dst, .int .i64 tm, .int .i64 ix, .int .i64 lt, .slice a n c, .int .i64 cm, .bool ok] 34)
  have cl := fun W (hW : Is W g s v) => last_is g s v W hW
  have ct := fun W (hW : Is W g s v) => term_is g s v s.log.length (Nat.le_refl _) (by omega) W hW
  rw [hL] at cl
  rw [htop, hL] at ct
  obtain ⟨x2, f2⟩ := h.term
  obtain ⟨x3, f3⟩ := h.vote
  rw [hT] at x2
  rw [hV] at x3
  have hlt := h.lt
  clear hT hV hL htop
  go_enter Try.func43, Try.ntmps43
  go_wp2_with fail
  refine (cl _ h1).mono ?_
  rintro e w1 ⟨rfl, rfl⟩
  go_wp2_with fail
  refine (ct _ h1).mono ?_
  rintro e w1 ⟨rfl, rfl⟩
  go_wp2_with fail
  go_quiet (fail)
  go_wp2_with fail
  go_quiet (fail)
  go_wp2_with fail
  refine (answer_is g s v ⟨k, src, dst, tm, ix, lt, [], cm, ok⟩ a n c 2 0 false _ (h1.drewN _)).mono ?_
  rintro e w2 ⟨out, rfl, hO, hB2⟩
  go_wp2_with fail
  go_ret
  exact ⟨out, rfl, asked_end (h1.drewN _) ((Only.of_below hB).drewN _) hlt hO hB2⟩

set_option maxRecDepth 100000 in
set_option maxHeartbeats 1000000 in
theorem asked_A2 (g : Nat) (s : Srv) (v : Value) (top T V : Int) (L : Nat) (hT : s.term = T) (hV : s.vote = V) (hL : s.log.length = L) (hLe : L ≤ 100000) (k : Nat) (src dst tm ix lt cm : Int) (ok : Bool) (a : Option Addr) (n c : Nat) (htop : tat s.log s.log.length = top) (w : World) (h : Is w g s v) (d0 : decide (top < lt) = true) (d1 : (tm == T) = true) (d2 : (V == -1) = true) :
    Calls Try.prog 43 #[.pointer (some ⟨g, 0, none⟩), .agg #[.int .u8 k, .int .i64 src, .int .i64 dst, .int .i64 tm, .int .i64 ix, .int .i64 lt, .slice a n c, .int .i64 cm, .bool ok]] w (DidPost g v w { s with vote := src } [answerTo s src 2 0 true]) := by
  have hB := (Below.refl _ w).alloc (Nat.le_refl _) (.cells #[.int .u8 k, .int .i64 src, .int .i64 dst, .int .i64 tm, .int .i64 ix, .int .i64 lt, .slice a n c, .int .i64 cm, .bool ok] 34)
  have h1 := h.below hB
  have hbx := heap_alloc_new w (.cells #[.int .u8 k, .int .i64 src, .int .i64 dst, .int .i64 tm, .int .i64 ix, .int .i64 lt, .slice a n c, .int .i64 cm, .bool ok] 34)
  have cl := fun W (hW : Is W g s v) => last_is g s v W hW
  have ct := fun W (hW : Is W g s v) => term_is g s v s.log.length (Nat.le_refl _) (by omega) W hW
  rw [hL] at cl
  rw [htop, hL] at ct
  obtain ⟨x2, f2⟩ := h.term
  obtain ⟨x3, f3⟩ := h.vote
  rw [hT] at x2
  rw [hV] at x3
  have hlt := h.lt
  clear hT hV hL htop
  go_enter Try.func43, Try.ntmps43
  go_wp2_with fail
  refine (cl _ h1).mono ?_
  rintro e w1 ⟨rfl, rfl⟩
  go_wp2_with fail
  refine (ct _ h1).mono ?_
  rintro e w1 ⟨rfl, rfl⟩
  go_wp2_with fail
  go_quiet (fail)
  go_wp2_with fail
  go_quiet (fail)
  go_wp2_with fail
  refine (answer_is g { s with vote := src } v ⟨k, src, dst, tm, ix, lt, [], cm, ok⟩ a n c 2 0 true _ ((h1.drewN _).set (s' := { s with vote := src }) rfl 3 (.int .i64 src) rfl)).mono ?_
  rintro e w2 ⟨out, rfl, hO, hB2⟩
  go_wp2_with fail
  go_ret
  exact ⟨out, rfl, asked_end ((h1.drewN _).set (s' := { s with vote := src }) rfl 3 (.int .i64 src) rfl) (Only.set (S := fun k => k = g) ((Only.of_below hB).drewN _) (p := ⟨g, 3, none⟩) (.inl rfl) (.int .i64 src)) hlt hO hB2⟩

set_option maxRecDepth 100000 in
set_option maxHeartbeats 1000000 in
theorem asked_A3 (g : Nat) (s : Srv) (v : Value) (top T V : Int) (L : Nat) (hT : s.term = T) (hV : s.vote = V) (hL : s.log.length = L) (hLe : L ≤ 100000) (k : Nat) (src dst tm ix lt cm : Int) (ok : Bool) (a : Option Addr) (n c : Nat) (htop : tat s.log s.log.length = top) (w : World) (h : Is w g s v) (d0 : decide (top < lt) = true) (d1 : (tm == T) = true) (d2 : (V == -1) = false) (d3 : (V == src) = true) :
    Calls Try.prog 43 #[.pointer (some ⟨g, 0, none⟩), .agg #[.int .u8 k, .int .i64 src, .int .i64 dst, .int .i64 tm, .int .i64 ix, .int .i64 lt, .slice a n c, .int .i64 cm, .bool ok]] w (DidPost g v w { s with vote := src } [answerTo s src 2 0 true]) := by
  have hB := (Below.refl _ w).alloc (Nat.le_refl _) (.cells #[.int .u8 k, .int .i64 src, .int .i64 dst, .int .i64 tm, .int .i64 ix, .int .i64 lt, .slice a n c, .int .i64 cm, .bool ok] 34)
  have h1 := h.below hB
  have hbx := heap_alloc_new w (.cells #[.int .u8 k, .int .i64 src, .int .i64 dst, .int .i64 tm, .int .i64 ix, .int .i64 lt, .slice a n c, .int .i64 cm, .bool ok] 34)
  have cl := fun W (hW : Is W g s v) => last_is g s v W hW
  have ct := fun W (hW : Is W g s v) => term_is g s v s.log.length (Nat.le_refl _) (by omega) W hW
  rw [hL] at cl
  rw [htop, hL] at ct
  obtain ⟨x2, f2⟩ := h.term
  obtain ⟨x3, f3⟩ := h.vote
  rw [hT] at x2
  rw [hV] at x3
  have hlt := h.lt
  clear hT hV hL htop
  go_enter Try.func43, Try.ntmps43
  go_wp2_with fail
  refine (cl _ h1).mono ?_
  rintro e w1 ⟨rfl, rfl⟩
  go_wp2_with fail
  refine (ct _ h1).mono ?_
  rintro e w1 ⟨rfl, rfl⟩
  go_wp2_with fail
  go_quiet (fail)
  go_wp2_with fail
  go_quiet (fail)
  go_wp2_with fail
  refine (answer_is g { s with vote := src } v ⟨k, src, dst, tm, ix, lt, [], cm, ok⟩ a n c 2 0 true _ ((h1.drewN _).set (s' := { s with vote := src }) rfl 3 (.int .i64 src) rfl)).mono ?_
  rintro e w2 ⟨out, rfl, hO, hB2⟩
  go_wp2_with fail
  go_ret
  exact ⟨out, rfl, asked_end ((h1.drewN _).set (s' := { s with vote := src }) rfl 3 (.int .i64 src) rfl) (Only.set (S := fun k => k = g) ((Only.of_below hB).drewN _) (p := ⟨g, 3, none⟩) (.inl rfl) (.int .i64 src)) hlt hO hB2⟩

set_option maxRecDepth 100000 in
set_option maxHeartbeats 1000000 in
theorem asked_A4 (g : Nat) (s : Srv) (v : Value) (top T V : Int) (L : Nat) (hT : s.term = T) (hV : s.vote = V) (hL : s.log.length = L) (hLe : L ≤ 100000) (k : Nat) (src dst tm ix lt cm : Int) (ok : Bool) (a : Option Addr) (n c : Nat) (htop : tat s.log s.log.length = top) (w : World) (h : Is w g s v) (d0 : decide (top < lt) = true) (d1 : (tm == T) = true) (d2 : (V == -1) = false) (d3 : (V == src) = false) :
    Calls Try.prog 43 #[.pointer (some ⟨g, 0, none⟩), .agg #[.int .u8 k, .int .i64 src, .int .i64 dst, .int .i64 tm, .int .i64 ix, .int .i64 lt, .slice a n c, .int .i64 cm, .bool ok]] w (DidPost g v w s [answerTo s src 2 0 false]) := by
  have hB := (Below.refl _ w).alloc (Nat.le_refl _) (.cells #[.int .u8 k, .int .i64 src, .int .i64 dst, .int .i64 tm, .int .i64 ix, .int .i64 lt, .slice a n c, .int .i64 cm, .bool ok] 34)
  have h1 := h.below hB
  have hbx := heap_alloc_new w (.cells #[.int .u8 k, .int .i64 src, .int .i64 dst, .int .i64 tm, .int .i64 ix, .int .i64 lt, .slice a n c, .int .i64 cm, .bool ok] 34)
  have cl := fun W (hW : Is W g s v) => last_is g s v W hW
  have ct := fun W (hW : Is W g s v) => term_is g s v s.log.length (Nat.le_refl _) (by omega) W hW
  rw [hL] at cl
  rw [htop, hL] at ct
  obtain ⟨x2, f2⟩ := h.term
  obtain ⟨x3, f3⟩ := h.vote
  rw [hT] at x2
  rw [hV] at x3
  have hlt := h.lt
  clear hT hV hL htop
  go_enter Try.func43, Try.ntmps43
  go_wp2_with fail
  refine (cl _ h1).mono ?_
  rintro e w1 ⟨rfl, rfl⟩
  go_wp2_with fail
  refine (ct _ h1).mono ?_
  rintro e w1 ⟨rfl, rfl⟩
  go_wp2_with fail
  go_quiet (fail)
  go_wp2_with fail
  go_quiet (fail)
  go_wp2_with fail
  refine (answer_is g s v ⟨k, src, dst, tm, ix, lt, [], cm, ok⟩ a n c 2 0 false _ (h1.drewN _)).mono ?_
  rintro e w2 ⟨out, rfl, hO, hB2⟩
  go_wp2_with fail
  go_ret
  exact ⟨out, rfl, asked_end (h1.drewN _) ((Only.of_below hB).drewN _) hlt hO hB2⟩

set_option maxRecDepth 100000 in
set_option maxHeartbeats 1000000 in
theorem asked_B1 (g : Nat) (s : Srv) (v : Value) (top T V : Int) (L : Nat) (hT : s.term = T) (hV : s.vote = V) (hL : s.log.length = L) (hLe : L ≤ 100000) (k : Nat) (src dst tm ix lt cm : Int) (ok : Bool) (a : Option Addr) (n c : Nat) (htop : tat s.log s.log.length = top) (w : World) (h : Is w g s v) (d0 : decide (top < lt) = false) (d1 : (lt == top) = true) (d2 : decide ((L : Int) ≤ ix) = true) (d3 : (tm == T) = false) :
    Calls Try.prog 43 #[.pointer (some ⟨g, 0, none⟩), .agg #[.int .u8 k, .int .i64 src, .int .i64 dst, .int .i64 tm, .int .i64 ix, .int .i64 lt, .slice a n c, .int .i64 cm, .bool ok]] w (DidPost g v w s [answerTo s src 2 0 false]) := by
  have hB := (Below.refl _ w).alloc (Nat.le_refl _) (.cells #[.int .u8 k, .int .i64 src, .int .i64 dst, .int .i64 tm, .int .i64 ix, .int .i64 lt, .slice a n c, .int .i64 cm, .bool ok] 34)
  have h1 := h.below hB
  have hbx := heap_alloc_new w (.cells #[.int .u8 k, .int .i64 src, .int .i64 dst, .int .i64 tm, .int .i64 ix, .int .i64 lt, .slice a n c, .int .i64 cm, .bool ok] 34)
  have cl := fun W (hW : Is W g s v) => last_is g s v W hW
  have ct := fun W (hW : Is W g s v) => term_is g s v s.log.length (Nat.le_refl _) (by omega) W hW
  rw [hL] at cl
  rw [htop, hL] at ct
  obtain ⟨x2, f2⟩ := h.term
  obtain ⟨x3, f3⟩ := h.vote
  rw [hT] at x2
  rw [hV] at x3
  have hlt := h.lt
  clear hT hV hL htop
  go_enter Try.func43, Try.ntmps43
  go_wp2_with fail
  refine (cl _ h1).mono ?_
  rintro e w1 ⟨rfl, rfl⟩
  go_wp2_with fail
  refine (ct _ h1).mono ?_
  rintro e w1 ⟨rfl, rfl⟩
  go_wp2_with fail
  go_quiet ((go_at_call 40; exact Calls.quiet_of_same ((cl _ (by exact h1.drewN _)).mono (fun e w' he => ⟨he.1, he.2.symm⟩))))
  go_wp2_with fail
  go_quiet (fail)
  go_wp2_with fail
  refine (answer_is g s v ⟨k, src, dst, tm, ix, lt, [], cm, ok⟩ a n c 2 0 false _ (h1.drewN _)).mono ?_
  rintro e w2 ⟨out, rfl, hO, hB2⟩
  go_wp2_with fail
  go_ret
  exact ⟨out, rfl, asked_end (h1.drewN _) ((Only.of_below hB).drewN _) hlt hO hB2⟩

set_option maxRecDepth 100000 in
set_option maxHeartbeats 1000000 in
theorem asked_B2 (g : Nat) (s : Srv) (v : Value) (top T V : Int) (L : Nat) (hT : s.term = T) (hV : s.vote = V) (hL : s.log.length = L) (hLe : L ≤ 100000) (k : Nat) (src dst tm ix lt cm : Int) (ok : Bool) (a : Option Addr) (n c : Nat) (htop : tat s.log s.log.length = top) (w : World) (h : Is w g s v) (d0 : decide (top < lt) = false) (d1 : (lt == top) = true) (d2 : decide ((L : Int) ≤ ix) = true) (d3 : (tm == T) = true) (d4 : (V == -1) = true) :
    Calls Try.prog 43 #[.pointer (some ⟨g, 0, none⟩), .agg #[.int .u8 k, .int .i64 src, .int .i64 dst, .int .i64 tm, .int .i64 ix, .int .i64 lt, .slice a n c, .int .i64 cm, .bool ok]] w (DidPost g v w { s with vote := src } [answerTo s src 2 0 true]) := by
  have hB := (Below.refl _ w).alloc (Nat.le_refl _) (.cells #[.int .u8 k, .int .i64 src, .int .i64 dst, .int .i64 tm, .int .i64 ix, .int .i64 lt, .slice a n c, .int .i64 cm, .bool ok] 34)
  have h1 := h.below hB
  have hbx := heap_alloc_new w (.cells #[.int .u8 k, .int .i64 src, .int .i64 dst, .int .i64 tm, .int .i64 ix, .int .i64 lt, .slice a n c, .int .i64 cm, .bool ok] 34)
  have cl := fun W (hW : Is W g s v) => last_is g s v W hW
  have ct := fun W (hW : Is W g s v) => term_is g s v s.log.length (Nat.le_refl _) (by omega) W hW
  rw [hL] at cl
  rw [htop, hL] at ct
  obtain ⟨x2, f2⟩ := h.term
  obtain ⟨x3, f3⟩ := h.vote
  rw [hT] at x2
  rw [hV] at x3
  have hlt := h.lt
  clear hT hV hL htop
  go_enter Try.func43, Try.ntmps43
  go_wp2_with fail
  refine (cl _ h1).mono ?_
  rintro e w1 ⟨rfl, rfl⟩
  go_wp2_with fail
  refine (ct _ h1).mono ?_
  rintro e w1 ⟨rfl, rfl⟩
  go_wp2_with fail
  go_quiet ((go_at_call 40; exact Calls.quiet_of_same ((cl _ (by exact h1.drewN _)).mono (fun e w' he => ⟨he.1, he.2.symm⟩))))
  go_wp2_with fail
  go_quiet (fail)
  go_wp2_with fail
  refine (answer_is g { s with vote := src } v ⟨k, src, dst, tm, ix, lt, [], cm, ok⟩ a n c 2 0 true _ ((h1.drewN _).set (s' := { s with vote := src }) rfl 3 (.int .i64 src) rfl)).mono ?_
  rintro e w2 ⟨out, rfl, hO, hB2⟩
  go_wp2_with fail
  go_ret
  exact ⟨out, rfl, asked_end ((h1.drewN _).set (s' := { s with vote := src }) rfl 3 (.int .i64 src) rfl) (Only.set (S := fun k => k = g) ((Only.of_below hB).drewN _) (p := ⟨g, 3, none⟩) (.inl rfl) (.int .i64 src)) hlt hO hB2⟩

set_option maxRecDepth 100000 in
set_option maxHeartbeats 1000000 in
theorem asked_B3 (g : Nat) (s : Srv) (v : Value) (top T V : Int) (L : Nat) (hT : s.term = T) (hV : s.vote = V) (hL : s.log.length = L) (hLe : L ≤ 100000) (k : Nat) (src dst tm ix lt cm : Int) (ok : Bool) (a : Option Addr) (n c : Nat) (htop : tat s.log s.log.length = top) (w : World) (h : Is w g s v) (d0 : decide (top < lt) = false) (d1 : (lt == top) = true) (d2 : decide ((L : Int) ≤ ix) = true) (d3 : (tm == T) = true) (d4 : (V == -1) = false) (d5 : (V == src) = true) :
    Calls Try.prog 43 #[.pointer (some ⟨g, 0, none⟩), .agg #[.int .u8 k, .int .i64 src, .int .i64 dst, .int .i64 tm, .int .i64 ix, .int .i64 lt, .slice a n c, .int .i64 cm, .bool ok]] w (DidPost g v w { s with vote := src } [answerTo s src 2 0 true]) := by
  have hB := (Below.refl _ w).alloc (Nat.le_refl _) (.cells #[.int .u8 k, .int .i64 src, .int .i64 dst, .int .i64 tm, .int .i64 ix, .int .i64 lt, .slice a n c, .int .i64 cm, .bool ok] 34)
  have h1 := h.below hB
  have hbx := heap_alloc_new w (.cells #[.int .u8 k, .int .i64 src, .int .i64 dst, .int .i64 tm, .int .i64 ix, .int .i64 lt, .slice a n c, .int .i64 cm, .bool ok] 34)
  have cl := fun W (hW : Is W g s v) => last_is g s v W hW
  have ct := fun W (hW : Is W g s v) => term_is g s v s.log.length (Nat.le_refl _) (by omega) W hW
  rw [hL] at cl
  rw [htop, hL] at ct
  obtain ⟨x2, f2⟩ := h.term
  obtain ⟨x3, f3⟩ := h.vote
  rw [hT] at x2
  rw [hV] at x3
  have hlt := h.lt
  clear hT hV hL htop
  go_enter Try.func43, Try.ntmps43
  go_wp2_with fail
  refine (cl _ h1).mono ?_
  rintro e w1 ⟨rfl, rfl⟩
  go_wp2_with fail
  refine (ct _ h1).mono ?_
  rintro e w1 ⟨rfl, rfl⟩
  go_wp2_with fail
  go_quiet ((go_at_call 40; exact Calls.quiet_of_same ((cl _ (by exact h1.drewN _)).mono (fun e w' he => ⟨he.1, he.2.symm⟩))))
  go_wp2_with fail
  go_quiet (fail)
  go_wp2_with fail
  refine (answer_is g { s with vote := src } v ⟨k, src, dst, tm, ix, lt, [], cm, ok⟩ a n c 2 0 true _ ((h1.drewN _).set (s' := { s with vote := src }) rfl 3 (.int .i64 src) rfl)).mono ?_
  rintro e w2 ⟨out, rfl, hO, hB2⟩
  go_wp2_with fail
  go_ret
  exact ⟨out, rfl, asked_end ((h1.drewN _).set (s' := { s with vote := src }) rfl 3 (.int .i64 src) rfl) (Only.set (S := fun k => k = g) ((Only.of_below hB).drewN _) (p := ⟨g, 3, none⟩) (.inl rfl) (.int .i64 src)) hlt hO hB2⟩

set_option maxRecDepth 100000 in
set_option maxHeartbeats 1000000 in
theorem asked_B4 (g : Nat) (s : Srv) (v : Value) (top T V : Int) (L : Nat) (hT : s.term = T) (hV : s.vote = V) (hL : s.log.length = L) (hLe : L ≤ 100000) (k : Nat) (src dst tm ix lt cm : Int) (ok : Bool) (a : Option Addr) (n c : Nat) (htop : tat s.log s.log.length = top) (w : World) (h : Is w g s v) (d0 : decide (top < lt) = false) (d1 : (lt == top) = true) (d2 : decide ((L : Int) ≤ ix) = true) (d3 : (tm == T) = true) (d4 : (V == -1) = false) (d5 : (V == src) = false) :
    Calls Try.prog 43 #[.pointer (some ⟨g, 0, none⟩), .agg #[.int .u8 k, .int .i64 src, .int .i64 dst, .int .i64 tm, .int .i64 ix, .int .i64 lt, .slice a n c, .int .i64 cm, .bool ok]] w (DidPost g v w s [answerTo s src 2 0 false]) := by
  have hB := (Below.refl _ w).alloc (Nat.le_refl _) (.cells #[.int .u8 k, .int .i64 src, .int .i64 dst, .int .i64 tm, .int .i64 ix, .int .i64 lt, .slice a n c, .int .i64 cm, .bool ok] 34)
  have h1 := h.below hB
  have hbx := heap_alloc_new w (.cells #[.int .u8 k, .int .i64 src, .int .i64 dst, .int .i64 tm, .int .i64 ix, .int .i64 lt, .slice a n c, .int .i64 cm, .bool ok] 34)
  have cl := fun W (hW : Is W g s v) => last_is g s v W hW
  have ct := fun W (hW : Is W g s v) => term_is g s v s.log.length (Nat.le_refl _) (by omega) W hW
  rw [hL] at cl
  rw [htop, hL] at ct
  obtain ⟨x2, f2⟩ := h.term
  obtain ⟨x3, f3⟩ := h.vote
  rw [hT] at x2
  rw [hV] at x3
  have hlt := h.lt
  clear hT hV hL htop
  go_enter Try.func43, Try.ntmps43
  go_wp2_with fail
  refine (cl _ h1).mono ?_
  rintro e w1 ⟨rfl, rfl⟩
  go_wp2_with fail
  refine (ct _ h1).mono ?_
  rintro e w1 ⟨rfl, rfl⟩
  go_wp2_with fail
  go_quiet ((go_at_call 40; exact Calls.quiet_of_same ((cl _ (by exact h1.drewN _)).mono (fun e w' he => ⟨he.1, he.2.symm⟩))))
  go_wp2_with fail
  go_quiet (fail)
  go_wp2_with fail
  refine (answer_is g s v ⟨k, src, dst, tm, ix, lt, [], cm, ok⟩ a n c 2 0 false _ (h1.drewN _)).mono ?_
  rintro e w2 ⟨out, rfl, hO, hB2⟩
  go_wp2_with fail
  go_ret
  exact ⟨out, rfl, asked_end (h1.drewN _) ((Only.of_below hB).drewN _) hlt hO hB2⟩

set_option maxRecDepth 100000 in
set_option maxHeartbeats 1000000 in
theorem asked_C1 (g : Nat) (s : Srv) (v : Value) (top T V : Int) (L : Nat) (hT : s.term = T) (hV : s.vote = V) (hL : s.log.length = L) (hLe : L ≤ 100000) (k : Nat) (src dst tm ix lt cm : Int) (ok : Bool) (a : Option Addr) (n c : Nat) (htop : tat s.log s.log.length = top) (w : World) (h : Is w g s v) (d0 : decide (top < lt) = false) (d1 : (lt == top) = true) (d2 : decide ((L : Int) ≤ ix) = false) (d3 : (tm == T) = false) :
    Calls Try.prog 43 #[.pointer (some ⟨g, 0, none⟩), .agg #[.int .u8 k, .int .i64 src, .int .i64 dst, .int .i64 tm, .int .i64 ix, .int .i64 lt, .slice a n c, .int .i64 cm, .bool ok]] w (DidPost g v w s [answerTo s src 2 0 false]) := by
  have hB := (Below.refl _ w).alloc (Nat.le_refl _) (.cells #[.int .u8 k, .int .i64 src, .int .i64 dst, .int .i64 tm, .int .i64 ix, .int .i64 lt, .slice a n c, .int .i64 cm, .bool ok] 34)
  have h1 := h.below hB
  have hbx := heap_alloc_new w (.cells #[.int .u8 k, .int .i64 src, .int .i64 dst, .int .i64 tm, .int .i64 ix, .int .i64 lt, .slice a n c, .int .i64 cm, .bool ok] 34)
  have cl := fun W (hW : Is W g s v) => last_is g s v W hW
  have ct := fun W (hW : Is W g s v) => term_is g s v s.log.length (Nat.le_refl _) (by omega) W hW
  rw [hL] at cl
  rw [htop, hL] at ct
  obtain ⟨x2, f2⟩ := h.term
  obtain ⟨x3, f3⟩ := h.vote
  rw [hT] at x2
  rw [hV] at x3
  have hlt := h.lt
  clear hT hV hL htop
  go_enter Try.func43, Try.ntmps43
  go_wp2_with fail
  refine (cl _ h1).mono ?_
  rintro e w1 ⟨rfl, rfl⟩
  go_wp2_with fail
  refine (ct _ h1).mono ?_
  rintro e w1 ⟨rfl, rfl⟩
  go_wp2_with fail
  go_quiet ((go_at_call 40; exact Calls.quiet_of_same ((cl _ (by exact h1.drewN _)).mono (fun e w' he => ⟨he.1, he.2.symm⟩))))
  go_wp2_with fail
  go_quiet (fail)
  go_wp2_with fail
  refine (answer_is g s v ⟨k, src, dst, tm, ix, lt, [], cm, ok⟩ a n c 2 0 false _ (h1.drewN _)).mono ?_
  rintro e w2 ⟨out, rfl, hO, hB2⟩
  go_wp2_with fail
  go_ret
  exact ⟨out, rfl, asked_end (h1.drewN _) ((Only.of_below hB).drewN _) hlt hO hB2⟩

set_option maxRecDepth 100000 in
set_option maxHeartbeats 1000000 in
theorem asked_C2 (g : Nat) (s : Srv) (v : Value) (top T V : Int) (L : Nat) (hT : s.term = T) (hV : s.vote = V) (hL : s.log.length = L) (hLe : L ≤ 100000) (k : Nat) (src dst tm ix lt cm : Int) (ok : Bool) (a : Option Addr) (n c : Nat) (htop : tat s.log s.log.length = top) (w : World) (h : Is w g s v) (d0 : decide (top < lt) = false) (d1 : (lt == top) = true) (d2 : decide ((L : Int) ≤ ix) = false) (d3 : (tm == T) = true) (d4 : (V == -1) = true) :
    Calls Try.prog 43 #[.pointer (some ⟨g, 0, none⟩), .agg #[.int .u8 k, .int .i64 src, .int .i64 dst, .int .i64 tm, .int .i64 ix, .int .i64 lt, .slice a n c, .int .i64 cm, .bool ok]] w (DidPost g v w s [answerTo s src 2 0 false]) := by
  have hB := (Below.refl _ w).alloc (Nat.le_refl _) (.cells #[.int .u8 k, .int .i64 src, .int .i64 dst, .int .i64 tm, .int .i64 ix, .int .i64 lt, .slice a n c, .int .i64 cm, .bool ok] 34)
  have h1 := h.below hB
  have hbx := heap_alloc_new w (.cells #[.int .u8 k, .int .i64 src, .int .i64 dst, .int .i64 tm, .int .i64 ix, .int .i64 lt, .slice a n c, .int .i64 cm, .bool ok] 34)
  have cl := fun W (hW : Is W g s v) => last_is g s v W hW
  have ct := fun W (hW : Is W g s v) => term_is g s v s.log.length (Nat.le_refl _) (by omega) W hW
  rw [hL] at cl
  rw [htop, hL] at ct
  obtain ⟨x2, f2⟩ := h.term
  obtain ⟨x3, f3⟩ := h.vote
  rw [hT] at x2
  rw [hV] at x3
  have hlt := h.lt
  clear hT hV hL htop
  go_enter Try.func43, Try.ntmps43
  go_wp2_with fail
  refine (cl _ h1).mono ?_
  rintro e w1 ⟨rfl, rfl⟩
  go_wp2_with fail
  refine (ct _ h1).mono ?_
  rintro e w1 ⟨rfl, rfl⟩
  go_wp2_with fail
  go_quiet ((go_at_call 40; exact Calls.quiet_of_same ((cl _ (by exact h1.drewN _)).mono (fun e w' he => ⟨he.1, he.2.symm⟩))))
  go_wp2_with fail
  go_quiet (fail)
  go_wp2_with fail
  refine (answer_is g s v ⟨k, src, dst, tm, ix, lt, [], cm, ok⟩ a n c 2 0 false _ (h1.drewN _)).mono ?_
  rintro e w2 ⟨out, rfl, hO, hB2⟩
  go_wp2_with fail
  go_ret
  exact ⟨out, rfl, asked_end (h1.drewN _) ((Only.of_below hB).drewN _) hlt hO hB2⟩

set_option maxRecDepth 100000 in
set_option maxHeartbeats 1000000 in
theorem asked_C3 (g : Nat) (s : Srv) (v : Value) (top T V : Int) (L : Nat) (hT : s.term = T) (hV : s.vote = V) (hL : s.log.length = L) (hLe : L ≤ 100000) (k : Nat) (src dst tm ix lt cm : Int) (ok : Bool) (a : Option Addr) (n c : Nat) (htop : tat s.log s.log.length = top) (w : World) (h : Is w g s v) (d0 : decide (top < lt) = false) (d1 : (lt == top) = true) (d2 : decide ((L : Int) ≤ ix) = false) (d3 : (tm == T) = true) (d4 : (V == -1) = false) (d5 : (V == src) = true) :
    Calls Try.prog 43 #[.pointer (some ⟨g, 0, none⟩), .agg #[.int .u8 k, .int .i64 src, .int .i64 dst, .int .i64 tm, .int .i64 ix, .int .i64 lt, .slice a n c, .int .i64 cm, .bool ok]] w (DidPost g v w s [answerTo s src 2 0 false]) := by
  have hB := (Below.refl _ w).alloc (Nat.le_refl _) (.cells #[.int .u8 k, .int .i64 src, .int .i64 dst, .int .i64 tm, .int .i64 ix, .int .i64 lt, .slice a n c, .int .i64 cm, .bool ok] 34)
  have h1 := h.below hB
  have hbx := heap_alloc_new w (.cells #[.int .u8 k, .int .i64 src, .int .i64 dst, .int .i64 tm, .int .i64 ix, .int .i64 lt, .slice a n c, .int .i64 cm, .bool ok] 34)
  have cl := fun W (hW : Is W g s v) => last_is g s v W hW
  have ct := fun W (hW : Is W g s v) => term_is g s v s.log.length (Nat.le_refl _) (by omega) W hW
  rw [hL] at cl
  rw [htop, hL] at ct
  obtain ⟨x2, f2⟩ := h.term
  obtain ⟨x3, f3⟩ := h.vote
  rw [hT] at x2
  rw [hV] at x3
  have hlt := h.lt
  clear hT hV hL htop
  go_enter Try.func43, Try.ntmps43
  go_wp2_with fail
  refine (cl _ h1).mono ?_
  rintro e w1 ⟨rfl, rfl⟩
  go_wp2_with fail
  refine (ct _ h1).mono ?_
  rintro e w1 ⟨rfl, rfl⟩
  go_wp2_with fail
  go_quiet ((go_at_call 40; exact Calls.quiet_of_same ((cl _ (by exact h1.drewN _)).mono (fun e w' he => ⟨he.1, he.2.symm⟩))))
  go_wp2_with fail
  go_quiet (fail)
  go_wp2_with fail
  refine (answer_is g s v ⟨k, src, dst, tm, ix, lt, [], cm, ok⟩ a n c 2 0 false _ (h1.drewN _)).mono ?_
  rintro e w2 ⟨out, rfl, hO, hB2⟩
  go_wp2_with fail
  go_ret
  exact ⟨out, rfl, asked_end (h1.drewN _) ((Only.of_below hB).drewN _) hlt hO hB2⟩

set_option maxRecDepth 100000 in
set_option maxHeartbeats 1000000 in
theorem asked_C4 (g : Nat) (s : Srv) (v : Value) (top T V : Int) (L : Nat) (hT : s.term = T) (hV : s.vote = V) (hL : s.log.length = L) (hLe : L ≤ 100000) (k : Nat) (src dst tm ix lt cm : Int) (ok : Bool) (a : Option Addr) (n c : Nat) (htop : tat s.log s.log.length = top) (w : World) (h : Is w g s v) (d0 : decide (top < lt) = false) (d1 : (lt == top) = true) (d2 : decide ((L : Int) ≤ ix) = false) (d3 : (tm == T) = true) (d4 : (V == -1) = false) (d5 : (V == src) = false) :
    Calls Try.prog 43 #[.pointer (some ⟨g, 0, none⟩), .agg #[.int .u8 k, .int .i64 src, .int .i64 dst, .int .i64 tm, .int .i64 ix, .int .i64 lt, .slice a n c, .int .i64 cm, .bool ok]] w (DidPost g v w s [answerTo s src 2 0 false]) := by
  have hB := (Below.refl _ w).alloc (Nat.le_refl _) (.cells #[.int .u8 k, .int .i64 src, .int .i64 dst, .int .i64 tm, .int .i64 ix, .int .i64 lt, .slice a n c, .int .i64 cm, .bool ok] 34)
  have h1 := h.below hB
  have hbx := heap_alloc_new w (.cells #[.int .u8 k, .int .i64 src, .int .i64 dst, .int .i64 tm, .int .i64 ix, .int .i64 lt, .slice a n c, .int .i64 cm, .bool ok] 34)
  have cl := fun W (hW : Is W g s v) => last_is g s v W hW
  have ct := fun W (hW : Is W g s v) => term_is g s v s.log.length (Nat.le_refl _) (by omega) W hW
  rw [hL] at cl
  rw [htop, hL] at ct
  obtain ⟨x2, f2⟩ := h.term
  obtain ⟨x3, f3⟩ := h.vote
  rw [hT] at x2
  rw [hV] at x3
  have hlt := h.lt
  clear hT hV hL htop
  go_enter Try.func43, Try.ntmps43
  go_wp2_with fail
  refine (cl _ h1).mono ?_
  rintro e w1 ⟨rfl, rfl⟩
  go_wp2_with fail
  refine (ct _ h1).mono ?_
  rintro e w1 ⟨rfl, rfl⟩
  go_wp2_with fail
  go_quiet ((go_at_call 40; exact Calls.quiet_of_same ((cl _ (by exact h1.drewN _)).mono (fun e w' he => ⟨he.1, he.2.symm⟩))))
  go_wp2_with fail
  go_quiet (fail)
  go_wp2_with fail
  refine (answer_is g s v ⟨k, src, dst, tm, ix, lt, [], cm, ok⟩ a n c 2 0 false _ (h1.drewN _)).mono ?_
  rintro e w2 ⟨out, rfl, hO, hB2⟩
  go_wp2_with fail
  go_ret
  exact ⟨out, rfl, asked_end (h1.drewN _) ((Only.of_below hB).drewN _) hlt hO hB2⟩

set_option maxRecDepth 100000 in
set_option maxHeartbeats 1000000 in
theorem asked_D1 (g : Nat) (s : Srv) (v : Value) (top T V : Int) (L : Nat) (hT : s.term = T) (hV : s.vote = V) (hL : s.log.length = L) (hLe : L ≤ 100000) (k : Nat) (src dst tm ix lt cm : Int) (ok : Bool) (a : Option Addr) (n c : Nat) (htop : tat s.log s.log.length = top) (w : World) (h : Is w g s v) (d0 : decide (top < lt) = false) (d1 : (lt == top) = false) (d2 : (tm == T) = false) :
    Calls Try.prog 43 #[.pointer (some ⟨g, 0, none⟩), .agg #[.int .u8 k, .int .i64 src, .int .i64 dst, .int .i64 tm, .int .i64 ix, .int .i64 lt, .slice a n c, .int .i64 cm, .bool ok]] w (DidPost g v w s [answerTo s src 2 0 false]) := by
  have hB := (Below.refl _ w).alloc (Nat.le_refl _) (.cells #[.int .u8 k, .int .i64 src, .int .i64 dst, .int .i64 tm, .int .i64 ix, .int .i64 lt, .slice a n c, .int .i64 cm, .bool ok] 34)
  have h1 := h.below hB
  have hbx := heap_alloc_new w (.cells #[.int .u8 k, .int .i64 src, .int .i64 dst, .int .i64 tm, .int .i64 ix, .int .i64 lt, .slice a n c, .int .i64 cm, .bool ok] 34)
  have cl := fun W (hW : Is W g s v) => last_is g s v W hW
  have ct := fun W (hW : Is W g s v) => term_is g s v s.log.length (Nat.le_refl _) (by omega) W hW
  rw [hL] at cl
  rw [htop, hL] at ct
  obtain ⟨x2, f2⟩ := h.term
  obtain ⟨x3, f3⟩ := h.vote
  rw [hT] at x2
  rw [hV] at x3
  have hlt := h.lt
  clear hT hV hL htop
  go_enter Try.func43, Try.ntmps43
  go_wp2_with fail
  refine (cl _ h1).mono ?_
  rintro e w1 ⟨rfl, rfl⟩
  go_wp2_with fail
  refine (ct _ h1).mono ?_
  rintro e w1 ⟨rfl, rfl⟩
  go_wp2_with fail
  go_quiet (fail)
  go_wp2_with fail
  go_quiet (fail)
  go_wp2_with fail
  refine (answer_is g s v ⟨k, src, dst, tm, ix, lt, [], cm, ok⟩ a n c 2 0 false _ (h1.drewN _)).mono ?_
  rintro e w2 ⟨out, rfl, hO, hB2⟩
  go_wp2_with fail
  go_ret
  exact ⟨out, rfl, asked_end (h1.drewN _) ((Only.of_below hB).drewN _) hlt hO hB2⟩

set_option maxRecDepth 100000 in
set_option maxHeartbeats 1000000 in
theorem asked_D2 (g : Nat) (s : Srv) (v : Value) (top T V : Int) (L : Nat) (hT : s.term = T) (hV : s.vote = V) (hL : s.log.length = L) (hLe : L ≤ 100000) (k : Nat) (src dst tm ix lt cm : Int) (ok : Bool) (a : Option Addr) (n c : Nat) (htop : tat s.log s.log.length = top) (w : World) (h : Is w g s v) (d0 : decide (top < lt) = false) (d1 : (lt == top) = false) (d2 : (tm == T) = true) (d3 : (V == -1) = true) :
    Calls Try.prog 43 #[.pointer (some ⟨g, 0, none⟩), .agg #[.int .u8 k, .int .i64 src, .int .i64 dst, .int .i64 tm, .int .i64 ix, .int .i64 lt, .slice a n c, .int .i64 cm, .bool ok]] w (DidPost g v w s [answerTo s src 2 0 false]) := by
  have hB := (Below.refl _ w).alloc (Nat.le_refl _) (.cells #[.int .u8 k, .int .i64 src, .int .i64 dst, .int .i64 tm, .int .i64 ix, .int .i64 lt, .slice a n c, .int .i64 cm, .bool ok] 34)
  have h1 := h.below hB
  have hbx := heap_alloc_new w (.cells #[.int .u8 k, .int .i64 src, .int .i64 dst, .int .i64 tm, .int .i64 ix, .int .i64 lt, .slice a n c, .int .i64 cm, .bool ok] 34)
  have cl := fun W (hW : Is W g s v) => last_is g s v W hW
  have ct := fun W (hW : Is W g s v) => term_is g s v s.log.length (Nat.le_refl _) (by omega) W hW
  rw [hL] at cl
  rw [htop, hL] at ct
  obtain ⟨x2, f2⟩ := h.term
  obtain ⟨x3, f3⟩ := h.vote
  rw [hT] at x2
  rw [hV] at x3
  have hlt := h.lt
  clear hT hV hL htop
  go_enter Try.func43, Try.ntmps43
  go_wp2_with fail
  refine (cl _ h1).mono ?_
  rintro e w1 ⟨rfl, rfl⟩
  go_wp2_with fail
  refine (ct _ h1).mono ?_
  rintro e w1 ⟨rfl, rfl⟩
  go_wp2_with fail
  go_quiet (fail)
  go_wp2_with fail
  go_quiet (fail)
  go_wp2_with fail
  refine (answer_is g s v ⟨k, src, dst, tm, ix, lt, [], cm, ok⟩ a n c 2 0 false _ (h1.drewN _)).mono ?_
  rintro e w2 ⟨out, rfl, hO, hB2⟩
  go_wp2_with fail
  go_ret
  exact ⟨out, rfl, asked_end (h1.drewN _) ((Only.of_below hB).drewN _) hlt hO hB2⟩

set_option maxRecDepth 100000 in
set_option maxHeartbeats 1000000 in
theorem asked_D3 (g : Nat) (s : Srv) (v : Value) (top T V : Int) (L : Nat) (hT : s.term = T) (hV : s.vote = V) (hL : s.log.length = L) (hLe : L ≤ 100000) (k : Nat) (src dst tm ix lt cm : Int) (ok : Bool) (a : Option Addr) (n c : Nat) (htop : tat s.log s.log.length = top) (w : World) (h : Is w g s v) (d0 : decide (top < lt) = false) (d1 : (lt == top) = false) (d2 : (tm == T) = true) (d3 : (V == -1) = false) (d4 : (V == src) = true) :
    Calls Try.prog 43 #[.pointer (some ⟨g, 0, none⟩), .agg #[.int .u8 k, .int .i64 src, .int .i64 dst, .int .i64 tm, .int .i64 ix, .int .i64 lt, .slice a n c, .int .i64 cm, .bool ok]] w (DidPost g v w s [answerTo s src 2 0 false]) := by
  have hB := (Below.refl _ w).alloc (Nat.le_refl _) (.cells #[.int .u8 k, .int .i64 src, .int .i64 dst, .int .i64 tm, .int .i64 ix, .int .i64 lt, .slice a n c, .int .i64 cm, .bool ok] 34)
  have h1 := h.below hB
  have hbx := heap_alloc_new w (.cells #[.int .u8 k, .int .i64 src, .int .i64 dst, .int .i64 tm, .int .i64 ix, .int .i64 lt, .slice a n c, .int .i64 cm, .bool ok] 34)
  have cl := fun W (hW : Is W g s v) => last_is g s v W hW
  have ct := fun W (hW : Is W g s v) => term_is g s v s.log.length (Nat.le_refl _) (by omega) W hW
  rw [hL] at cl
  rw [htop, hL] at ct
  obtain ⟨x2, f2⟩ := h.term
  obtain ⟨x3, f3⟩ := h.vote
  rw [hT] at x2
  rw [hV] at x3
  have hlt := h.lt
  clear hT hV hL htop
  go_enter Try.func43, Try.ntmps43
  go_wp2_with fail
  refine (cl _ h1).mono ?_
  rintro e w1 ⟨rfl, rfl⟩
  go_wp2_with fail
  refine (ct _ h1).mono ?_
  rintro e w1 ⟨rfl, rfl⟩
  go_wp2_with fail
  go_quiet (fail)
  go_wp2_with fail
  go_quiet (fail)
  go_wp2_with fail
  refine (answer_is g s v ⟨k, src, dst, tm, ix, lt, [], cm, ok⟩ a n c 2 0 false _ (h1.drewN _)).mono ?_
  rintro e w2 ⟨out, rfl, hO, hB2⟩
  go_wp2_with fail
  go_ret
  exact ⟨out, rfl, asked_end (h1.drewN _) ((Only.of_below hB).drewN _) hlt hO hB2⟩

set_option maxRecDepth 100000 in
set_option maxHeartbeats 1000000 in
theorem asked_D4 (g : Nat) (s : Srv) (v : Value) (top T V : Int) (L : Nat) (hT : s.term = T) (hV : s.vote = V) (hL : s.log.length = L) (hLe : L ≤ 100000) (k : Nat) (src dst tm ix lt cm : Int) (ok : Bool) (a : Option Addr) (n c : Nat) (htop : tat s.log s.log.length = top) (w : World) (h : Is w g s v) (d0 : decide (top < lt) = false) (d1 : (lt == top) = false) (d2 : (tm == T) = true) (d3 : (V == -1) = false) (d4 : (V == src) = false) :
    Calls Try.prog 43 #[.pointer (some ⟨g, 0, none⟩), .agg #[.int .u8 k, .int .i64 src, .int .i64 dst, .int .i64 tm, .int .i64 ix, .int .i64 lt, .slice a n c, .int .i64 cm, .bool ok]] w (DidPost g v w s [answerTo s src 2 0 false]) := by
  have hB := (Below.refl _ w).alloc (Nat.le_refl _) (.cells #[.int .u8 k, .int .i64 src, .int .i64 dst, .int .i64 tm, .int .i64 ix, .int .i64 lt, .slice a n c, .int .i64 cm, .bool ok] 34)
  have h1 := h.below hB
  have hbx := heap_alloc_new w (.cells #[.int .u8 k, .int .i64 src, .int .i64 dst, .int .i64 tm, .int .i64 ix, .int .i64 lt, .slice a n c, .int .i64 cm, .bool ok] 34)
  have cl := fun W (hW : Is W g s v) => last_is g s v W hW
  have ct := fun W (hW : Is W g s v) => term_is g s v s.log.length (Nat.le_refl _) (by omega) W hW
  rw [hL] at cl
  rw [htop, hL] at ct
  obtain ⟨x2, f2⟩ := h.term
  obtain ⟨x3, f3⟩ := h.vote
  rw [hT] at x2
  rw [hV] at x3
  have hlt := h.lt
  clear hT hV hL htop
  go_enter Try.func43, Try.ntmps43
  go_wp2_with fail
  refine (cl _ h1).mono ?_
  rintro e w1 ⟨rfl, rfl⟩
  go_wp2_with fail
  refine (ct _ h1).mono ?_
  rintro e w1 ⟨rfl, rfl⟩
  go_wp2_with fail
  go_quiet (fail)
  go_wp2_with fail
  go_quiet (fail)
  go_wp2_with fail
  refine (answer_is g s v ⟨k, src, dst, tm, ix, lt, [], cm, ok⟩ a n c 2 0 false _ (h1.drewN _)).mono ?_
  rintro e w2 ⟨out, rfl, hO, hB2⟩
  go_wp2_with fail
  go_ret
  exact ⟨out, rfl, asked_end (h1.drewN _) ((Only.of_below hB).drewN _) hlt hO hB2⟩


theorem asked_is (g : Nat) (s : Srv) (v : Value) (m : Msg) (a : Option Addr) (n c : Nat) (hl : s.log.length ≤ 100000) (w : World) (h : Is w g s v) :
    Calls Try.prog 43 #[.pointer (some ⟨g, 0, none⟩), .agg (mc m (.slice a n c))] w (DidPost g v w (askedS s m) (askedM s m)) := by
  obtain ⟨k, src, dst, tm, ix, lt, es, cm, ok⟩ := m
  show Calls Try.prog 43 #[.pointer (some ⟨g, 0, none⟩), .agg #[.int .u8 k, .int .i64 src, .int .i64 dst, .int .i64 tm, .int .i64 ix, .int .i64 lt, .slice a n c, .int .i64 cm, .bool ok]] w _
  unfold askedS askedM
  generalize hG : grantB s ⟨k, src, dst, tm, ix, lt, es, cm, ok⟩ = G
  unfold grantB newerB at hG
  dsimp only at hG
  by_cases n1 : tat s.log s.log.length < lt
  · skip
    by_cases t1 : tm = s.term
    rotate_left
    · skip
      have hG2 : G = false := by rw [← hG]; simp [n1, t1]
      subst hG2
      exact asked_A1 g s v _ _ _ _ rfl rfl rfl hl k src dst tm ix lt cm ok a n c rfl w h (by simp; omega) (by simp [t1])
    by_cases t2 : s.vote = -1
    · skip
      have hG2 : G = true := by rw [← hG]; simp [n1, t1, t2]
      subst hG2
      exact asked_A2 g s v _ _ _ _ rfl rfl rfl hl k src dst tm ix lt cm ok a n c rfl w h (by simp; omega) (by simp [t1]) (by simp [t2])
    by_cases t3 : s.vote = src
    · skip
      have hG2 : G = true := by rw [← hG]; simp [n1, t1, t2, t3]
      subst hG2
      exact asked_A3 g s v _ _ _ _ rfl rfl rfl hl k src dst tm ix lt cm ok a n c rfl w h (by simp; omega) (by simp [t1]) (by simp [t2]) (by simp [t3])
    · skip
      have hG2 : G = false := by rw [← hG]; simp [n1, t1, t2, t3]
      subst hG2
      exact asked_A4 g s v _ _ _ _ rfl rfl rfl hl k src dst tm ix lt cm ok a n c rfl w h (by simp; omega) (by simp [t1]) (by simp [t2]) (by simp [t3])
  by_cases n2 : lt = tat s.log s.log.length
  rotate_left
  · skip
    by_cases t1 : tm = s.term
    rotate_left
    · skip
      have hG2 : G = false := by rw [← hG]; simp [n1, n2, t1]
      subst hG2
      exact asked_D1 g s v _ _ _ _ rfl rfl rfl hl k src dst tm ix lt cm ok a n c rfl w h (by simp; omega) (by simp [n2]) (by simp [t1])
    by_cases t2 : s.vote = -1
    · skip
      have hG2 : G = false := by rw [← hG]; simp [n1, n2, t1, t2]
      subst hG2
      exact asked_D2 g s v _ _ _ _ rfl rfl rfl hl k src dst tm ix lt cm ok a n c rfl w h (by simp; omega) (by simp [n2]) (by simp [t1]) (by simp [t2])
    by_cases t3 : s.vote = src
    · skip
      have hG2 : G = false := by rw [← hG]; simp [n1, n2, t1, t2, t3]
      subst hG2
      exact asked_D3 g s v _ _ _ _ rfl rfl rfl hl k src dst tm ix lt cm ok a n c rfl w h (by simp; omega) (by simp [n2]) (by simp [t1]) (by simp [t2]) (by simp [t3])
    · skip
      have hG2 : G = false := by rw [← hG]; simp [n1, n2, t1, t2, t3]
      subst hG2
      exact asked_D4 g s v _ _ _ _ rfl rfl rfl hl k src dst tm ix lt cm ok a n c rfl w h (by simp; omega) (by simp [n2]) (by simp [t1]) (by simp [t2]) (by simp [t3])
  by_cases n3 : (s.log.length : Int) ≤ ix
  · skip
    by_cases t1 : tm = s.term
    rotate_left
    · skip
      have hG2 : G = false := by rw [← hG]; simp [n1, n2, n3, t1]
      subst hG2
      exact asked_B1 g s v _ _ _ _ rfl rfl rfl hl k src dst tm ix lt cm ok a n c rfl w h (by simp; omega) (by simp [n2]) (by simp; omega) (by simp [t1])
    by_cases t2 : s.vote = -1
    · skip
      have hG2 : G = true := by rw [← hG]; simp [n1, n2, n3, t1, t2]
      subst hG2
      exact asked_B2 g s v _ _ _ _ rfl rfl rfl hl k src dst tm ix lt cm ok a n c rfl w h (by simp; omega) (by simp [n2]) (by simp; omega) (by simp [t1]) (by simp [t2])
    by_cases t3 : s.vote = src
    · skip
      have hG2 : G = true := by rw [← hG]; simp [n1, n2, n3, t1, t2, t3]
      subst hG2
      exact asked_B3 g s v _ _ _ _ rfl rfl rfl hl k src dst tm ix lt cm ok a n c rfl w h (by simp; omega) (by simp [n2]) (by simp; omega) (by simp [t1]) (by simp [t2]) (by simp [t3])
    · skip
      have hG2 : G = false := by rw [← hG]; simp [n1, n2, n3, t1, t2, t3]
      subst hG2
      exact asked_B4 g s v _ _ _ _ rfl rfl rfl hl k src dst tm ix lt cm ok a n c rfl w h (by simp; omega) (by simp [n2]) (by simp; omega) (by simp [t1]) (by simp [t2]) (by simp [t3])
  · skip
    by_cases t1 : tm = s.term
    rotate_left
    · skip
      have hG2 : G = false := by rw [← hG]; simp [n1, n2, n3, t1]
      subst hG2
      exact asked_C1 g s v _ _ _ _ rfl rfl rfl hl k src dst tm ix lt cm ok a n c rfl w h (by simp; omega) (by simp [n2]) (by simp; omega) (by simp [t1])
    by_cases t2 : s.vote = -1
    · skip
      have hG2 : G = false := by rw [← hG]; simp [n1, n2, n3, t1, t2]
      subst hG2
      exact asked_C2 g s v _ _ _ _ rfl rfl rfl hl k src dst tm ix lt cm ok a n c rfl w h (by simp; omega) (by simp [n2]) (by simp; omega) (by simp [t1]) (by simp [t2])
    by_cases t3 : s.vote = src
    · skip
      have hG2 : G = false := by rw [← hG]; simp [n1, n2, n3, t1, t2, t3]
      subst hG2
      exact asked_C3 g s v _ _ _ _ rfl rfl rfl hl k src dst tm ix lt cm ok a n c rfl w h (by simp; omega) (by simp [n2]) (by simp; omega) (by simp [t1]) (by simp [t2]) (by simp [t3])
    · skip
      have hG2 : G = false := by rw [← hG]; simp [n1, n2, n3, t1, t2, t3]
      subst hG2
      exact asked_C4 g s v _ _ _ _ rfl rfl rfl hl k src dst tm ix lt cm ok a n c rfl w h (by simp; omega) (by simp [n2]) (by simp; omega) (by simp [t1]) (by simp [t2]) (by simp [t3])
end Rf
end Go.Proofs.Ytdacdkidjgbdoaa
