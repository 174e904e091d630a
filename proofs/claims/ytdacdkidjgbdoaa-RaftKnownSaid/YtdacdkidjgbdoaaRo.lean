/- The contracts of raft's Propose and of the words that tell a server's parts. -/
import Derived.Test.YtdacdkidjgbdoaaRn
set_option linter.unusedVariables false
set_option linter.unusedSimpArgs false
namespace Go.Proofs.Ytdacdkidjgbdoaa
open Go Go.RowKit
namespace Rf
attribute [local go_sem ↓] Go.wp_at_zero Go.wp_at_succ


theorem term_nil (w : World) : Calls Try.prog 32 #[.pointer none] w fun e w' => e = .returned (.int .i64 0) ∧ w = w' := by
  go_enter Try.func32, Try.ntmps32
  go_wp2_with fail
  refine (made0 _).mono ?_
  rintro e w1 ⟨rfl, rfl⟩
  go_wp2_with fail
  go_ret
  exact ⟨rfl, rfl⟩
theorem term_zero (g : Nat) (s : Srv) (v : Value) (w : World) (h : Is w g s v) (h0 : s.nodes = 0) : Calls Try.prog 32 #[.pointer (some ⟨g, 0, none⟩)] w fun e w' => e = .returned (.int .i64 0) ∧ w = w' := by
  go_enter Try.func32, Try.ntmps32
  go_wp2_with fail
  refine (made1 g s v false _ h (by simp [h0])).mono ?_
  rintro e w1 ⟨rfl, rfl⟩
  go_wp2_with fail
  go_ret
  exact ⟨rfl, rfl⟩
theorem term_is2 (g : Nat) (s : Srv) (v : Value) (w : World) (h : Is w g s v) (h0 : 1 ≤ s.nodes) : Calls Try.prog 32 #[.pointer (some ⟨g, 0, none⟩)] w fun e w' => e = .returned (.int .i64 s.term) ∧ w = w' := by
  obtain ⟨c1, f1⟩ := h.term
  go_enter Try.func32, Try.ntmps32
  go_wp2_with fail
  refine (made1 g s v true _ h (by simp; omega)).mono ?_
  rintro e w1 ⟨rfl, rfl⟩
  go_wp2_with fail
  go_ret
  exact ⟨rfl, rfl⟩

theorem vote_nil (w : World) : Calls Try.prog 11 #[.pointer none] w fun e w' => e = .returned (.int .i64 0) ∧ w = w' := by
  go_enter Try.func11, Try.ntmps11
  go_wp2_with fail
  refine (made0 _).mono ?_
  rintro e w1 ⟨rfl, rfl⟩
  go_wp2_with fail
  go_ret
  exact ⟨rfl, rfl⟩
theorem vote_zero (g : Nat) (s : Srv) (v : Value) (w : World) (h : Is w g s v) (h0 : s.nodes = 0) : Calls Try.prog 11 #[.pointer (some ⟨g, 0, none⟩)] w fun e w' => e = .returned (.int .i64 0) ∧ w = w' := by
  go_enter Try.func11, Try.ntmps11
  go_wp2_with fail
  refine (made1 g s v false _ h (by simp [h0])).mono ?_
  rintro e w1 ⟨rfl, rfl⟩
  go_wp2_with fail
  go_ret
  exact ⟨rfl, rfl⟩
theorem vote_is2 (g : Nat) (s : Srv) (v : Value) (w : World) (h : Is w g s v) (h0 : 1 ≤ s.nodes) : Calls Try.prog 11 #[.pointer (some ⟨g, 0, none⟩)] w fun e w' => e = .returned (.int .i64 s.vote) ∧ w = w' := by
  obtain ⟨c1, f1⟩ := h.vote
  go_enter Try.func11, Try.ntmps11
  go_wp2_with fail
  refine (made1 g s v true _ h (by simp; omega)).mono ?_
  rintro e w1 ⟨rfl, rfl⟩
  go_wp2_with fail
  go_ret
  exact ⟨rfl, rfl⟩

theorem commit_nil (w : World) : Calls Try.prog 13 #[.pointer none] w fun e w' => e = .returned (.int .i64 0) ∧ w = w' := by
  go_enter Try.func13, Try.ntmps13
  go_wp2_with fail
  refine (made0 _).mono ?_
  rintro e w1 ⟨rfl, rfl⟩
  go_wp2_with fail
  go_ret
  exact ⟨rfl, rfl⟩
theorem commit_zero (g : Nat) (s : Srv) (v : Value) (w : World) (h : Is w g s v) (h0 : s.nodes = 0) : Calls Try.prog 13 #[.pointer (some ⟨g, 0, none⟩)] w fun e w' => e = .returned (.int .i64 0) ∧ w = w' := by
  go_enter Try.func13, Try.ntmps13
  go_wp2_with fail
  refine (made1 g s v false _ h (by simp [h0])).mono ?_
  rintro e w1 ⟨rfl, rfl⟩
  go_wp2_with fail
  go_ret
  exact ⟨rfl, rfl⟩
theorem commit_is2 (g : Nat) (s : Srv) (v : Value) (w : World) (h : Is w g s v) (h0 : 1 ≤ s.nodes) : Calls Try.prog 13 #[.pointer (some ⟨g, 0, none⟩)] w fun e w' => e = .returned (.int .i64 s.commit) ∧ w = w' := by
  obtain ⟨c1, f1⟩ := h.commit
  go_enter Try.func13, Try.ntmps13
  go_wp2_with fail
  refine (made1 g s v true _ h (by simp; omega)).mono ?_
  rintro e w1 ⟨rfl, rfl⟩
  go_wp2_with fail
  go_ret
  exact ⟨rfl, rfl⟩

theorem role_nil (w : World) : Calls Try.prog 16 #[.pointer none] w fun e w' => e = .returned (.int .u8 0) ∧ w = w' := by
  go_enter Try.func16, Try.ntmps16
  go_wp2_with fail
  refine (made0 _).mono ?_
  rintro e w1 ⟨rfl, rfl⟩
  go_wp2_with fail
  go_ret
  exact ⟨rfl, rfl⟩
theorem role_zero (g : Nat) (s : Srv) (v : Value) (w : World) (h : Is w g s v) (h0 : s.nodes = 0) : Calls Try.prog 16 #[.pointer (some ⟨g, 0, none⟩)] w fun e w' => e = .returned (.int .u8 0) ∧ w = w' := by
  go_enter Try.func16, Try.ntmps16
  go_wp2_with fail
  refine (made1 g s v false _ h (by simp [h0])).mono ?_
  rintro e w1 ⟨rfl, rfl⟩
  go_wp2_with fail
  go_ret
  exact ⟨rfl, rfl⟩
theorem role_is2 (g : Nat) (s : Srv) (v : Value) (w : World) (h : Is w g s v) (h0 : 1 ≤ s.nodes) : Calls Try.prog 16 #[.pointer (some ⟨g, 0, none⟩)] w fun e w' => e = .returned (.int .u8 s.role) ∧ w = w' := by
  obtain ⟨c1, f1⟩ := h.role
  go_enter Try.func16, Try.ntmps16
  go_wp2_with fail
  refine (made1 g s v true _ h (by simp; omega)).mono ?_
  rintro e w1 ⟨rfl, rfl⟩
  go_wp2_with fail
  go_ret
  exact ⟨rfl, rfl⟩

theorem leader_nil (w : World) : Calls Try.prog 12 #[.pointer none] w fun e w' => e = .returned (.int .i64 0) ∧ w = w' := by
  go_enter Try.func12, Try.ntmps12
  go_wp2_with fail
  refine (made0 _).mono ?_
  rintro e w1 ⟨rfl, rfl⟩
  go_wp2_with fail
  go_ret
  exact ⟨rfl, rfl⟩
theorem leader_zero (g : Nat) (s : Srv) (v : Value) (w : World) (h : Is w g s v) (h0 : s.nodes = 0) : Calls Try.prog 12 #[.pointer (some ⟨g, 0, none⟩)] w fun e w' => e = .returned (.int .i64 0) ∧ w = w' := by
  go_enter Try.func12, Try.ntmps12
  go_wp2_with fail
  refine (made1 g s v false _ h (by simp [h0])).mono ?_
  rintro e w1 ⟨rfl, rfl⟩
  go_wp2_with fail
  go_ret
  exact ⟨rfl, rfl⟩
theorem leader_is2 (g : Nat) (s : Srv) (v : Value) (w : World) (h : Is w g s v) (h0 : 1 ≤ s.nodes) : Calls Try.prog 12 #[.pointer (some ⟨g, 0, none⟩)] w fun e w' => e = .returned (.int .i64 s.leader) ∧ w = w' := by
  obtain ⟨c1, f1⟩ := h.leader
  go_enter Try.func12, Try.ntmps12
  go_wp2_with fail
  refine (made1 g s v true _ h (by simp; omega)).mono ?_
  rintro e w1 ⟨rfl, rfl⟩
  go_wp2_with fail
  go_ret
  exact ⟨rfl, rfl⟩

theorem propose_nil (d : ByteArray) (w : World) : Calls Try.prog 14 #[.pointer none, .string d] w fun e w' => e = .returned (.tuple #[.int .i64 0, .int .i64 270]) ∧ w = w' := by
  go_enter Try.func14, Try.ntmps14
  go_wp2_with fail
  refine (made0 _).mono ?_
  rintro e w1 ⟨rfl, rfl⟩
  go_wp2_with fail
  go_ret2
  exact ⟨rfl, rfl⟩
theorem propose_zero (g : Nat) (s : Srv) (v : Value) (d : ByteArray) (w : World) (h : Is w g s v) (h0 : s.nodes = 0) : Calls Try.prog 14 #[.pointer (some ⟨g, 0, none⟩), .string d] w fun e w' => e = .returned (.tuple #[.int .i64 0, .int .i64 270]) ∧ w = w' := by
  go_enter Try.func14, Try.ntmps14
  go_wp2_with fail
  refine (made1 g s v false _ h (by simp [h0])).mono ?_
  rintro e w1 ⟨rfl, rfl⟩
  go_wp2_with fail
  go_ret2
  exact ⟨rfl, rfl⟩

/-- with one entry more -/
def plus (s : Srv) (d : ByteArray) : Srv := { s with log := s.log ++ [⟨s.term, d⟩] }
def proposeS (s : Srv) (d : ByteArray) : Srv := if s.role ≠ 2 ∨ 65536 < d.size ∨ s.log.length = 4096 then s else agreed (plus s d)
def proposeN (s : Srv) (d : ByteArray) : Int := if s.role ≠ 2 ∨ 65536 < d.size ∨ s.log.length = 4096 then 0 else s.log.length + 1
def proposeE (s : Srv) (d : ByteArray) : Int := if s.role ≠ 2 then 270 else if 65536 < d.size then 2 else if s.log.length = 4096 then 7 else 0
/-- what a quiet deed leaves -/
structure Turned (g : Nat) (v : Value) (w : World) (s' : Srv) (w' : World) : Prop where
  ex : ∃ v', Is w' g s' v' ∧ (∀ k, v'.ownBlock = some k → v.ownBlock = some k ∨ w.heap.size ≤ k)
  only : Only (Mine g v) w w'
def ProposePost (g : Nat) (s : Srv) (v : Value) (d : ByteArray) (w : World) (e : Ending) (w' : World) : Prop := e = .returned (.tuple #[.int .i64 (proposeN s d), .int .i64 (proposeE s d)]) ∧ Turned g v w (proposeS s d) w'
theorem Turned.refl {g : Nat} {s : Srv} {v : Value} {w : World} (h : Is w g s v) : Turned g v w s w := ⟨⟨v, h, fun _ e => .inl e⟩, Only.refl _ _⟩

set_option maxRecDepth 100000 in
set_option maxHeartbeats 1000000 in
theorem propose_is (g : Nat) (s : Srv) (v : Value) (d : ByteArray) (hk : Ok s) (w : World) (h : Is w g s v) : Calls Try.prog 14 #[.pointer (some ⟨g, 0, none⟩), .string d] w (ProposePost g s v d w) := by
  have hn := hk.nodes
  have hlen := hk.len
  have F := hk.fit
  obtain ⟨c3, f3⟩ := h.role
  by_cases t1 : s.role = 2
  rotate_left
  · have d1 : ((s.role : Int) != 2) = true := by simp; omega
    have p1 := Lib.hid (show proposeS s d = s ∧ proposeN s d = 0 ∧ proposeE s d = 270 from ⟨by simp [proposeS, t1], by simp [proposeN, t1], by simp [proposeE, t1]⟩)
    clear t1
    go_enter Try.func14, Try.ntmps14
    go_wp2_with fail
    refine (made1 g s v true _ h (by simp; omega)).mono ?_
    rintro e w1 ⟨rfl, rfl⟩
    go_wp2_with fail
    go_ret2
    exact ⟨by rw [p1.out.2.1, p1.out.2.2]; rfl, by rw [p1.out.1]; exact Turned.refl h⟩
  rw [t1] at c3
  by_cases t2 : 65536 < d.size
  · have d1 : decide ((65536 : Int) < d.size) = true := by simp; omega
    have p1 := Lib.hid (show proposeS s d = s ∧ proposeN s d = 0 ∧ proposeE s d = 2 from ⟨by simp [proposeS, t2], by simp [proposeN, t2], by simp [proposeE, t1, t2]⟩)
    clear t1
    go_enter Try.func14, Try.ntmps14
    go_wp2_with fail
    refine (made1 g s v true _ h (by simp; omega)).mono ?_
    rintro e w1 ⟨rfl, rfl⟩
    go_wp2_with fail
    go_ret2
    exact ⟨by rw [p1.out.2.1, p1.out.2.2]; rfl, by rw [p1.out.1]; exact Turned.refl h⟩
  have d1 : decide ((65536 : Int) < d.size) = false := by simp; omega
  have d1' : (d.size : Int) ≤ 65536 := by omega
  by_cases t3 : s.log.length = 4096
  · have d3 : ((s.log.length : Int) == 4096) = true := by simp; omega
    have p1 := Lib.hid (show proposeS s d = s ∧ proposeN s d = 0 ∧ proposeE s d = 7 from ⟨by simp [proposeS, t3], by simp [proposeN, t3], by simp [proposeE, t1, t2, t3]⟩)
    clear t1 t2 t3
    go_enter Try.func14, Try.ntmps14
    go_wp2_with fail
    refine (made1 g s v true _ h (by simp; omega)).mono ?_
    rintro e w1 ⟨rfl, rfl⟩
    go_wp2_with fail
    refine (last_is g s v _ h).mono ?_
    rintro e w1 ⟨rfl, rfl⟩
    go_wp2_with fail
    go_ret2
    exact ⟨by rw [p1.out.2.1, p1.out.2.2]; rfl, by rw [p1.out.1]; exact Turned.refl h⟩
  · have d3 : ((s.log.length : Int) == 4096) = false := by simp; omega
    have p1 := Lib.hid (show proposeS s d = agreed (plus s d) ∧ proposeN s d = s.log.length + 1 ∧ proposeE s d = 0 from ⟨by simp [proposeS, t1, t2, t3], by simp [proposeN, t1, t2, t3], by simp [proposeE, t1, t2, t3]⟩)
    have F1 : Fit (plus s d) := ⟨F.nodes, by simp [plus]; omega, F.commit, F.mat, F.next⟩
    clear t1 t2 t3
    go_enter Try.func14, Try.ntmps14
    go_wp2_with fail
    refine (made1 g s v true _ h (by simp; omega)).mono ?_
    rintro e w1 ⟨rfl, rfl⟩
    go_wp2_with fail
    refine (last_is g s v _ h).mono ?_
    rintro e w1 ⟨rfl, rfl⟩
    go_wp2_with fail
    refine (put_is g s v d (by omega) _ h).mono ?_
    rintro e w2 ⟨rfl, v2, hI2, hO2, hv2⟩
    have hI2' : Is w2 g (plus s d) v2 := hI2
    clear hI2
    go_wp2_with fail
    refine (agree_is g _ v2 F1 _ hI2').mono ?_
    rintro e w3 ⟨rfl, hI3, hO3⟩
    have hI3' : Is w3 g (agreed (plus s d)) v2 := hI3
    clear hI3
    go_wp2_with fail
    refine (last_is g _ v2 _ hI3').mono ?_
    rintro e w4 ⟨rfl, rfl⟩
    go_wp2_with fail
    go_ret2
    refine ⟨?_, ?_⟩
    · rw [p1.out.2.1, p1.out.2.2]
      simp [agreed, plus]
    · rw [p1.out.1]
      exact ⟨⟨v2, hI3', hv2⟩, hO2.trans (hO3.weak (fun k e => .inl e))⟩
end Rf
end Go.Proofs.Ytdacdkidjgbdoaa
