/- The contract of the law's awake. -/
import Derived.Test.YtdacdkidjgbdoaaPa
set_option linter.unusedVariables false
set_option linter.unusedSimpArgs false
namespace Go.Proofs.Ytdacdkidjgbdoaa
open Go Go.RowKit
namespace Rf
attribute [local go_sem ↓] Go.wp_at_zero Go.wp_at_succ

theorem hd_nil (w : World) : Hd w none [] := ⟨fun _ => rfl, fun _ e => by cases e⟩
/-- what a deed of a new server leaves of the elder memory -/
theorem Did.under {g B : Nat} {v out : Value} {w w' : World} {s : Srv} {ms : List Msg} (h : Did g v w s ms out w') (hg : B ≤ g) (hv : ∀ k, v.ownBlock = some k → B ≤ k) (hB : B ≤ w.heap.size) : Below B w w' :=
  h.only.below hB (fun k e => by rcases e with e | e; omega; exact hv k e)
theorem Turned.under {g B : Nat} {v : Value} {w w' : World} {s : Srv} (h : Turned g v w s w') (hg : B ≤ g) (hv : ∀ k, v.ownBlock = some k → B ≤ k) (hB : B ≤ w.heap.size) : Below B w w' :=
  h.only.below hB (fun k e => by rcases e with e | e; omega; exact hv k e)

set_option maxRecDepth 100000 in
set_option maxHeartbeats 1000000 in
theorem awake_is (w : World) : Calls Try.prog 15 #[] w fun e w' => e = .returned (.bool true) ∧ Below w.heap.size w w' := by
  have cn := new_ok 0 1 0 (-1) none 0 [] (by simp) w (hd_nil w) (by omega) (by omega) (by omega) alone_may
  obtain ⟨N1, N2⟩ := alone_N
  obtain ⟨C1, C2⟩ := alone_C
  have cn2 : Calls Try.prog 8 #[.int .i64 0, .int .i64 1, .agg #[.int .i64 0, .int .i64 (-1), .slice none 0 0]] w (NewYes w alone0) := cn
  clear cn
  go_enter Try.func15, Try.ntmps15
  go_wp2_with fail
  refine cn2.mono ?_
  rintro e w1 ⟨g, v, rfl, hB, hg, hI, hv⟩
  go_wp2_with fail
  refine (tick_is g alone0 v alone_ok w1 hI).mono ?_
  rintro e w2 ⟨out, rfl, hD⟩
  have hB2 := hD.under hg hv hB.size
  have hBB := hB.trans hB2
  obtain ⟨⟨v2, base, hI2, hO, hbase, hvb, hv2⟩, hOn⟩ := hD
  rw [alone_M] at hO
  obtain ⟨l, hl1, hl2, -⟩ := hO
  have : l = [] := by simpa using hl1
  subst this
  obtain ⟨a3, c3, rfl⟩ := own_slice hl2
  simp only [List.length_nil]
  have hv2' : ∀ k, v2.ownBlock = some k → w.heap.size ≤ k := fun k hk => by rcases hv2 k hk with e | e; exact hv k e; have := hB.size; omega
  have cp := propose_is g (tickS alone0) v2 xText alone_ok.tick w2 hI2
  have cp2 : Calls Try.prog 14 #[.pointer (some ⟨g, 0, none⟩), .string ⟨#[120]⟩] w2 (ProposePost g (tickS alone0) v2 xText w2) := cp
  clear cp hl1 hl2
  go_wp2_with fail
  refine cp2.mono ?_
  rintro e w3 ⟨rfl, hT⟩
  rw [N1, N2]
  have hB3 := hBB.trans (hT.under hg hv2' hBB.size)
  obtain ⟨⟨v3, hI3, -⟩, -⟩ := hT
  have ok3 := alone_ok.tick.propose xText
  generalize proposeS (tickS alone0) xText = s3 at *
  go_wp2_with fail
  refine (commit_is2 g s3 v3 w3 hI3 ok3.nodes.1).mono ?_
  rintro e w4 ⟨rfl, rfl⟩
  rw [C1]
  go_wp2_with fail
  refine (role_is2 g s3 v3 w3 hI3 ok3.nodes.1).mono ?_
  rintro e w4 ⟨rfl, rfl⟩
  rw [C2]
  go_wp2_with fail
  go_ret
  exact ⟨rfl, hB3⟩
end Rf
end Go.Proofs.Ytdacdkidjgbdoaa
