/- CodeOnce, walked. -/
import Derived.Test.YtibhldifmneboaaVl
import Derived.Test.YtibhldifmneboaaCw
import Derived.Lib.QuietBelow
set_option linter.unusedVariables false
set_option linter.unusedSimpArgs false
namespace Go.Proofs.Ytibhldifmneboaa
open Go Go.RowKit Go.Sort Cd Rd
namespace Pu

set_option maxHeartbeats 1000000 in
set_option maxRecDepth 100000 in
theorem codeOnce_long (A : Option Addr) (n c : Nat) (hn : n ≤ 9223372036854775807) (hl : 20000 < n) (w : World) : Calls Try.prog 8 #[.slice A n c] w (Tr w) := by
  have ca := fun W => awake_any W
  have cl := fun W => long_any A n c hn W
  have e1 : decide (20000 < (n : Int)) = true := by simp; omega
  rw [e1] at cl
  go_enter Try.func8, Try.ntmps8
  go_wp2_with fail
  refine (ca _).mono ?_
  rintro e w1 ⟨rfl, b1⟩
  go_wp2_with fail
  refine (cl _).mono ?_
  rintro e w2 ⟨rfl, rfl⟩
  go_wp2
  go_ret
  exact ⟨rfl, b1⟩

set_option maxHeartbeats 1000000 in
set_option maxRecDepth 100000 in
theorem codeOnce_no (A : Option Addr) (n c : Nat) (xs : List UInt8) (hn : n ≤ 20000) (hc : n ≤ c) (hx : xs.length = n) {a : Nat} {er : Int} (hv : value xs = .no a er) (w : World) (hb : Bs w A xs) : Calls Try.prog 8 #[.slice A n c] w (Tr w) := by
  have ca := fun W => awake_any W
  have cl := fun W => long_any A n c (by omega) W
  have e1 : decide (20000 < (n : Int)) = false := by simp; omega
  rw [e1] at cl
  have c1 := fun W h => ReadValue_any A n c xs (by omega) hc hx W h
  rw [hv] at c1
  have HB : ∀ W, Below w.heap.size w W → Bs W A xs := fun W h => bs_keep hb h
  obtain ⟨v1, v2⟩ := value_end hv
  rw [hx] at v1 v2
  have hne := value_no hv
  have u1 : (a : Int) ≤ n := by omega
  have u2 : decide ((a : Int) ≤ (n : Int)) = true := by simp; omega
  have u3 : ((a : Int) == (n : Int)) = (er == 4) := by
    rw [Bool.eq_iff_iff, beq_iff_eq, beq_iff_eq]
    omega
  have wn : IntKind.i64.wrap (n : Int) = n := by rw [IntKind.wrap_i64]; omega
  clear hb hx hv v1 v2
  go_enter Try.func8, Try.ntmps8
  go_wp2_with fail
  refine (ca _).mono ?_
  rintro e w1 ⟨rfl, b1⟩
  go_wp2_with fail
  refine (cl _).mono ?_
  rintro e w2 ⟨rfl, rfl⟩
  go_wp2_with fail
  refine (c1 _ (HB _ b1)).mono ?_
  rintro e w2 ⟨rfl, b2⟩
  go_wp2
  go_ret
  exact ⟨rfl, b1.trans (b2.mono b1.size)⟩

set_option maxHeartbeats 2000000 in
set_option maxRecDepth 100000 in
theorem codeOnce_ok (A : Option Addr) (n c : Nat) (xs : List UInt8) (hn : n ≤ 20000) (hc : n ≤ c) (hx : xs.length = n) {l : List Nd} {k : Nat} (hv : value xs = .ok l k) (w : World) (hb : Bs w A xs) : Calls Try.prog 8 #[.slice A n c] w (Tr w) := by
  have ca := fun W => awake_any W
  have cl := fun W => long_any A n c (by omega) W
  have e1 : decide (20000 < (n : Int)) = false := by simp; omega
  rw [e1] at cl
  have c1 := fun W h => ReadValue_any A n c xs (by omega) hc hx W h
  rw [hv] at c1
  have HB : ∀ W, Below w.heap.size w W → Bs W A xs := fun W h => bs_keep hb h
  obtain ⟨hr, hk, hp⟩ := value_back hv
  rw [hx] at hk
  have u2 : decide ((k : Int) ≤ (n : Int)) = true := by simp; omega
  have wn : IntKind.i64.wrap (n : Int) = n := by rw [IntKind.wrap_i64]; omega
  have wk : IntKind.i64.wrap (k : Int) = k := by rw [IntKind.wrap_i64]; omega
  have wk2 : RowKit.wrap64 (k : Int) = k := by unfold RowKit.wrap64; omega
  clear hb hv
  go_enter Try.func8, Try.ntmps8
  go_wp2_with fail
  refine (ca _).mono ?_
  rintro e w1 ⟨rfl, b1⟩
  go_wp2_with fail
  refine (cl _).mono ?_
  rintro e w2 ⟨rfl, rfl⟩
  go_wp2_with fail
  refine (c1 _ (HB _ b1)).mono ?_
  rintro e w2 ⟨v, rfl, ho, b2⟩
  have B2 := b1.trans (b2.mono b1.size)
  obtain ⟨b, cap, rfl, hbw⟩ : ∃ b cap, v = .slice (some ⟨b, 0, none⟩) l.length cap ∧ b < w2.heap.size := by
    rcases ho.2 with ⟨_, h0⟩ | ⟨g, cap, cur, rfl, _, hg, _⟩
    · have := hr.pos; omega
    · exact ⟨g, cap, rfl, (Array.getElem?_eq_some_iff.1 hg).1⟩
  have hI := own_mono ho (Nat.zero_le _)
  have cp := putValue_any b cap l hr w2 hI hbw
  clear c1 b1 b2 ho
  go_wp2_with fail
  refine cp.mono ?_
  rintro e w3 ⟨v3, rfl, o3, b3⟩
  have B3 := B2.trans (b3.mono B2.size)
  have hI3 := own_below hI b3
  have hbw3 : b < w3.heap.size := Nat.lt_of_lt_of_le hbw b3.size
  obtain ⟨A3, n3, c3, h3, hn3, hc3, hb3, -⟩ := Put.row (w := w2) ⟨v3, rfl, o3, b3⟩
  injection h3 with h3
  subst h3
  have cC : ∀ d os, Calls Try.prog 46 #[.slice (some ⟨b, 0, none⟩) l.length cap] (grow (redrawn w3 d) os) fun e w'' => e = .returned (.int .i64 0) ∧ ∃ p : Regrown, w'' = grow (redrawn w3 p.d) p.os := fun d os =>
    Calls.regrown_of (check_any b cap l hr _ (own_below hI3 (below_regrown w3 d os)) (Nat.lt_of_lt_of_le hbw3 (below_regrown w3 d os).size))
  have hcv1 : ∀ d os, (convert 44 9 (.slice A3 n3 c3)).run Try.prog (grow (redrawn w3 d) os) = .ok (.string ⟨(putL l).toArray⟩) (grow (redrawn w3 d) os) := by
    intro d os
    have := (bs_keep hb3 (below_regrown w3 d os)).conv c3
    rw [← hn3.out] at this
    exact this
  have hb4 : Bs w3 A xs := HB _ B3
  have hcv2 : ∀ d os, (convert 44 9 (.slice (if c = 0 then A else A.map (·.add 0)) k c)).run Try.prog (grow (redrawn w3 d) os) = .ok (.string ⟨(putL l).toArray⟩) (grow (redrawn w3 d) os) := by
    intro d os
    have := ((bs_keep hb4 (below_regrown w3 d os)).cut (c := c) (p := 0) (k := k) (by omega) (by omega)).conv c
    have hl : ((xs.drop 0).take k).length = k := by rw [List.length_take, List.length_drop]; omega
    rw [hl, List.drop_zero, ← hp] at this
    exact this
  obtain ⟨i0, hi0, _, hsz0, _⟩ := info_parts info5
  have hsl : ∀ W : World, (Instr.slice 44 (.slice A n c) none (some (.int .i64 (k : Int))) none).run Try.prog W = .ok (.slice (if c = 0 then A else A.map (·.add 0)) k c) W := by
    intro W
    have hel : Try.prog.elem 44 = 5 := by simp [Program.elem, Try.underlying44]
    have hu : Try.prog.underlying 44 = some (.slice (Try.prog.elem 44)) := by rw [hel]; exact Try.underlying44
    rw [run_slice_h W 44 A n c hu .i64 k (by omega) (by omega), hel]
    simp [sizeOf, typeInfo, hi0, hsz0, sliced, Result.andThen]
  generalize (if c = 0 then A else A.map (·.add 0)) = A' at *
  generalize (⟨(putL l).toArray⟩ : ByteArray) = S at *
  clear hb3 hb4 HB hp hI hI3 hi0 hsz0 hn3 cp o3
  go_wp2_with fail
  refine wp_region_quiet_below (by kernel_rfl) (by kernel_rfl) ?_
  repeat (quiet_step (first | exact cC _ _))
  refine wpQuiet_nil ?_
  intro _ hw'
  obtain ⟨⟨dq, osq⟩, hw''⟩ := hw'
  subst hw''
  go_wp2
  go_ret
  exact ⟨rfl, B3.trans ((below_regrown w3 dq osq).mono B3.size)⟩

theorem codeOnce_short (A : Option Addr) (n c : Nat) (xs : List UInt8) (hn : n ≤ 20000) (hc : n ≤ c) (hx : xs.length = n) (w : World) (hb : Bs w A xs) : Calls Try.prog 8 #[.slice A n c] w (Tr w) := by
  cases hv : value xs with
  | ok l k => exact codeOnce_ok A n c xs hn hc hx hv w hb
  | no a er => exact codeOnce_no A n c xs hn hc hx hv w hb
end Pu
end Go.Proofs.Ytibhldifmneboaa
