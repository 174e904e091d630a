/- The contract of bits.OnesCount at small numbers. -/
import Derived.Test.YtdacdkidjgbdoaaTd
set_option linter.unusedVariables false
set_option linter.unusedSimpArgs false
namespace Go.Proofs.Ytdacdkidjgbdoaa
open Go Go.RowKit
namespace Rf
attribute [local go_sem ↓] Go.wp_at_zero Go.wp_at_succ

/-- how many of the first seven bits are set -/
def pop (n : Nat) : Nat := (if n.testBit 0 then 1 else 0) + (if n.testBit 1 then 1 else 0) + (if n.testBit 2 then 1 else 0) + (if n.testBit 3 then 1 else 0) + (if n.testBit 4 then 1 else 0) + (if n.testBit 5 then 1 else 0) + (if n.testBit 6 then 1 else 0)

set_option maxRecDepth 100000 in
theorem ones64_is (x : Nat) (hx : x < 128) (w : World) : Calls Try.prog 81 #[.int .u64 x] w fun e w' => e = .returned (.int .i64 (pop x)) ∧ w = w' := by
  have HX := Lib.hid hx
  clear hx
  go_enter Try.func81, Try.ntmps81
  go_wp2_with fail
  go_ret
  refine ⟨?_, rfl⟩
  refine congrArg (fun z => Ending.returned (Value.int .i64 z)) ?_
  have hx := HX.out
  clear HX
  revert x
  decide +kernel
set_option maxRecDepth 100000 in
theorem ones_is (x : Nat) (hx : x < 128) (w : World) : Calls Try.prog 66 #[.int .u64 x] w fun e w' => e = .returned (.int .i64 (pop x)) ∧ w = w' := by
  have c1 := ones64_is x hx w
  clear hx
  go_enter Try.func66, Try.ntmps66
  go_wp2_with fail
  refine c1.mono ?_
  rintro e w1 ⟨rfl, rfl⟩
  go_wp2_with fail
  go_ret
  exact ⟨rfl, rfl⟩
end Rf
end Go.Proofs.Ytdacdkidjgbdoaa
