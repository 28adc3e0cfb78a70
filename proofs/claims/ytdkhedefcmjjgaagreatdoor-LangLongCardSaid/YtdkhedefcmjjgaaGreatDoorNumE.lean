/- num, walked: an error's number.
Conditions: none. -/
import Derived.Test.YtdkhedefcmjjgaaGreatDoorTree
namespace Go.Proofs.YtdkhedefcmjjgaaGreatDoor
open Go.RowKit Sp
set_option linter.unusedSimpArgs false
theorem num_any (n : Int) (w : World) : Calls Tryz.prog 7 #[.int .i64 n] w fun e w' => e = .returned (.int .i64 n) ∧ w = w' := by
  go_enter Tryz.func7, Tryz.ntmps7
  go_wp2
  go_returns
  exact ⟨rfl, rfl⟩
end Go.Proofs.YtdkhedefcmjjgaaGreatDoor
