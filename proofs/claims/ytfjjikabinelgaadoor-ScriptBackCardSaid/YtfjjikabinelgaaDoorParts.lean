/- Walks: what a kind's step has; how long a kind's text may be. -/
import Derived.Test.YtfjjikabinelgaaDoorBytes
import Derived.Test.YtfjjikabinelgaaDoorPlainB
namespace Go.Proofs.YtfjjikabinelgaaDoor
open Go.RowKit Go.Proofs.YtfjjikabinelgaaDoorW.PrintWords Go.Proofs.YtfjjikabinelgaaDoorW.PrintLast Go.Proofs.YtfjjikabinelgaaDoorW.PrintMore Sc PScriptLines
set_option linter.unusedVariables false
set_option linter.unusedSimpArgs false

/-- What a kind's step has, as a value. -/
def hv (k : Nat) : Array Value := #[.bool (sided k), .bool (hasN k), .bool (decide (k = 0)), .bool (decide (k = 7)), .bool (decide (k = 9)), .bool (hasD k)]

set_option maxHeartbeats 1000000 in
theorem parts_calls (k : Nat) (hk : k ≤ 9) (w : World) : Calls Tryd.prog 24 #[.int .u8 k] w fun e w' => e = .returned (.agg (hv k)) ∧ w' = w.alloc (.cells (hv k) 68) := by
  have hcase : k = 0 ∨ k = 1 ∨ k = 2 ∨ k = 3 ∨ k = 4 ∨ k = 5 ∨ k = 6 ∨ k = 7 ∨ k = 8 ∨ k = 9 := by omega
  rcases hcase with rfl | rfl | rfl | rfl | rfl | rfl | rfl | rfl | rfl | rfl
  all_goals (go_enter Tryd.func24, Tryd.ntmps24; go_wp2; refine bodyPost_ret (v := .agg (hv _)) (by simp [results, Tryd.results24, go_sem]; rfl) rfl ⟨rfl, rfl⟩)
theorem long_calls (k : Nat) (hk : k ≤ 9) (w : World) : Calls Tryd.prog 44 #[.int .u8 k] w fun e w' => e = .returned (.int .i64 (if k = 4 then 15 else if k = 6 then 7 else 63)) ∧ w' = w := by
  have : k = 0 ∨ k = 1 ∨ k = 2 ∨ k = 3 ∨ k = 4 ∨ k = 5 ∨ k = 6 ∨ k = 7 ∨ k = 8 ∨ k = 9 := by omega
  rcases this with rfl | rfl | rfl | rfl | rfl | rfl | rfl | rfl | rfl | rfl
  all_goals (go_enter Tryd.func44, Tryd.ntmps44; go_wp2; go_ret; exact ⟨rfl, rfl⟩)
end Go.Proofs.YtfjjikabinelgaaDoor
