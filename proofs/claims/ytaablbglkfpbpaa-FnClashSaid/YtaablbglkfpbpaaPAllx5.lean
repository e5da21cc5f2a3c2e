-- Written by wip/tools/hp.py over the kit's print (not by hand): functions and walks of All.
import Derived.Test.YtaablbglkfpbpaaPAllx0
namespace Go.Proofs.Ytaablbglkfpbpaa.PAll
open Go.RowKit Go.Proofs.YtaablbglkfpbpaaW.PrintWords Go.Proofs.YtaablbglkfpbpaaW.PrintLast Go.Proofs.YtaablbglkfpbpaaW.PrintMore
attribute [local go_sem] max2_int min2_int max_two min_two max_three min_three max_four min_four   -- for this text's walks alone
set_option linter.unusedVariables false
set_option linter.unusedSimpArgs false

/-! ### impl_least: function 40, by hand -/
set_option maxHeartbeats 8000000 in
set_option maxRecDepth 100000 in
theorem impl_least.calls (b : Nat → Int) (w : World) : Calls Try.prog 40 #[.agg #[.int .i64 (b 0), .int .i64 (b 1), .int .i64 (b 2), .int .i64 (b 3), .int .i64 (b 4), .int .i64 (b 5), .int .i64 (b 6), .int .i64 (b 7), .int .i64 (b 8), .int .i64 (b 9), .int .i64 (b 10), .int .i64 (b 11)]] w fun e w' => e = .returned (.agg #[.int .i64 (b 2), .int .i64 (b 4), .int .i64 (b 6), .int .i64 (b 8), .int .i64 (b 10)]) ∧ Below w.heap.size w w' := by
 go_enter Try.func40, Try.ntmps40; go_wp2; refine bodyPost_ret (results_single rfl (.cell (w.heap.size + 1) 27 #[.int .i64 (b 2), .int .i64 (b 4), .int .i64 (b 6), .int .i64 (b 8), .int .i64 (b 10)] (0, 0) _ rfl (by simpa using blk_new (w.alloc (.cells #[.int .i64 (b 0), .int .i64 (b 1), .int .i64 (b 2), .int .i64 (b 3), .int .i64 (b 4), .int .i64 (b 5), .int .i64 (b 6), .int .i64 (b 7), .int .i64 (b 8), .int .i64 (b 9), .int .i64 (b 10), .int .i64 (b 11)] 71)) (.cells #[.int .i64 (b 2), .int .i64 (b 4), .int .i64 (b 6), .int .i64 (b 8), .int .i64 (b 10)] 27)) Try.underlying27 rfl (by kernel_rfl) .nil)) rfl ?_; exact ⟨rfl, ((Below.refl _ w).alloc (Nat.le_refl _) _).alloc (by simp) _⟩

end Go.Proofs.Ytaablbglkfpbpaa.PAll
