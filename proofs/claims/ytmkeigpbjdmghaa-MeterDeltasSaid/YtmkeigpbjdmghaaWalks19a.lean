/-
  The walks of layer 19: Valid, of the program and of the reference.
-/
import Derived.Test.YtmkeigpbjdmghaaSpec19
import Derived.WalkLawsBesides
namespace Go.Proofs.Ytmkeigpbjdmghaa
open Go.RowKit

set_option maxHeartbeats 400000 in
theorem valid_any (R M T G : Int) (w : World) : Calls Try.prog 11 #[.agg #[.int .i64 R, .int .i64 M, .int .i64 T, .int .i64 G]] w fun e w' => e = .returned (.int .i64 (mvalI R M T G)) ∧ Below w.heap.size w w' := by
  go_enter Try.func11, Try.ntmps11
  go_wp2
  all_goals go_ret
  all_goals refine ⟨?_, by go_grown⟩
  all_goals (first | (simp_all [mvalI, mokB]; done) | (simp_all [mvalI, mokB]; omega))
set_option maxHeartbeats 400000 in
theorem rvalid_any (R M T G : Int) (w : World) : Calls Try.prog 12 #[.agg #[.int .i64 R, .int .i64 M, .int .i64 T, .int .i64 G]] w fun e w' => e = .returned (.int .i64 (mvalI R M T G)) ∧ Below w.heap.size w w' := by
  go_enter Try.func12, Try.ntmps12
  go_wp2
  all_goals go_ret
  all_goals refine ⟨?_, by go_grown⟩
  all_goals (first | (simp_all [mvalI, mokB]; done) | (simp_all [mvalI, mokB]; omega))
end Go.Proofs.Ytmkeigpbjdmghaa
