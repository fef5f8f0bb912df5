/-
  The walks of layer 19: the checks, what is measured, Delta.
-/
import Derived.Test.YtmkeigpbjdmghaaWalks19a
import Derived.WalkLawsBesides
namespace Go.Proofs.Ytmkeigpbjdmghaa
open Go.RowKit

set_option maxHeartbeats 400000 in
theorem check_any (R M T G n : Int) (w : World) : Calls Try.prog 22 #[.agg #[.int .i64 R, .int .i64 M, .int .i64 T, .int .i64 G], .int .i64 n] w fun e w' => e = .returned (.int .i64 (chkI R M T G n)) ∧ Below w.heap.size w w' := by
  go_enter Try.func22, Try.ntmps22
  go_wp2_with (go_at_call 11; refine (valid_any R M T G _).mono ?_; rintro e w1 ⟨rfl, hb1⟩; obtain ⟨hc1, hf1⟩ := bcell hb1; have hs1 := hb1.size; (try simp only [World.size_alloc, World.size_drew, World.size_setCell] at hs1); have hB1 := below_step (w := w) hb1 (by go_grown); have hS1 := hB1.size; have hz1_0 : w.heap.size < w1.heap.size := (by omega))
  all_goals go_ret
  all_goals refine ⟨?_, by go_grown⟩
  all_goals (first | (simp_all [mvalI, chkI, eokB]; done) | (simp_all [mvalI, chkI, eokB]; omega))
set_option maxHeartbeats 400000 in
theorem right_any (R M T G n : Int) (w : World) : Calls Try.prog 24 #[.agg #[.int .i64 R, .int .i64 M, .int .i64 T, .int .i64 G], .int .i64 n] w fun e w' => e = .returned (.int .i64 (chkI R M T G n)) ∧ Below w.heap.size w w' := by
  go_enter Try.func24, Try.ntmps24
  go_wp2_with (go_at_call 12; refine (rvalid_any R M T G _).mono ?_; rintro e w1 ⟨rfl, hb1⟩; obtain ⟨hc1, hf1⟩ := bcell hb1; have hs1 := hb1.size; (try simp only [World.size_alloc, World.size_drew, World.size_setCell] at hs1); have hB1 := below_step (w := w) hb1 (by go_grown); have hS1 := hB1.size; have hz1_0 : w.heap.size < w1.heap.size := (by omega))
  all_goals go_ret
  all_goals refine ⟨?_, by go_grown⟩
  all_goals (first | (simp_all [mvalI, chkI, eokB]; done) | (simp_all [mvalI, chkI, eokB]; omega))
set_option maxHeartbeats 400000 in
theorem measured_any (R M T G n t : Int) (w : World) (g1 : -100000 ≤ G) (g2 : G ≤ 100000) (p1 : 0 ≤ n * (1000000 + G)) (p2 : n * (1000000 + G) ≤ 1209462790553600000) (t1 : 0 ≤ t) (t2 : t ≤ 1000000) : Calls Try.prog 23 #[.agg #[.int .i64 R, .int .i64 M, .int .i64 T, .int .i64 G], .int .i64 n, .int .i64 t] w fun e w' => e = .returned (.int .i64 (msr G n t)) ∧ Below w.heap.size w w' := by
  go_enter Try.func23, Try.ntmps23
  go_wp2
  go_ret
  exact ⟨by simp [msr], by go_grown⟩
set_option maxHeartbeats 400000 in
theorem delta_any (a b M : Int) (w : World) : Calls Try.prog 16 #[.int .i64 a, .int .i64 b, .int .i64 M] w fun e w' => e = .returned (.tuple #[.int .i64 (dltN a b M), .int .i64 (dltE a b M)]) ∧ Below w.heap.size w w' := by
  go_enter Try.func16, Try.ntmps16
  go_wp2
  all_goals go_ret2
  all_goals refine ⟨?_, by go_grown⟩
  all_goals (first | (simp_all [dltN, dltE]; done) | (simp_all [dltN, dltE]; omega) | (simp [dltN, dltE]; (repeat' split) <;> (first | omega | simp_all)))
set_option maxHeartbeats 400000 in
theorem rdelta_any (a b M : Int) (w : World) : Calls Try.prog 17 #[.int .i64 a, .int .i64 b, .int .i64 M] w fun e w' => e = .returned (.tuple #[.int .i64 (dltN a b M), .int .i64 (dltE a b M)]) ∧ Below w.heap.size w w' := by
  go_enter Try.func17, Try.ntmps17
  go_wp2
  all_goals go_ret2
  all_goals refine ⟨?_, by go_grown⟩
  all_goals (first | (simp_all [dltN, dltE]; done) | (simp_all [dltN, dltE]; omega) | (simp [dltN, dltE]; (repeat' split) <;> (first | omega | simp_all)))
end Go.Proofs.Ytmkeigpbjdmghaa
