/-
  The walks of layer 32: the checks.
-/
import Derived.Test.YtokjokbbegcceaaSpec32
import Derived.WalkLawsBesides
namespace Go.Proofs.Ytokjokbbegcceaa
open Go.RowKit

set_option maxHeartbeats 400000 in
theorem uw_any (s : Int) (w : World) : Calls Try.prog 21 #[.int .i64 s] w fun e w' => e = .returned (.bool (uwB s)) ∧ w = w' := by
  go_enter Try.func21, Try.ntmps21
  go_wp2
  all_goals go_ret
  all_goals refine ⟨?_, rfl⟩
  all_goals (first | (simp [uwB, *]; done) | (simp_all [uwB]; done) | (simp_all [uwB]; omega) | (simp [uwB]; omega) | (simp [uwB]; rw [Bool.eq_iff_iff]; simp; omega) | (simp [uwB]; (repeat' split) <;> (first | omega | simp_all)))
set_option maxHeartbeats 400000 in
theorem in_any (x a b : Int) (w : World) : Calls Try.prog 15 #[.int .i64 x, .int .i64 a, .int .i64 b] w fun e w' => e = .returned (.bool (!(x < a) && !(b < x))) ∧ w = w' := by
  go_enter Try.func15, Try.ntmps15
  go_wp2
  all_goals go_ret
  all_goals refine ⟨?_, rfl⟩
  all_goals (first | (simp [ge_iff_le, *]; done) | (simp_all [ge_iff_le]; done) | (simp_all [ge_iff_le]; omega) | (simp [ge_iff_le]; omega) | (simp [ge_iff_le]; rw [Bool.eq_iff_iff]; simp; omega) | (simp [ge_iff_le]; (repeat' split) <;> (first | omega | simp_all)))
set_option maxHeartbeats 1000000 in
theorem valid_any (s v t d tr : Int) (w : World) : Calls Try.prog 8 #[.agg #[.int .i64 s, .int .i64 v, .int .i64 t, .int .i64 d, .int .i64 tr]] w fun e w' => e = .returned (.int .i64 (fvalI ⟨s, v, t, d, tr⟩)) ∧ Below w.heap.size w w' := by
  go_enter Try.func8, Try.ntmps8
  go_wp2
  all_goals go_ret
  all_goals refine ⟨?_, by (repeat' (first | (with_reducible exact Below.refl _ _) | (with_reducible assumption) | (with_reducible refine Below.alloc ?_ ?_ _) | (with_reducible refine Below.drew ?_) | (with_reducible refine Below.setCell ?_ ?_ _) | (with_reducible exact Nat.le_refl _) | omega | (simp only [World.size_alloc, World.size_setCell, World.size_drew]; omega) | (simp; done)))⟩
  all_goals (first | (simp [fvalI, *]; done) | (simp_all [fvalI]; done) | (simp_all [fvalI]; omega) | (simp [fvalI]; omega) | (simp [fvalI]; rw [Bool.eq_iff_iff]; simp; omega) | (simp [fvalI]; (repeat' split) <;> (first | omega | simp_all)))
set_option maxHeartbeats 400000 in
theorem ruw_any (s v t d tr : Int) (w : World) : Calls Try.prog 16 #[.agg #[.int .i64 s, .int .i64 v, .int .i64 t, .int .i64 d, .int .i64 tr]] w fun e w' => e = .returned (.bool (uwB s)) ∧ Below w.heap.size w w' := by
  go_enter Try.func16, Try.ntmps16
  go_wp2_with (go_at_call 15; refine (in_any _ _ _ _).mono ?_; rintro e w' ⟨rfl, rfl⟩)
  all_goals go_ret
  all_goals refine ⟨?_, by (repeat' (first | (with_reducible exact Below.refl _ _) | (with_reducible assumption) | (with_reducible refine Below.alloc ?_ ?_ _) | (with_reducible refine Below.drew ?_) | (with_reducible refine Below.setCell ?_ ?_ _) | (with_reducible exact Nat.le_refl _) | omega | (simp only [World.size_alloc, World.size_setCell, World.size_drew]; omega) | (simp; done)))⟩
  all_goals (first | (simp [uwB, *]; done) | (simp_all [uwB]; done) | (simp_all [uwB]; omega) | (simp [uwB]; omega) | (simp [uwB]; rw [Bool.eq_iff_iff]; simp; omega) | (simp [uwB]; (repeat' split) <;> (first | omega | simp_all)))
end Go.Proofs.Ytokjokbbegcceaa
