/-
  The walks of layer 32: Step.
-/
import Derived.Test.YtokjokbbegcceaaWalks32a
import Derived.WalkLawsBesides
import Derived.BigRegion
namespace Go.Proofs.Ytokjokbbegcceaa
open Go.RowKit

set_option maxHeartbeats 2000000 in
theorem step_any (s v t d tr now : Int) (idle good : Bool) (w : World) : Calls Try.prog 14 #[.agg #[.int .i64 s, .int .i64 v, .int .i64 t, .int .i64 d, .int .i64 tr], .int .i64 now, .bool idle, .bool good] w fun e w' => e = .returned (.tuple #[.agg #[.int .i64 (step ⟨s, v, t, d, tr⟩ now idle good).s, .int .i64 (step ⟨s, v, t, d, tr⟩ now idle good).v, .int .i64 (step ⟨s, v, t, d, tr⟩ now idle good).t, .int .i64 (step ⟨s, v, t, d, tr⟩ now idle good).d, .int .i64 (step ⟨s, v, t, d, tr⟩ now idle good).tr], .bool ((step ⟨s, v, t, d, tr⟩ now idle good).s != s)]) ∧ Below w.heap.size w w' := by
  go_enter Try.func14, Try.ntmps14
  go_wp2
  all_goals go_region
  all_goals go_wp2
  all_goals refine bodyPost_ret (by simp [results, Try.results14, go_sem, *]; try rfl) rfl ?_
  all_goals refine ⟨?_, by (repeat' (first | (with_reducible exact Below.refl _ _) | (with_reducible assumption) | (with_reducible refine Below.alloc ?_ ?_ _) | (with_reducible refine Below.drew ?_) | (with_reducible refine Below.setCell ?_ ?_ _) | (with_reducible exact Nat.le_refl _) | omega | (simp only [World.size_alloc, World.size_setCell, World.size_drew]; omega) | (simp; done)))⟩
  all_goals (first | (simp [step, *]; done) | (simp_all [step]; done) | (unfold step; rw [if_pos (by assumption)]; simp only [*]; rw [if_neg (by omega)]; simp; done) | (simp_all [step]; rw [if_neg (by omega)]; simp; done) | (simp_all [step]; omega))
set_option maxHeartbeats 2000000 in
theorem rstep_any (s v t d tr now : Int) (idle good : Bool) (w : World) : Calls Try.prog 19 #[.agg #[.int .i64 s, .int .i64 v, .int .i64 t, .int .i64 d, .int .i64 tr], .int .i64 now, .bool idle, .bool good] w fun e w' => e = .returned (.tuple #[.agg #[.int .i64 (step ⟨s, v, t, d, tr⟩ now idle good).s, .int .i64 (step ⟨s, v, t, d, tr⟩ now idle good).v, .int .i64 (step ⟨s, v, t, d, tr⟩ now idle good).t, .int .i64 (step ⟨s, v, t, d, tr⟩ now idle good).d, .int .i64 (step ⟨s, v, t, d, tr⟩ now idle good).tr], .bool ((step ⟨s, v, t, d, tr⟩ now idle good).s != s)]) ∧ Below w.heap.size w w' := by
  go_enter Try.func19, Try.ntmps19
  go_wp2
  all_goals go_region
  all_goals go_wp2
  all_goals refine bodyPost_ret (by simp [results, Try.results19, go_sem, *]; try rfl) rfl ?_
  all_goals refine ⟨?_, by (repeat' (first | (with_reducible exact Below.refl _ _) | (with_reducible assumption) | (with_reducible refine Below.alloc ?_ ?_ _) | (with_reducible refine Below.drew ?_) | (with_reducible refine Below.setCell ?_ ?_ _) | (with_reducible exact Nat.le_refl _) | omega | (simp only [World.size_alloc, World.size_setCell, World.size_drew]; omega) | (simp; done)))⟩
  all_goals (first | (simp [step, *]; done) | (simp_all [step]; done) | (unfold step; rw [if_pos (by assumption)]; simp only [*]; rw [if_neg (by omega)]; simp; done) | (simp_all [step]; rw [if_neg (by omega)]; simp; done) | (simp_all [step]; omega))
end Go.Proofs.Ytokjokbbegcceaa
