/-
  The walks of layer 28's checks, of the program and of the reference.
-/
import Derived.Test.YtajphmclobadfaaSpec28
namespace Go.Proofs.Ytajphmclobadfaa
open Go.RowKit

theorem session_any (s : Int) (w : World) : Calls Try.prog 10 #[.int .i64 s] w fun e w' => e = .returned (.bool (sessB s)) ∧ Below w.heap.size w w' := by
  go_enter Try.func10, Try.ntmps10
  go_wp2
  all_goals (go_ret; exact ⟨by simp [sessB, *], Below.refl _ _⟩)
theorem rsession_any (s : Int) (w : World) : Calls Try.prog 12 #[.int .i64 s] w fun e w' => e = .returned (.bool (sessB s)) ∧ Below w.heap.size w w' := by
  go_enter Try.func12, Try.ntmps12
  go_wp2
  all_goals (go_ret; exact ⟨by simp [sessB, *], Below.refl _ _⟩)

theorem base_any (s : Int) (p r d : Bool) (f : Int) (w : World) : Calls Try.prog 11 #[.agg #[.int .i64 s, .bool p, .bool r, .bool d, .int .i64 f]] w fun e w' => e = .returned (.int .i64 (baseI p r d f)) ∧ Below w.heap.size w w' := by
  go_enter Try.func11, Try.ntmps11
  go_wp2
  all_goals (go_ret; exact ⟨by simp [baseI, *], by go_grown⟩)
theorem rbase_any (s : Int) (p r d : Bool) (f : Int) (w : World) : Calls Try.prog 13 #[.agg #[.int .i64 s, .bool p, .bool r, .bool d, .int .i64 f]] w fun e w' => e = .returned (.int .i64 (baseI p r d f)) ∧ Below w.heap.size w w' := by
  go_enter Try.func13, Try.ntmps13
  go_wp2
  all_goals (go_ret; exact ⟨by simp [baseI, *], by go_grown⟩)

set_option maxHeartbeats 400000 in
theorem valid_any (s : Int) (p r d : Bool) (f : Int) (w : World) : Calls Try.prog 4 #[.agg #[.int .i64 s, .bool p, .bool r, .bool d, .int .i64 f]] w fun e w' => e = .returned (.int .i64 (validI s p r d f)) ∧ Below w.heap.size w w' := by
  go_enter Try.func4, Try.ntmps4
  go_wp2_with (go_at_call 10; refine (session_any _ _).mono ?_; rintro e w1 ⟨rfl, hb⟩; obtain ⟨hc, hf⟩ := bcell hb; have hz : w.heap.size < w1.heap.size := (by have := hb.size; simp at this; omega); have hB := below_step (w := w) hb (by go_grown))
  all_goals try (go_region_held3 (fun w' => (∀ b o, b < w1.heap.size → w'.cell? ⟨b, o, none⟩ = w1.cell? ⟨b, o, none⟩) ∧ Below w1.heap.size w1 w') (first | exact s_start | exact s_keep (Nat.le_refl _) (by assumption) (by assumption)) ((go_at_call 11; refine (base_any s p r d f _).mono ?_; rintro e w2 ⟨rfl, hb2⟩)))
  all_goals go_wp2
  all_goals go_ret
  all_goals refine ⟨?_, by first | (go_grown; done) | exact below_out (by assumption) hB.size (by go_grown)⟩
  all_goals (simp_all [validI]; try omega)
set_option maxHeartbeats 400000 in
theorem rvalid_any (s : Int) (p r d : Bool) (f : Int) (w : World) : Calls Try.prog 5 #[.agg #[.int .i64 s, .bool p, .bool r, .bool d, .int .i64 f]] w fun e w' => e = .returned (.int .i64 (validI s p r d f)) ∧ Below w.heap.size w w' := by
  go_enter Try.func5, Try.ntmps5
  go_wp2_with (go_at_call 12; refine (rsession_any _ _).mono ?_; rintro e w1 ⟨rfl, hb⟩; obtain ⟨hc, hf⟩ := bcell hb; have hz : w.heap.size < w1.heap.size := (by have := hb.size; simp at this; omega); have hB := below_step (w := w) hb (by go_grown))
  all_goals try (go_region_held3 (fun w' => (∀ b o, b < w1.heap.size → w'.cell? ⟨b, o, none⟩ = w1.cell? ⟨b, o, none⟩) ∧ Below w1.heap.size w1 w') (first | exact s_start | exact s_keep (Nat.le_refl _) (by assumption) (by assumption)) ((go_at_call 13; refine (rbase_any s p r d f _).mono ?_; rintro e w2 ⟨rfl, hb2⟩)))
  all_goals go_wp2
  all_goals go_ret
  all_goals refine ⟨?_, by first | (go_grown; done) | exact below_out (by assumption) hB.size (by go_grown)⟩
  all_goals (simp_all [validI]; try omega)
theorem charges_any (s : Int) (p r d : Bool) (f : Int) (w : World) : Calls Try.prog 6 #[.agg #[.int .i64 s, .bool p, .bool r, .bool d, .int .i64 f]] w (fun e w' => e = .returned (.bool (s == 3)) ∧ Below w.heap.size w w') := by
  go_enter Try.func6, Try.ntmps6
  go_wp2
  all_goals (go_ret; exact ⟨by simp [*], by go_grown⟩)
theorem rcharges_any (s : Int) (p r d : Bool) (f : Int) (w : World) : Calls Try.prog 7 #[.agg #[.int .i64 s, .bool p, .bool r, .bool d, .int .i64 f]] w (fun e w' => e = .returned (.bool (s == 3)) ∧ Below w.heap.size w w') := by
  go_enter Try.func7, Try.ntmps7
  go_wp2
  all_goals (go_ret; exact ⟨by simp [*], by go_grown⟩)
theorem free_any (s : Int) (p r d : Bool) (f : Int) (w : World) : Calls Try.prog 8 #[.agg #[.int .i64 s, .bool p, .bool r, .bool d, .int .i64 f]] w (fun e w' => e = .returned (.bool (s == 1 || s == 6)) ∧ Below w.heap.size w w') := by
  go_enter Try.func8, Try.ntmps8
  go_wp2
  all_goals (go_ret; exact ⟨by simp [*], by go_grown⟩)
theorem rfree_any (s : Int) (p r d : Bool) (f : Int) (w : World) : Calls Try.prog 9 #[.agg #[.int .i64 s, .bool p, .bool r, .bool d, .int .i64 f]] w (fun e w' => e = .returned (.bool (s == 1 || s == 6)) ∧ Below w.heap.size w w') := by
  go_enter Try.func9, Try.ntmps9
  go_wp2
  all_goals (go_ret; exact ⟨by simp [*], by go_grown⟩)
end Go.Proofs.Ytajphmclobadfaa
