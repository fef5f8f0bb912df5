/-
  The walks of layer 32: the reference's Valid.
-/
import Derived.Test.YtokjokbbegcceaaWalks32a
import Derived.WalkLawsBesides
namespace Go.Proofs.Ytokjokbbegcceaa
open Go.RowKit

set_option maxHeartbeats 2000000 in
theorem rvalid_out (s v t d tr : Int) (w : World) (h : ¬ (0 ≤ s ∧ s ≤ 6 ∧ 0 ≤ v ∧ v ≤ 2147483647 ∧ 0 ≤ t ∧ t ≤ 2147483647 ∧ 0 ≤ d ∧ d ≤ 268435456 ∧ 0 ≤ tr ∧ tr ≤ 10)) : Calls Try.prog 9 #[.agg #[.int .i64 s, .int .i64 v, .int .i64 t, .int .i64 d, .int .i64 tr]] w fun e w' => e = .returned (.int .i64 2) ∧ Below w.heap.size w w' := by
  go_enter Try.func9, Try.ntmps9
  go_wp2_with (go_at_call 15; refine (in_any _ _ _ _).mono ?_; rintro e w' ⟨rfl, rfl⟩)
  all_goals first | (go_ret; exact ⟨rfl, by (repeat' (first | (with_reducible exact Below.refl _ _) | (with_reducible assumption) | (with_reducible refine Below.alloc ?_ ?_ _) | (with_reducible refine Below.drew ?_) | (with_reducible refine Below.setCell ?_ ?_ _) | (with_reducible exact Nat.le_refl _) | omega | (simp only [World.size_alloc, World.size_setCell, World.size_drew]; omega) | (simp; done)))⟩) | (exfalso; omega)
set_option maxHeartbeats 2000000 in
theorem rvalid_any (s v t d tr : Int) (w : World) : Calls Try.prog 9 #[.agg #[.int .i64 s, .int .i64 v, .int .i64 t, .int .i64 d, .int .i64 tr]] w fun e w' => e = .returned (.int .i64 (fvalI ⟨s, v, t, d, tr⟩)) ∧ Below w.heap.size w w' := by
  by_cases h : 0 ≤ s ∧ s ≤ 6 ∧ 0 ≤ v ∧ v ≤ 2147483647 ∧ 0 ≤ t ∧ t ≤ 2147483647 ∧ 0 ≤ d ∧ d ≤ 268435456 ∧ 0 ≤ tr ∧ tr ≤ 10
  · obtain ⟨h1, h2, h3, h4, h5, h6, h7, h8, h9, h10⟩ := h
    have hr : (s < 0 || 6 < s || v < 0 || 2147483647 < v || t < 0 || 2147483647 < t || d < 0 || 268435456 < d || tr < 0 || 10 < tr : Bool) = false := by simp; omega
    have hs : s = 0 ∨ s = 1 ∨ s = 2 ∨ s = 3 ∨ s = 4 ∨ s = 5 ∨ s = 6 := by omega
    have u0 : uwB 0 = false := rfl
    have u1 : uwB 1 = true := rfl
    have u2 : uwB 2 = true := rfl
    have u3 : uwB 3 = true := rfl
    have u4 : uwB 4 = true := rfl
    have u5 : uwB 5 = false := rfl
    have u6 : uwB 6 = false := rfl
    have HR := Lib.hid hr
    clear hr
    rcases hs with rfl | rfl | rfl | rfl | rfl | rfl | rfl
    all_goals
      go_enter Try.func9, Try.ntmps9
      go_wp2_with (first | (go_at_call 15; refine (in_any _ _ _ _).mono ?_; rintro e w' ⟨rfl, rfl⟩) | (go_at_call 16; refine (ruw_any _ _ _ _ _ _).mono ?_; rintro e w1 ⟨rfl, hb1⟩; obtain ⟨hc1, hf1⟩ := bcell hb1; have hs1 := hb1.size; (try simp only [World.size_alloc, World.size_drew, World.size_setCell] at hs1); have hB1 := below_step (w := w) hb1 (by (repeat' (first | (with_reducible exact Below.refl _ _) | (with_reducible assumption) | (with_reducible refine Below.alloc ?_ ?_ _) | (with_reducible refine Below.drew ?_) | (with_reducible refine Below.setCell ?_ ?_ _) | (with_reducible exact Nat.le_refl _) | omega | (simp only [World.size_alloc, World.size_setCell, World.size_drew]; omega) | (simp; done)))); have hS1 := hB1.size; have hz1_0 : w.heap.size < w1.heap.size := (by omega); have hy1_0 : w.heap.size ≤ w1.heap.size := (by omega); have hx1_0 : w.heap.size ≤ w1.heap.size + 1 := (by omega)))
      all_goals go_ret
      all_goals refine ⟨?_, by (repeat' (first | (with_reducible exact Below.refl _ _) | (with_reducible assumption) | (with_reducible refine Below.alloc ?_ ?_ _) | (with_reducible refine Below.drew ?_) | (with_reducible refine Below.setCell ?_ ?_ _) | (with_reducible exact Nat.le_refl _) | omega | (simp only [World.size_alloc, World.size_setCell, World.size_drew]; omega) | (simp; done)))⟩
      all_goals have HH := HR.out
      all_goals unfold fvalI
      all_goals rw [HH]
      all_goals first | (simp [*]; done) | (simp_all; done)
  · refine (rvalid_out s v t d tr w h).mono fun e w' hh => ?_
    rw [show fvalI ⟨s, v, t, d, tr⟩ = 2 by unfold fvalI; rw [if_pos (by simp; omega)]]
    exact hh
end Go.Proofs.Ytokjokbbegcceaa
