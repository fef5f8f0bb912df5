/-
  The walks of layer 19: the examples.
-/
import Derived.Test.YtmkeigpbjdmghaaWalks19c
import Derived.Test.YtmkeigpbjdmghaaWalks19d
import Derived.WalkLawsBesides
namespace Go.Proofs.Ytmkeigpbjdmghaa
open Go.RowKit

set_option maxHeartbeats 1000000 in
theorem example_any (w : World) : Calls Try.prog 13 #[] w fun e w' => e = .returned (.bool true) ∧ Below w.heap.size w w' := by
  have e1 : cntR 990 1000 0 100000 15 = 6 := by decide +kernel
  have e2 : cntT 990 1000 0 100000 15 = 500000 := by decide +kernel
  have e3 : chkI 990 1000 0 100000 15 = 0 := by decide +kernel
  have e4 : dltN 99990 15 100000 = 25 := by decide +kernel
  have e5 : dltE 99990 15 100000 = 0 := by decide +kernel
  have e6 : bndLo 0 1000 0 (-100000) 15 = 13 := by decide +kernel
  have e7 : bndHi 0 1000 0 (-100000) 15 = 14 := by decide +kernel
  have e8 : chkI 0 1000 0 (-100000) 15 = 0 := by decide +kernel
  have e9 : mvalI 0 999 0 0 = 1 := by decide +kernel
  go_enter Try.func13, Try.ntmps13
  go_wp2_with (first | (go_at_call 14; refine (count_any _ _ _ _ _ _).mono ?_; rintro e w1 ⟨rfl, hb1⟩; obtain ⟨hc1, hf1⟩ := bcell hb1; have hs1 := hb1.size; (try simp only [World.size_alloc, World.size_drew, World.size_setCell] at hs1); have hB1 := below_step (w := w) hb1 (by go_grown); have hS1 := hB1.size) | (go_at_call 16; refine (delta_any _ _ _ _).mono ?_; rintro e w2 ⟨rfl, hb2⟩; obtain ⟨hc2, hf2⟩ := bcell hb2; have hs2 := hb2.size; (try simp only [World.size_alloc, World.size_drew, World.size_setCell] at hs2); have hB2 := below_step (w := w) hb2 (by go_grown); have hS2 := hB2.size; have hz2_0 : w1.heap.size < w2.heap.size := (by omega)) | (go_at_call 18; refine (mbounds_any _ _ _ _ _ _).mono ?_; rintro e w3 ⟨rfl, hb3⟩; obtain ⟨hc3, hf3⟩ := bcell hb3; have hs3 := hb3.size; (try simp only [World.size_alloc, World.size_drew, World.size_setCell] at hs3); have hB3 := below_step (w := w) hb3 (by go_grown); have hS3 := hB3.size; have hz3_0 : w1.heap.size < w3.heap.size := (by omega)) | (go_at_call 11; refine (valid_any _ _ _ _ _).mono ?_; rintro e w4 ⟨rfl, hb4⟩; obtain ⟨hc4, hf4⟩ := bcell hb4; have hs4 := hb4.size; (try simp only [World.size_alloc, World.size_drew, World.size_setCell] at hs4); have hB4 := below_step (w := w) hb4 (by go_grown); have hS4 := hB4.size; have hz4_0 : w1.heap.size < w4.heap.size := (by omega)))
  go_ret
  exact ⟨rfl, by go_grown⟩
end Go.Proofs.Ytmkeigpbjdmghaa
