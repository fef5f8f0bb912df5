/-
  The walks of layer 19: Bounds.
-/
import Derived.Test.YtmkeigpbjdmghaaWalks19b
import Derived.WalkLawsBesides
namespace Go.Proofs.Ytmkeigpbjdmghaa
open Go.RowKit

set_option maxHeartbeats 400000 in
theorem bounds_any (x y : Int) (a : Addr) (w : World) (hc : w.cell? a = some (.int .i64 y)) (hxy : x ≤ y) : Calls Try.prog 25 #[.int .i64 x, .slice (some a) 1 1] w fun e w' => e = .returned (.tuple #[.int .i64 x, .int .i64 y]) ∧ Below w.heap.size w w' := by
  go_enter Try.func25, Try.ntmps25
  go_wp2
  go_rounds 2
  all_goals go_ret2
  all_goals refine ⟨?_, by go_grown⟩
  all_goals (first | rfl | (simp; omega))
set_option maxHeartbeats 1000000 in
theorem mbounds_any (R M T G n : Int) (w : World) : Calls Try.prog 18 #[.agg #[.int .i64 R, .int .i64 M, .int .i64 T, .int .i64 G], .int .i64 n] w fun e w' => e = .returned (.tuple #[.int .i64 (bndLo R M T G n), .int .i64 (bndHi R M T G n), .int .i64 (chkI R M T G n)]) ∧ Below w.heap.size w w' := by
  by_cases hchk : chkI R M T G n = 0
  ·
    obtain ⟨hm, he⟩ := chk_ok.1 hchk
    obtain ⟨h1, h2, h3, h4, h5, h6, h7, h8⟩ := mok_iff.1 hm
    obtain ⟨h9, h10⟩ := eok_iff.1 he
    obtain ⟨p1, p2⟩ := prod_bd h7 h8 h9 h10
    have eL : Hid (bndLo R M T G n = (n * (1000000 + G)) / 1000000) := by unfold bndLo msr; rw [if_pos hchk, Int.add_zero]; rfl
    have eH : Hid (bndHi R M T G n = (n * (1000000 + G) + 999999) / 1000000) := by unfold bndHi msr; rw [if_pos hchk]; rfl
    have hE : (chkI R M T G n != 0) = false := by rw [hchk]; rfl
    have HE := Lib.hid hchk
    have hu0 : msr G n 0 = n * (1000000 + G) := by unfold msr; rw [Int.add_zero]
    have hu1 : msr G n 999999 = n * (1000000 + G) + 999999 := rfl
    have hq0 : IntKind.i64.wrap ((n * (1000000 + G)).tdiv 1000000) = n * (1000000 + G) / 1000000 := by rw [Int.tdiv_eq_ediv_of_nonneg p1]; exact IntWalk.i64_in _ (by omega)
    have hq1 : IntKind.i64.wrap ((n * (1000000 + G) + 999999).tdiv 1000000) = (n * (1000000 + G) + 999999) / 1000000 := by rw [Int.tdiv_eq_ediv_of_nonneg (by omega)]; exact IntWalk.i64_in _ (by omega)
    clear hchk hm he
    go_enter Try.func18, Try.ntmps18
    go_wp2_with (go_at_call 22; refine (check_any R M T G n _).mono ?_; rintro e w1 ⟨rfl, hb1⟩; obtain ⟨hc1, hf1⟩ := bcell hb1; have hs1 := hb1.size; (try simp only [World.size_alloc, World.size_drew, World.size_setCell] at hs1); have hB1 := below_step (w := w) hb1 (by go_grown); have hS1 := hB1.size; have hz1_0 : w.heap.size < w1.heap.size := (by omega))
    go_region_held3 (fun w' => (∀ b o, b < w1.heap.size → w'.cell? ⟨b, o, none⟩ = w1.cell? ⟨b, o, none⟩) ∧ Below w1.heap.size w1 w') (first | exact s_start | exact s_keep (Nat.le_refl _) (by assumption) (by assumption) | exact s_alloc (Nat.le_refl _) (by assumption))
      (first
        | (go_at_call 23; refine (measured_any _ _ _ _ _ _ _ h7 h8 p1 p2 (by omega) (by omega)).mono ?_; rintro e w2 ⟨rfl, hb2⟩)
        | (go_at_call 25; refine (bounds_any _ ((n * (1000000 + G) + 999999) / 1000000) _ _ ?_ ?_).mono ?_; simp [go_sem]; omega; rintro e w3 ⟨rfl, hb3⟩))
    go_wp2
    go_ret3
    refine ⟨?_, below_out (W := w1) (by assumption) hB1.size hB1⟩
    rw [eL.out, eH.out, HE.out]
    try rfl
  · have eL : Hid (bndLo R M T G n = 0) := by unfold bndLo; rw [if_neg hchk]; rfl
    have eH : Hid (bndHi R M T G n = 0) := by unfold bndHi; rw [if_neg hchk]; rfl
    have hE : (chkI R M T G n != 0) = true := by rw [bne_iff_ne]; exact hchk
    clear hchk
    go_enter Try.func18, Try.ntmps18
    go_wp2_with (go_at_call 22; refine (check_any R M T G n _).mono ?_; rintro e w1 ⟨rfl, hb1⟩; obtain ⟨hc1, hf1⟩ := bcell hb1; have hs1 := hb1.size; (try simp only [World.size_alloc, World.size_drew, World.size_setCell] at hs1); have hB1 := below_step (w := w) hb1 (by go_grown); have hS1 := hB1.size; have hz1_0 : w.heap.size < w1.heap.size := (by omega))
    go_ret3
    refine ⟨?_, by go_grown⟩
    rw [eL.out, eH.out]
    try rfl
set_option maxHeartbeats 1000000 in
theorem rmbounds_any (R M T G n : Int) (w : World) : Calls Try.prog 19 #[.agg #[.int .i64 R, .int .i64 M, .int .i64 T, .int .i64 G], .int .i64 n] w fun e w' => e = .returned (.tuple #[.int .i64 (bndLo R M T G n), .int .i64 (bndHi R M T G n), .int .i64 (chkI R M T G n)]) ∧ Below w.heap.size w w' := by
  by_cases hchk : chkI R M T G n = 0
  ·
    obtain ⟨hm, he⟩ := chk_ok.1 hchk
    obtain ⟨h1, h2, h3, h4, h5, h6, h7, h8⟩ := mok_iff.1 hm
    obtain ⟨h9, h10⟩ := eok_iff.1 he
    obtain ⟨p1, p2⟩ := prod_bd h7 h8 h9 h10
    have eL : Hid (bndLo R M T G n = (n * (1000000 + G)) / 1000000) := by unfold bndLo msr; rw [if_pos hchk, Int.add_zero]; rfl
    have eH : Hid (bndHi R M T G n = (n * (1000000 + G) + 1000000 - 1) / 1000000) := by unfold bndHi msr; rw [if_pos hchk]; show _ = _; congr 1; omega
    have hE : (chkI R M T G n != 0) = false := by rw [hchk]; rfl
    have HE := Lib.hid hchk
    clear hchk hm he
    go_enter Try.func19, Try.ntmps19
    go_wp2_with (go_at_call 24; refine (right_any R M T G n _).mono ?_; rintro e w1 ⟨rfl, hb1⟩; obtain ⟨hc1, hf1⟩ := bcell hb1; have hs1 := hb1.size; (try simp only [World.size_alloc, World.size_drew, World.size_setCell] at hs1); have hB1 := below_step (w := w) hb1 (by go_grown); have hS1 := hB1.size; have hz1_0 : w.heap.size < w1.heap.size := (by omega))
    go_ret3
    refine ⟨?_, by go_grown⟩
    rw [eL.out, eH.out, HE.out]
    try rfl
  · have eL : Hid (bndLo R M T G n = 0) := by unfold bndLo; rw [if_neg hchk]; rfl
    have eH : Hid (bndHi R M T G n = 0) := by unfold bndHi; rw [if_neg hchk]; rfl
    have hE : (chkI R M T G n != 0) = true := by rw [bne_iff_ne]; exact hchk
    clear hchk
    go_enter Try.func19, Try.ntmps19
    go_wp2_with (go_at_call 24; refine (right_any R M T G n _).mono ?_; rintro e w1 ⟨rfl, hb1⟩; obtain ⟨hc1, hf1⟩ := bcell hb1; have hs1 := hb1.size; (try simp only [World.size_alloc, World.size_drew, World.size_setCell] at hs1); have hB1 := below_step (w := w) hb1 (by go_grown); have hS1 := hB1.size; have hz1_0 : w.heap.size < w1.heap.size := (by omega))
    go_ret3
    refine ⟨?_, by go_grown⟩
    rw [eL.out, eH.out]
    try rfl
end Go.Proofs.Ytmkeigpbjdmghaa
