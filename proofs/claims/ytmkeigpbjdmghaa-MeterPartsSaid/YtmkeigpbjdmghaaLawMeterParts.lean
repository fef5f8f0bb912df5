/-
  MeterParts: counting an energy in two parts is counting it at once. No conditions.
-/
import Derived.Test.YtmkeigpbjdmghaaWalks19e
import Derived.Test.YtmkeigpbjdmghaaOpen19
import Derived.Test.YtmkeigpbjdmghaaPlain19
import Derived.WalkLawsBesides
namespace Go.Proofs.Ytmkeigpbjdmghaa
open Go.RowKit Go.WideShapes Go.ChangeShapes Go.ChangeAt

set_option maxHeartbeats 2000000 in
theorem meterParts_walk (R M T G x y : Int) (w : World) (hx : I64 x) (hy : I64 y) : Calls Try.prog 8 #[.agg #[.int .i64 R, .int .i64 M, .int .i64 T, .int .i64 G], .int .i64 x, .int .i64 y] w fun e w' => e = .returned (.bool true) ∧ Below w.heap.size w w' := by
  obtain ⟨hx1, hx2⟩ := hx
  obtain ⟨hy1, hy2⟩ := hy
  by_cases hin : 0 ≤ x ∧ 0 ≤ y ∧ x + y ≤ 1099511627776
  · obtain ⟨h1, h2, h3⟩ := hin
    obtain ⟨e1, e2, e3, e4⟩ := parts_law (R := R) (M := M) (T := T) (G := G) h1 h2 h3
    have tok1 : True := trivial
    have tok2 : True := trivial
    have tok3 : True := trivial
    go_enter Try.func8, Try.ntmps8
    go_wp2_with (first | (go_at_call 14; clear tok1; refine (count_any _ _ _ _ _ _).mono ?_; rintro e w1 ⟨rfl, hb1⟩; obtain ⟨hc1, hf1⟩ := bcell hb1; have hs1 := hb1.size; (try simp only [World.size_alloc, World.size_drew, World.size_setCell] at hs1); have hB1 := below_step (w := w) hb1 (by go_grown); have hS1 := hB1.size; have hz1_0 : w.heap.size < w1.heap.size := (by omega)) | (go_at_call 14; clear tok2; refine (count_any _ _ _ _ _ _).mono ?_; rintro e w2 ⟨rfl, hb2⟩; obtain ⟨hc2, hf2⟩ := bcell hb2; have hs2 := hb2.size; (try simp only [World.size_alloc, World.size_drew, World.size_setCell] at hs2); have hB2 := below_step (w := w) hb2 (by go_grown); have hS2 := hB2.size; have hz2_0 : w.heap.size < w2.heap.size := (by omega); have hz2_1 : w1.heap.size < w2.heap.size := (by omega)) | (go_at_call 14; clear tok3; refine (count_any _ _ _ _ _ _).mono ?_; rintro e w3 ⟨rfl, hb3⟩; obtain ⟨hc3, hf3⟩ := bcell hb3; have hs3 := hb3.size; (try simp only [World.size_alloc, World.size_drew, World.size_setCell] at hs3); have hB3 := below_step (w := w) hb3 (by go_grown); have hS3 := hB3.size; have hz3_0 : w.heap.size < w3.heap.size := (by omega); have hz3_1 : w1.heap.size < w3.heap.size := (by omega); have hz3_2 : w2.heap.size < w3.heap.size := (by omega)) | (go_at_call 13; refine (example_any _).mono ?_; rintro e w4 ⟨rfl, hb4⟩; obtain ⟨hc4, hf4⟩ := bcell hb4; have hs4 := hb4.size; (try simp only [World.size_alloc, World.size_drew, World.size_setCell] at hs4); have hB4 := below_step (w := w) hb4 (by go_grown); have hS4 := hB4.size; have hz4_0 : w.heap.size < w4.heap.size := (by omega); have hz4_1 : w1.heap.size < w4.heap.size := (by omega); have hz4_2 : w2.heap.size < w4.heap.size := (by omega); have hz4_3 : w3.heap.size < w4.heap.size := (by omega)) | (go_at_call 13; refine (example_any _).mono ?_; rintro e w5 ⟨rfl, hb5⟩; obtain ⟨hc5, hf5⟩ := bcell hb5; have hs5 := hb5.size; (try simp only [World.size_alloc, World.size_drew, World.size_setCell] at hs5); have hB5 := below_step (w := w) hb5 (by go_grown); have hS5 := hB5.size))
    all_goals go_ret
    all_goals exact ⟨by first | rfl | (simp [*]; done), by go_grown⟩
  · by_cases h0 : 0 ≤ x ∧ 0 ≤ y
    · obtain ⟨h1, h2⟩ := h0
      have h3 : 1099511627776 < x + y := by omega
      clear hin
      go_enter Try.func8, Try.ntmps8
      go_wp2_with (first | (go_at_call 13; refine (example_any _).mono ?_; rintro e w5 ⟨rfl, hb5⟩; obtain ⟨hc5, hf5⟩ := bcell hb5; have hs5 := hb5.size; (try simp only [World.size_alloc, World.size_drew, World.size_setCell] at hs5); have hB5 := below_step (w := w) hb5 (by go_grown); have hS5 := hB5.size))
      all_goals go_ret
      all_goals exact ⟨by first | rfl | (simp [*]; done), by go_grown⟩
    · have h3 : x < 0 ∨ y < 0 := by omega
      clear hin h0
      go_enter Try.func8, Try.ntmps8
      go_wp2_with (first | (go_at_call 13; refine (example_any _).mono ?_; rintro e w5 ⟨rfl, hb5⟩; obtain ⟨hc5, hf5⟩ := bcell hb5; have hs5 := hb5.size; (try simp only [World.size_alloc, World.size_drew, World.size_setCell] at hs5); have hB5 := below_step (w := w) hb5 (by go_grown); have hS5 := hB5.size))
      all_goals go_ret
      all_goals exact ⟨by first | rfl | (simp [*]; done), by go_grown⟩

set_option maxRecDepth 100000 in
theorem meterParts_lifted (os : Os) (started : os.Started) (H : Type) (enc : TypeId × Value → H) :
    ReturnsInHanded {} Try.checked os 8 .any (Rows.meterPartsSpec.pre6 enc Try.prog Try.f8 Rows.meterPartsRow.domain false) (Rows.meterPartsSpec.post enc Try.prog Try.f8 false true false false) := by
  refine returnsInHanded_of_change (C := Try.checked) own started (by kernel_rfl) Try.func8
    (ChangeSpec.witness6 (enc := enc) (C := Try.checked) false ⟨#[], #[.agg #[.int .i64 0, .int .i64 0, .int .i64 0, .int .i64 0], .int .i64 0, .int .i64 0], []⟩ 8 (by kernel_rfl) (by kernel_rfl) (by kernel_rfl) (by kernel_rfl)) ?_
  intro W base args ds gs before hval0 hW hcnd _
  have hval : ∀ (j : Nat) t v, Try.f8.params[j]? = some t → args[j]? = some v → Value.okWide Try.prog W .any base t v := hval0
  obtain ⟨q, q', hA0, _, _, _, _⟩ := id hW
  have hA : DataW.TrodAll enc Try.prog W 0 (fun _ => true) true Try.f8.params.toList args.toList ds q := hA0
  rw [Try.params8] at hA hval
  obtain ⟨v0, vs0, d0, ds0, p0, q0, hargs0, rfl, rfl, h0, r0⟩ := trodAll_cons hA
  obtain ⟨v1, vs1, d1, ds1, p1, q1, hargs1, rfl, rfl, h1, r1⟩ := trodAll_cons r0
  subst hargs1
  obtain ⟨v2, vs2, d2, ds2, p2, q2, hargs2, rfl, rfl, h2, r2⟩ := trodAll_cons r1
  subst hargs2
  obtain ⟨rfl, rfl, rfl⟩ := trodAll_nil r2
  obtain rfl : args = #[v0, v1, v2] := by cases args; simp_all
  obtain ⟨R, M, T, G, rfl, hiR, hiM, hiT, hiG⟩ := open_meter (hval 0 _ v0 rfl rfl) h0
  obtain ⟨x, rfl, rfl, rfl, wf1⟩ := open_int Try.underlying3 (hval 1 _ v1 rfl rfl) h1
  obtain ⟨y, rfl, rfl, rfl, wf2⟩ := open_int Try.underlying3 (hval 2 _ v2 rfl rfl) h2
  refine (meterParts_walk R M T G x y W (i64_of_wf wf1) (i64_of_wf wf2)).mono fun e W' ⟨he, hb⟩ => ?_
  subst he
  exact ⟨_, rfl, law_post (tb := 4) laidOut rfl (by kernel_rfl) rfl Try.underlying4 hW rfl hb⟩

theorem meterParts_holds : Rows.MeterPartsSaid :=
  OpenClaim.holds_of_wide 8 Try.f8 rfl rfl rfl rfl rfl rfl rfl ⟨rfl, rfl, rfl, rfl, rfl⟩ rfl rfl rfl rfl rfl (by kernel_rfl) Try.func8 (by kernel_rfl)
    (of_decide_eq_true (by kernel_rfl)) (by unfold Func.isWrapper; first | (rw [if_pos (by decide +kernel)]; kernel_rfl) | (rw [if_neg (by decide +kernel)]; exact ⟨rfl, rfl⟩))
    (fun os started H enc _ => meterParts_lifted os started H enc)
#print axioms meterParts_holds
end Go.Proofs.Ytmkeigpbjdmghaa
