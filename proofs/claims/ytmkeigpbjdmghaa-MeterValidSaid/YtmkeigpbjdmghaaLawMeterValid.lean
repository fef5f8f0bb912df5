/-
  MeterValid: the meter package's Valid accepts exactly the meters that the reference accepts, and the examples hold. No conditions.
-/
import Derived.Test.YtmkeigpbjdmghaaWalks19e
import Derived.Test.YtmkeigpbjdmghaaOpen19
import Derived.WalkLawsBesides
namespace Go.Proofs.Ytmkeigpbjdmghaa
open Go.RowKit Go.WideShapes Go.ChangeShapes Go.ChangeAt

set_option maxHeartbeats 1000000 in
theorem meterValid_walk (R M T G : Int) (w : World) : Calls Try.prog 3 #[.agg #[.int .i64 R, .int .i64 M, .int .i64 T, .int .i64 G]] w fun e w' => e = .returned (.bool true) ∧ Below w.heap.size w w' := by
  go_enter Try.func3, Try.ntmps3
  go_wp2_with fail
  go_region_held3 (fun w' => (∀ b o, b < w.heap.size + 1 → w'.cell? ⟨b, o, none⟩ = (w.alloc (.cells #[.int .i64 R, .int .i64 M, .int .i64 T, .int .i64 G] 23)).cell? ⟨b, o, none⟩) ∧ Below (w.heap.size + 1) (w.alloc (.cells #[.int .i64 R, .int .i64 M, .int .i64 T, .int .i64 G] 23)) w')
    (first | exact s_start | exact s_keep (by simp) (by assumption) (by assumption))
    (first
      | (go_at_call 11; refine (valid_any R M T G _).mono ?_; rintro e w2 ⟨rfl, hb2⟩)
      | (go_at_call 12; refine (rvalid_any R M T G _).mono ?_; rintro e w3 ⟨rfl, hb3⟩)
      | (go_at_call 13; refine (example_any _).mono ?_; rintro e w4 ⟨rfl, hb4⟩))
  go_wp2
  go_ret
  exact ⟨by simp, below_out (W := (w.alloc (.cells #[.int .i64 R, .int .i64 M, .int .i64 T, .int .i64 G] 23))) (by assumption) (by simp) (by go_grown)⟩

set_option maxRecDepth 100000 in
theorem meterValid_lifted (os : Os) (started : os.Started) (H : Type) (enc : TypeId × Value → H) :
    ReturnsInHanded {} Try.checked os 3 .any (Rows.meterValidSpec.pre6 enc Try.prog Try.f3 Rows.meterValidRow.domain false) (Rows.meterValidSpec.post enc Try.prog Try.f3 false true false false) := by
  refine returnsInHanded_of_change (C := Try.checked) own started (by kernel_rfl) Try.func3
    (ChangeSpec.witness6 (enc := enc) (C := Try.checked) false ⟨#[], #[.agg #[.int .i64 0, .int .i64 0, .int .i64 0, .int .i64 0]], []⟩ 8 (by kernel_rfl) (by kernel_rfl) (by kernel_rfl) (by kernel_rfl)) ?_
  intro W base args ds gs before hval0 hW hcnd _
  have hval : ∀ (j : Nat) t v, Try.f3.params[j]? = some t → args[j]? = some v → Value.okWide Try.prog W .any base t v := hval0
  obtain ⟨q, q', hA0, _, _, _, _⟩ := id hW
  have hA : DataW.TrodAll enc Try.prog W 0 (fun _ => true) true Try.f3.params.toList args.toList ds q := hA0
  rw [Try.params3] at hA hval
  obtain ⟨v0, vs0, d0, ds0, p0, q0, hargs0, rfl, rfl, h0, r0⟩ := trodAll_cons hA
  obtain ⟨rfl, rfl, rfl⟩ := trodAll_nil r0
  obtain rfl : args = #[v0] := by cases args; simp_all
  obtain ⟨R, M, T, G, rfl, hiR, hiM, hiT, hiG⟩ := open_meter (hval 0 _ v0 rfl rfl) h0
  refine (meterValid_walk R M T G W).mono fun e W' ⟨he, hb⟩ => ?_
  subst he
  exact ⟨_, rfl, law_post (tb := 4) laidOut rfl (by kernel_rfl) rfl Try.underlying4 hW rfl hb⟩

theorem meterValid_holds : Rows.MeterValidSaid :=
  OpenClaim.holds_of_wide 3 Try.f3 rfl rfl rfl rfl rfl rfl rfl ⟨rfl, rfl, rfl, rfl, rfl⟩ rfl rfl rfl rfl rfl (by kernel_rfl) Try.func3 (by kernel_rfl)
    (of_decide_eq_true (by kernel_rfl)) (by unfold Func.isWrapper; first | (rw [if_pos (by decide +kernel)]; kernel_rfl) | (rw [if_neg (by decide +kernel)]; exact ⟨rfl, rfl⟩))
    (fun os started H enc _ => meterValid_lifted os started H enc)
#print axioms meterValid_holds
end Go.Proofs.Ytmkeigpbjdmghaa
