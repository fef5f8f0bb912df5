/-
  FirmwareValid: Valid agrees with the reference for any update, and the examples hold. No conditions.
-/
import Derived.Test.YtokjokbbegcceaaWalks32b
import Derived.Test.YtokjokbbegcceaaWalks32f
import Derived.Test.YtokjokbbegcceaaOpen32
import Derived.WalkLawsBesides
import Derived.Deep.RegionHeld3
namespace Go.Proofs.Ytokjokbbegcceaa
open Go.RowKit Go.WideShapes Go.ChangeShapes Go.ChangeAt

set_option maxHeartbeats 1000000 in
theorem firmwareValid_walk (s v t d tr : Int) (w : World) : Calls Try.prog 3 #[.agg #[.int .i64 s, .int .i64 v, .int .i64 t, .int .i64 d, .int .i64 tr]] w fun e w' => e = .returned (.bool true) ∧ Below w.heap.size w w' := by
  have q : fvalI ⟨0, 0, 0, 0, 0⟩ = 0 := rfl
  go_enter Try.func3, Try.ntmps3
  go_wp2_with fail
  go_region_held3 (fun w' => (∀ b o, b < w.heap.size + 1 → w'.cell? ⟨b, o, none⟩ = (w.alloc (.cells #[.int .i64 s, .int .i64 v, .int .i64 t, .int .i64 d, .int .i64 tr] 23)).cell? ⟨b, o, none⟩) ∧ Below (w.heap.size + 1) (w.alloc (.cells #[.int .i64 s, .int .i64 v, .int .i64 t, .int .i64 d, .int .i64 tr] 23)) w')
    (first | exact s_start | exact s_keep (by simp) (by assumption) (by assumption))
    (first
      | (go_at_call 8; refine (valid_any _ _ _ _ _ _).mono ?_; rintro e w2 ⟨rfl, hb2⟩)
      | (go_at_call 9; refine (rvalid_any _ _ _ _ _ _).mono ?_; rintro e w3 ⟨rfl, hb3⟩)
      | (go_at_call 10; refine (example_any _).mono ?_; rintro e w4 ⟨rfl, hb4⟩))
  go_wp2_with fail
  go_ret
  exact ⟨by simp, below_out (W := (w.alloc (.cells #[.int .i64 s, .int .i64 v, .int .i64 t, .int .i64 d, .int .i64 tr] 23))) (by assumption) (by simp) (by (repeat' (first | (with_reducible exact Below.refl _ _) | (with_reducible assumption) | (with_reducible refine Below.alloc ?_ ?_ _) | (with_reducible refine Below.drew ?_) | (with_reducible refine Below.setCell ?_ ?_ _) | (with_reducible exact Nat.le_refl _) | omega | (simp only [World.size_alloc, World.size_setCell, World.size_drew]; omega) | (simp; done))))⟩

set_option maxRecDepth 100000 in
theorem firmwareValid_lifted (os : Os) (started : os.Started) (H : Type) (enc : TypeId × Value → H) :
    ReturnsInHanded {} Try.checked os 3 .any (Rows.firmwareValidSpec.pre6 enc Try.prog Try.f3 Rows.firmwareValidRow.domain false) (Rows.firmwareValidSpec.post enc Try.prog Try.f3 false true false false) := by
  refine returnsInHanded_of_change (C := Try.checked) own started (by kernel_rfl) Try.func3
    (ChangeSpec.witness6 (enc := enc) (C := Try.checked) false ⟨#[], #[.agg #[.int .i64 0, .int .i64 0, .int .i64 0, .int .i64 0, .int .i64 0]], []⟩ 8 (by kernel_rfl) (by kernel_rfl) (by kernel_rfl) (by kernel_rfl)) ?_
  intro W base args ds gs before hval0 hW hcnd _
  have hval : ∀ (j : Nat) t v, Try.f3.params[j]? = some t → args[j]? = some v → Value.okWide Try.prog W .any base t v := hval0
  obtain ⟨q, q', hA0, _, _, _, _⟩ := id hW
  have hA : DataW.TrodAll enc Try.prog W 0 (fun _ => true) true Try.f3.params.toList args.toList ds q := hA0
  rw [Try.params3] at hA hval
  obtain ⟨v0, vs0, d0, ds0, p0, q0, hargs0, rfl, rfl, h0, r0⟩ := trodAll_cons hA
  obtain ⟨rfl, rfl, rfl⟩ := trodAll_nil r0
  obtain rfl : args = #[v0] := by cases args; simp_all
  obtain ⟨s, v, t, d, tr, rfl, hs, hv, ht, hd, htr⟩ := open_fw (hval 0 _ v0 rfl rfl) h0
  refine (firmwareValid_walk s v t d tr W).mono fun e W' ⟨he, hb⟩ => ?_
  subst he
  exact ⟨_, rfl, law_post (tb := 4) laidOut rfl (by kernel_rfl) rfl Try.underlying4 hW rfl hb⟩

theorem firmwareValid_holds : Rows.FirmwareValidSaid :=
  OpenClaim.holds_of_wide 3 Try.f3 rfl rfl rfl rfl rfl rfl rfl ⟨rfl, rfl, rfl, rfl, rfl⟩ rfl rfl rfl rfl rfl (by kernel_rfl) Try.func3 (by kernel_rfl)
    (of_decide_eq_true (by kernel_rfl)) (by unfold Func.isWrapper; first | (rw [if_pos (by decide +kernel)]; kernel_rfl) | (rw [if_neg (by decide +kernel)]; exact ⟨rfl, rfl⟩))
    (fun os started H enc _ => firmwareValid_lifted os started H enc)
#print axioms firmwareValid_holds
end Go.Proofs.Ytokjokbbegcceaa
