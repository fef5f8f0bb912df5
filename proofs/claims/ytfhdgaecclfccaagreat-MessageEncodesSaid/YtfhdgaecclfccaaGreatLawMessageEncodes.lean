/-
  MessageEncodes: its walk and its row.
-/
import Derived.Test.YtfhdgaecclfccaaGreatX26
set_option maxRecDepth 100000
set_option linter.unusedSimpArgs false
set_option linter.unusedVariables false
namespace Go.Proofs.YtfhdgaecclfccaaGreat
open Go.Proofs.YtfhdgaecclfccaaGreat.Sy Go.Proofs.YtfhdgaecclfccaaGreat.L7 Go.Proofs.YtfhdgaecclfccaaGreat.Id Go.Proofs.YtfhdgaecclfccaaGreat.R26 Go.Proofs.YtfhdgaecclfccaaGreat.V26 Go.Proofs.YtfhdgaecclfccaaGreat.M26 Go.Proofs.YtfhdgaecclfccaaGreat.B26 Go.Proofs.YtfhdgaecclfccaaGreat.Y26 Go.Proofs.YtfhdgaecclfccaaGreat.Z26 Go.RowKit Go.WideShapes Go.ChangeShapes Go.ChangeAt

set_option maxHeartbeats 4000000 in
theorem law_all (xs : List D) (h : TypTs [tM] xs) : Fun Tryz.prog [] 3 [tM] xs [.c .bool] (.ok [.bool true]) := by
  obtain ⟨d, _, rfl, h0, rfl⟩ := h
  obtain ⟨m, rfl, hm⟩ := typ_msg h0
  refine lencodes_ent _ _ ?_
  show vclencodes.den _ _ _ _ _
  unfold vclencodes
  refine den_cal [.bool (smB m)] rfl (small_fn m hm.tl) rfl rfl ?_
  refine den_ite (fun h1 => ?_) (fun h1 => ?_)
  · simp only [dF, dE, str_eq, emp_iff] at h1
    refine den_cal [bD (encB m), I64d (encE m)] rfl (mencode_fn m hm (smB_ok h1)) rfl rfl ?_
    refine den_cal [bD (encB m), I64d (encE m)] rfl (rmencode_fn m hm (smB_ok h1)) rfl rfl ?_
    refine den_t (by simp only [dF, dE]) ?_
    refine den_t (by simp only [dF, dE]) ?_
    refine den_cal [.bool (true)] rfl (X26.ex_fn) rfl rfl ?_
    refine den_ret ?_
    rfl
  · simp only [dF, dE, str_eq, emp_iff] at h1
    refine den_cal [.bool (true)] rfl (X26.ex_fn) rfl rfl ?_
    refine den_ret ?_
    rfl

set_option maxRecDepth 100000 in
theorem messageEncodes_lifted (os : Os) (started : os.Started) (H : Type) (enc : TypeId × Value → H) :
    ReturnsInHanded {} Tryz.checked os 3 .any (Rows.messageEncodesSpec.pre6 enc Tryz.prog Tryz.f3 Rows.messageEncodesRow.domain false) (Rows.messageEncodesSpec.post enc Tryz.prog Tryz.f3 false true false false) := by
  refine returnsInHanded_of_change (C := Tryz.checked) own started (by kernel_rfl) Tryz.func3
    (ChangeSpec.witness6 (enc := enc) (C := Tryz.checked) false ⟨#[], #[.agg #[.int .i64 0, .int .i64 0, .int .i64 0, .int .i64 0, .int .i64 0, .int .i64 0, .int .i64 0, .int .i64 0, .string ⟨#[]⟩, .string ⟨#[]⟩, .string ⟨#[]⟩, .bool false, .slice none 0 0, .int .i64 0, .int .i64 0, .int .i64 0, .int .i64 0, .int .i64 0, .string ⟨#[]⟩, .int .i64 0, .int .i64 0, .int .i64 0, .int .i64 0, .slice none 0 0, .slice none 0 0]], []⟩ 8 (by kernel_rfl) (by kernel_rfl) (by kernel_rfl) (by kernel_rfl)) ?_
  intro W base args ds gs before hval0 hW hcnd _
  have hval : ∀ (j : Nat) t v, Tryz.f3.params[j]? = some t → args[j]? = some v → Value.okWide Tryz.prog W .any base t v := hval0
  obtain ⟨q, q', hA0, _, _, _, _⟩ := id hW
  have hA : DataW.TrodAll enc Tryz.prog W 0 (fun _ => true) true Tryz.f3.params.toList args.toList ds q := hA0
  have walk := law_walk (P := Tryz.prog) (f := 3) (fn := Tryz.f3) (fun p hp => by cases hp) (Ts := [tM]) (by kernel_rfl) law_all hval hA
  rw [Tryz.params3] at hA
  obtain ⟨v0, vs0, d0, ds0, p0, q0, hargs0, rfl, rfl, h0, r0⟩ := trodAll_cons hA
  obtain ⟨rfl, rfl, rfl⟩ := trodAll_nil r0
  refine walk.mono fun e W' ⟨he, hb⟩ => ?_
  subst he
  exact ⟨_, rfl, law_post (tb := 4) laidOut rfl (by kernel_rfl) rfl Tryz.underlying4 hW rfl hb⟩

theorem messageEncodes_holds : Rows.MessageEncodesSaid :=
  OpenClaim.holds_of_wide 3 Tryz.f3 rfl rfl rfl rfl rfl rfl rfl ⟨rfl, rfl, rfl, rfl, rfl⟩ rfl rfl rfl rfl rfl (by kernel_rfl) Tryz.func3 (by kernel_rfl)
    (of_decide_eq_true (by kernel_rfl)) (by unfold Func.isWrapper; first | (rw [if_pos (by decide +kernel)]; kernel_rfl) | (rw [if_neg (by decide +kernel)]; exact ⟨rfl, rfl⟩))
    (fun os started H enc _ => messageEncodes_lifted os started H enc)
#print axioms messageEncodes_holds
end Go.Proofs.YtfhdgaecclfccaaGreat
