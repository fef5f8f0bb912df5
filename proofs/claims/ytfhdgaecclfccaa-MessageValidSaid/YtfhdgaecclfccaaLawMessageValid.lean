/-
  MessageValid: its walk and its row.
-/
import Derived.Test.YtfhdgaecclfccaaX26
set_option maxRecDepth 100000
set_option linter.unusedSimpArgs false
set_option linter.unusedVariables false
namespace Go.Proofs.Ytfhdgaecclfccaa
open Go.Proofs.Ytfhdgaecclfccaa.Sy Go.Proofs.Ytfhdgaecclfccaa.L7 Go.Proofs.Ytfhdgaecclfccaa.Id Go.Proofs.Ytfhdgaecclfccaa.R26 Go.Proofs.Ytfhdgaecclfccaa.V26 Go.Proofs.Ytfhdgaecclfccaa.M26 Go.Proofs.Ytfhdgaecclfccaa.B26 Go.RowKit Go.WideShapes Go.ChangeShapes Go.ChangeAt

set_option maxHeartbeats 4000000 in
theorem law_all (xs : List D) (h : TypTs [tM] xs) : Fun Try.prog [] 3 [tM] xs [.c .bool] (.ok [.bool true]) := by
  obtain ⟨d, _, rfl, h0, rfl⟩ := h
  obtain ⟨m, rfl, hm⟩ := typ_msg h0
  refine lvalid_ent _ _ ?_
  show vclvalid.den _ _ _ _ _
  unfold vclvalid
  refine den_cal [.bool (smB m)] rfl (small_fn m hm.tl) rfl rfl ?_
  refine den_ite (fun h1 => ?_) (fun h1 => ?_)
  · simp only [E.den, D.toI, D.toB, D.toL, D.toS, D.len, D.mapL, flatD, dE, str_eq, emp_iff] at h1
    refine den_ev ?_
    refine evs_call [I64d (msgS m)] rfl (mval_fn' m hm (smB_ok h1)) rfl rfl ?_
    refine evs_call [I64d (msgS m)] rfl (rmval_fn' m hm (smB_ok h1)) rfl rfl ?_
    refine evs_nil ?_
    refine den_t (by simp only [E.den, D.toI, D.toB, D.toL, D.toS, D.len, D.mapL, flatD, dE]) ?_
    refine den_ev ?_
    refine evs_call [.bool (true)] rfl (X26.ex_fn) rfl rfl ?_
    refine evs_nil ?_
    refine den_ret ?_
    rfl
  · simp only [E.den, D.toI, D.toB, D.toL, D.toS, D.len, D.mapL, flatD, dE, str_eq, emp_iff] at h1
    refine den_cal [.bool (true)] rfl (X26.ex_fn) rfl rfl ?_
    refine den_ret ?_
    rfl

set_option maxRecDepth 100000 in
theorem messageValid_lifted (os : Os) (started : os.Started) (H : Type) (enc : TypeId × Value → H) :
    ReturnsInHanded {} Try.checked os 3 .any (Rows.messageValidSpec.pre6 enc Try.prog Try.f3 Rows.messageValidRow.domain false) (Rows.messageValidSpec.post enc Try.prog Try.f3 false true false false) := by
  refine returnsInHanded_of_change (C := Try.checked) own started (by kernel_rfl) Try.func3
    (ChangeSpec.witness6 (enc := enc) (C := Try.checked) false ⟨#[], #[.agg #[.int .i64 0, .int .i64 0, .int .i64 0, .int .i64 0, .int .i64 0, .int .i64 0, .int .i64 0, .int .i64 0, .string ⟨#[]⟩, .string ⟨#[]⟩, .string ⟨#[]⟩, .bool false, .slice none 0 0, .int .i64 0, .int .i64 0, .int .i64 0, .int .i64 0, .int .i64 0, .string ⟨#[]⟩, .int .i64 0, .int .i64 0, .int .i64 0, .int .i64 0, .slice none 0 0, .slice none 0 0]], []⟩ 8 (by kernel_rfl) (by kernel_rfl) (by kernel_rfl) (by kernel_rfl)) ?_
  intro W base args ds gs before hval0 hW hcnd _
  have hval : ∀ (j : Nat) t v, Try.f3.params[j]? = some t → args[j]? = some v → Value.okWide Try.prog W .any base t v := hval0
  obtain ⟨q, q', hA0, _, _, _, _⟩ := id hW
  have hA : DataW.TrodAll enc Try.prog W 0 (fun _ => true) true Try.f3.params.toList args.toList ds q := hA0
  have walk := law_walk (P := Try.prog) (f := 3) (fn := Try.f3) (fun p hp => by cases hp) (Ts := [tM]) (by kernel_rfl) law_all hval hA
  rw [Try.params3] at hA
  obtain ⟨v0, vs0, d0, ds0, p0, q0, hargs0, rfl, rfl, h0, r0⟩ := trodAll_cons hA
  obtain ⟨rfl, rfl, rfl⟩ := trodAll_nil r0
  refine walk.mono fun e W' ⟨he, hb⟩ => ?_
  subst he
  exact ⟨_, rfl, law_post (tb := 4) laidOut rfl (by kernel_rfl) rfl Try.underlying4 hW rfl hb⟩

theorem messageValid_holds : Rows.MessageValidSaid :=
  OpenClaim.holds_of_wide 3 Try.f3 rfl rfl rfl rfl rfl rfl rfl ⟨rfl, rfl, rfl, rfl, rfl⟩ rfl rfl rfl rfl rfl (by kernel_rfl) Try.func3 (by kernel_rfl)
    (of_decide_eq_true (by kernel_rfl)) (by unfold Func.isWrapper; first | (rw [if_pos (by decide +kernel)]; kernel_rfl) | (rw [if_neg (by decide +kernel)]; exact ⟨rfl, rfl⟩))
    (fun os started H enc _ => messageValid_lifted os started H enc)
#print axioms messageValid_holds
end Go.Proofs.Ytfhdgaecclfccaa
