/-
  CallValids: its walk and its row.
-/
import Derived.Test.YtmplgfkhknhacaaC27x
set_option maxRecDepth 100000
set_option linter.unusedSimpArgs false
set_option linter.unusedVariables false
namespace Go.Proofs.Ytmplgfkhknhacaa
open Go.Proofs.Ytmplgfkhknhacaa.Sy Go.Proofs.Ytmplgfkhknhacaa.L7 Go.Proofs.Ytmplgfkhknhacaa.Id Go.Proofs.Ytmplgfkhknhacaa.R26 Go.Proofs.Ytmplgfkhknhacaa.V26 Go.Proofs.Ytmplgfkhknhacaa.N27 Go.Proofs.Ytmplgfkhknhacaa.C27 Go.RowKit Go.WideShapes Go.ChangeShapes Go.ChangeAt

set_option maxHeartbeats 4000000 in
theorem law_all (xs : List D) (h : TypTs [tEp] xs) : Fun Try.prog [] 3 [tEp] xs [.c .bool] (.ok [.bool true]) := by
  obtain ⟨d, _, rfl, h0, rfl⟩ := h
  obtain ⟨e, rfl, te⟩ := typ_ep h0
  refine lCallValids_ent _ _ ?_
  show vclCallValids.den _ _ _ _ _
  unfold vclCallValids
  refine den_cal [.bool (smE e)] rfl (small_fn e (fun x hx => (te.q x hx).tl) (fun x hx => (te.o x hx).tl) (fun x hx => (te.s x hx).tl)) rfl rfl ?_
  (try simp only [List.cons_append, List.nil_append])
  refine den_ite (fun h1 => ?_) (fun h1 => ?_)
  rotate_left
  · exact den_cal [.bool true] rfl ex_fn rfl rfl (den_ret rfl)
  simp only [dF, dE] at h1
  have he := sm_b te h1
  have hr := te.rt
  unfold inI at hr
  refine den_ev ?_
  refine evs_call [I64d (epS e)] rfl (val_fn e he hr.1 hr.2) rfl rfl ?_
  refine evs_call [I64d (epS e)] rfl (rval_fn e he hr.1 hr.2) rfl rfl ?_
  refine evs_nil ?_
  (try simp only [List.cons_append, List.nil_append])
  refine den_t (by simp only [dF, dE]) ?_
  refine den_ev ?_
  refine evs_call [.bool true] rfl ex_fn rfl rfl ?_
  exact evs_nil (den_ret rfl)

set_option maxRecDepth 100000 in
theorem callValids_lifted (os : Os) (started : os.Started) (H : Type) (enc : TypeId × Value → H) :
    ReturnsInHanded {} Try.checked os 3 .any (Rows.callValidsSpec.pre6 enc Try.prog Try.f3 Rows.callValidsRow.domain false) (Rows.callValidsSpec.post enc Try.prog Try.f3 false true false false) := by
  refine returnsInHanded_of_change (C := Try.checked) own started (by kernel_rfl) Try.func3
    (ChangeSpec.witness6 (enc := enc) (C := Try.checked) false ⟨#[], #[.agg #[.int .i64 0, .int .i64 0, .int .i64 0, .slice none 0 0, .slice none 0 0, .int .i64 0, .int .i64 0, .slice none 0 0]], []⟩ 8 (by kernel_rfl) (by kernel_rfl) (by kernel_rfl) (by kernel_rfl)) ?_
  intro W base args ds gs before hval0 hW hcnd _
  have hval : ∀ (j : Nat) t v, Try.f3.params[j]? = some t → args[j]? = some v → Value.okWide Try.prog W .any base t v := hval0
  obtain ⟨q, q', hA0, _, _, _, _⟩ := id hW
  have hA : DataW.TrodAll enc Try.prog W 0 (fun _ => true) true Try.f3.params.toList args.toList ds q := hA0
  have walk := law_walk (P := Try.prog) (f := 3) (fn := Try.f3) (fun p hp => by cases hp) (Ts := [tEp]) (by kernel_rfl) law_all hval hA
  rw [Try.params3] at hA
  obtain ⟨v0, vs0, d0, ds0, p0, q0, hargs0, rfl, rfl, h0, r0⟩ := trodAll_cons hA
  obtain ⟨rfl, rfl, rfl⟩ := trodAll_nil r0
  refine walk.mono fun e W' ⟨he, hb⟩ => ?_
  subst he
  exact ⟨_, rfl, law_post (tb := 4) laidOut rfl (by kernel_rfl) rfl Try.underlying4 hW rfl hb⟩

theorem callValids_holds : Rows.CallValidsSaid :=
  OpenClaim.holds_of_wide 3 Try.f3 rfl rfl rfl rfl rfl rfl rfl ⟨rfl, rfl, rfl, rfl, rfl⟩ rfl rfl rfl rfl rfl (by kernel_rfl) Try.func3 (by kernel_rfl)
    (of_decide_eq_true (by kernel_rfl)) (by unfold Func.isWrapper; first | (rw [if_pos (by decide +kernel)]; kernel_rfl) | (rw [if_neg (by decide +kernel)]; exact ⟨rfl, rfl⟩))
    (fun os started H enc _ => callValids_lifted os started H enc)
#print axioms callValids_holds
end Go.Proofs.Ytmplgfkhknhacaa
