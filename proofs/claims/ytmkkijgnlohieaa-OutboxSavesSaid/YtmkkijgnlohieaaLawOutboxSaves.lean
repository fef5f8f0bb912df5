/-
  OutboxSaves: its walk and its row.
-/
import Derived.Test.YtmkkijgnlohieaaO31l
import Derived.Test.YtmkkijgnlohieaaO31c
set_option maxRecDepth 100000
set_option linter.unusedSimpArgs false
set_option linter.unusedVariables false
namespace Go.Proofs.Ytmkkijgnlohieaa
open Go.Proofs.Ytmkkijgnlohieaa.Sy Go.Proofs.Ytmkkijgnlohieaa.L7 Go.Proofs.Ytmkkijgnlohieaa.Id Go.Proofs.Ytmkkijgnlohieaa.R26 Go.Proofs.Ytmkkijgnlohieaa.E30 Go.Proofs.Ytmkkijgnlohieaa.O31 Go.Proofs.Ytmkkijgnlohieaa.O31x Go.Proofs.Ytmkkijgnlohieaa.O31l Go.RowKit Go.WideShapes Go.ChangeShapes Go.ChangeAt

set_option maxHeartbeats 4000000 in
theorem law_all (xs : List D) (h : TypTs [tO] xs) : Fun Try.prog [] 6 [tO] xs [.c .bool] (.ok [.bool true]) := by
  obtain ⟨d, _, rfl, h0, rfl⟩ := h
  obtain ⟨o, rfl, tr, tl, te⟩ := typ_ob h0
  refine lOutboxSaves_ent _ _ ?_
  show vclOutboxSaves.den _ _ _ _ _
  unfold vclOutboxSaves
  refine den_ite (fun h1 => ?_) (fun h1 => ?_)
  · simp only [E.den, D.toI, D.toB, D.toL, D.toS, D.len, D.mapL, flatD, dE, str_eq, emp_iff] at h1
    refine den_cal [.bool (true)] rfl (ex_fn) rfl rfl ?_
    refine den_ret ?_
    rfl
  · simp only [E.den, D.toI, D.toB, D.toL, D.toS, D.len, D.mapL, flatD, dE, str_eq, emp_iff] at h1; have ho : ObT o := ⟨tr, tl, (by omega), te⟩
    refine den_cal [.bool (o.it.all shortE)] rfl (short_fn o.it (by omega)) rfl rfl ?_
    refine den_ite (fun h2 => ?_) (fun h2 => ?_)
    · simp only [E.den, D.toI, D.toB, D.toL, D.toS, D.len, D.mapL, flatD, dE, str_eq, emp_iff] at h2
      refine den_cal [bD (if ovS o = 0 then saveB o else []), I64d (ovS o)] rfl (save_fn o ho (by omega)) rfl rfl ?_
      refine den_cal [bD (if ovS o = 0 then saveB o else []), I64d (ovS o)] rfl (rsave_fn o ho (by omega)) rfl rfl ?_
      refine den_t (by simp only [E.den, D.toI, D.toB, D.toL, D.toS, D.len, D.mapL, flatD, dE]) ?_
      refine den_f (by simp only [E.den, D.toI, D.toB, D.toL, D.toS, D.len, D.mapL, flatD, dE]) ?_
      refine den_ite (fun h3 => ?_) (fun h3 => ?_)
      · simp only [E.den, D.toI, D.toB, D.toL, D.toS, D.len, D.mapL, flatD, dE, str_eq, emp_iff] at h3
        refine den_cal [.bool (true)] rfl (ex_fn) rfl rfl ?_
        refine den_ret ?_
        rfl
      · simp only [E.den, D.toI, D.toB, D.toL, D.toS, D.len, D.mapL, flatD, dE, str_eq, emp_iff] at h3
        refine den_cal [I64d (o.rm), evsD (o.it), I64d (o.lo), I64d (0)] rfl (load_fn o ho (by assumption) (by omega)) (by simp only [E.den, D.toI, D.toB, D.toL, D.toS, D.len, D.mapL, flatD, dE]; rw [if_pos (by assumption)]) rfl ?_
        refine den_cal [.bool (true)] rfl (fun_as (osame_fn o o ho ho) (by rw [decide_eq_true rfl] <;> rfl)) rfl rfl ?_
        refine den_t (rfl) ?_
        refine den_t (rfl) ?_
        refine den_cal [.bool (true)] rfl (ex_fn) rfl rfl ?_
        refine den_ret ?_
        rfl
    · simp only [E.den, D.toI, D.toB, D.toL, D.toS, D.len, D.mapL, flatD, dE, str_eq, emp_iff] at h2
      refine den_cal [.bool (true)] rfl (ex_fn) rfl rfl ?_
      refine den_ret ?_
      rfl

set_option maxRecDepth 100000 in
theorem outboxSaves_lifted (os : Os) (started : os.Started) (H : Type) (enc : TypeId × Value → H) :
    ReturnsInHanded {} Try.checked os 6 .any (Rows.outboxSavesSpec.pre6 enc Try.prog Try.f6 Rows.outboxSavesRow.domain false) (Rows.outboxSavesSpec.post enc Try.prog Try.f6 false true false false) := by
  refine returnsInHanded_of_change (C := Try.checked) own started (by kernel_rfl) Try.func6
    (ChangeSpec.witness6 (enc := enc) (C := Try.checked) false ⟨#[], #[.agg #[.int .i64 0, .slice none 0 0, .int .i64 0]], []⟩ 8 (by kernel_rfl) (by kernel_rfl) (by kernel_rfl) (by kernel_rfl)) ?_
  intro W base args ds gs before hval0 hW hcnd _
  have hval : ∀ (j : Nat) t v, Try.f6.params[j]? = some t → args[j]? = some v → Value.okWide Try.prog W .any base t v := hval0
  obtain ⟨q, q', hA0, _, _, _, _⟩ := id hW
  have hA : DataW.TrodAll enc Try.prog W 0 (fun _ => true) true Try.f6.params.toList args.toList ds q := hA0
  have walk := law_walk (P := Try.prog) (f := 6) (fn := Try.f6) (fun p hp => by cases hp) (Ts := [tO]) (by kernel_rfl) law_all hval hA
  rw [Try.params6] at hA
  obtain ⟨v0, vs0, d0, ds0, p0, q0, hargs0, rfl, rfl, h0, r0⟩ := trodAll_cons hA
  obtain ⟨rfl, rfl, rfl⟩ := trodAll_nil r0
  refine walk.mono fun e W' ⟨he, hb⟩ => ?_
  subst he
  exact ⟨_, rfl, law_post (tb := 4) laidOut rfl (by kernel_rfl) rfl Try.underlying4 hW rfl hb⟩

theorem outboxSaves_holds : Rows.OutboxSavesSaid :=
  OpenClaim.holds_of_wide 6 Try.f6 rfl rfl rfl rfl rfl rfl rfl ⟨rfl, rfl, rfl, rfl, rfl⟩ rfl rfl rfl rfl rfl (by kernel_rfl) Try.func6 (by kernel_rfl)
    (of_decide_eq_true (by kernel_rfl)) (by unfold Func.isWrapper; first | (rw [if_pos (by decide +kernel)]; kernel_rfl) | (rw [if_neg (by decide +kernel)]; exact ⟨rfl, rfl⟩))
    (fun os started H enc _ => outboxSaves_lifted os started H enc)
#print axioms outboxSaves_holds
end Go.Proofs.Ytmkkijgnlohieaa
