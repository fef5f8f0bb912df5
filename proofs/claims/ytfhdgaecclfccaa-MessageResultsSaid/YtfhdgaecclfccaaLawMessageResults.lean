/-
  MessageResults: its walk and its row.
-/
import Derived.Test.YtfhdgaecclfccaaX26
set_option maxRecDepth 100000
set_option linter.unusedSimpArgs false
set_option linter.unusedVariables false
namespace Go.Proofs.Ytfhdgaecclfccaa
open Go.Proofs.Ytfhdgaecclfccaa.Sy Go.Proofs.Ytfhdgaecclfccaa.L7 Go.Proofs.Ytfhdgaecclfccaa.Id Go.Proofs.Ytfhdgaecclfccaa.R26 Go.Proofs.Ytfhdgaecclfccaa.V26 Go.Proofs.Ytfhdgaecclfccaa.M26 Go.Proofs.Ytfhdgaecclfccaa.B26 Go.RowKit Go.WideShapes Go.ChangeShapes Go.ChangeAt

set_option maxHeartbeats 4000000 in
theorem law_all (xs : List D) (h : TypTs [tM, tI] xs) : Fun Try.prog [] 4 [tM, tI] xs [.c .bool] (.ok [.bool true]) := by
  obtain ⟨d, _, rfl, h0, _, _, rfl, h1, rfl⟩ := h
  obtain ⟨m, rfl, hm⟩ := typ_msg h0
  obtain ⟨s, rfl, hs⟩ := typ_int h1
  refine lresults_ent _ _ ?_
  show vclresults.den _ _ _ _ _
  unfold vclresults
  refine den_cal [.bool (smB m)] rfl (small_fn m hm.tl) rfl rfl ?_
  refine den_ite (fun h1 => ?_) (fun h1 => ?_)
  · simp only [E.den, D.toI, D.toB, D.toL, D.toS, D.len, D.mapL, flatD, dE, str_eq, emp_iff] at h1
    refine den_ev ?_
    refine evs_call [I64d ((resM 2 m s).ki), I64d ((resM 2 m s).id), I64d ((resM 2 m s).ac), I64d ((resM 2 m s).co), I64d ((resM 2 m s).st), I64d ((resM 2 m s).sq), I64d ((resM 2 m s).at'), I64d ((resM 2 m s).va), .str ((resM 2 m s).tx), .str ((resM 2 m s).tk), .str ((resM 2 m s).te), .bool ((resM 2 m s).off), rdD ((resM 2 m s).rd), I64d ((resM 2 m s).p.id), I64d ((resM 2 m s).p.lv), I64d ((resM 2 m s).p.pu), I64d ((resM 2 m s).p.ki), I64d ((resM 2 m s).p.co), .str ((resM 2 m s).p.tx), I64d ((resM 2 m s).p.fr), I64d ((resM 2 m s).p.to), I64d ((resM 2 m s).p.st), I64d ((resM 2 m s).p.du), rdD ((resM 2 m s).p.pe), tksD ((resM 2 m s).tks)] rfl (mresult_fn m s) rfl rfl ?_
    refine evs_call [I64d ((resM 2 m s).ki), I64d ((resM 2 m s).id), I64d ((resM 2 m s).ac), I64d ((resM 2 m s).co), I64d ((resM 2 m s).st), I64d ((resM 2 m s).sq), I64d ((resM 2 m s).at'), I64d ((resM 2 m s).va), .str ((resM 2 m s).tx), .str ((resM 2 m s).tk), .str ((resM 2 m s).te), .bool ((resM 2 m s).off), rdD ((resM 2 m s).rd), I64d ((resM 2 m s).p.id), I64d ((resM 2 m s).p.lv), I64d ((resM 2 m s).p.pu), I64d ((resM 2 m s).p.ki), I64d ((resM 2 m s).p.co), .str ((resM 2 m s).p.tx), I64d ((resM 2 m s).p.fr), I64d ((resM 2 m s).p.to), I64d ((resM 2 m s).p.st), I64d ((resM 2 m s).p.du), rdD ((resM 2 m s).p.pe), tksD ((resM 2 m s).tks)] rfl (rresult_fn m s) rfl rfl ?_
    refine evs_call [.bool (true)] rfl (fun_as (same26_fn (resM 2 m s) (resM 2 m s) (resM_ok _ _ _) (resM_ok _ _ _)) (by rw [decide_eq_true rfl] <;> rfl)) rfl rfl ?_
    refine evs_nil ?_
    refine den_t (rfl) ?_
    refine den_ev ?_
    refine evs_call [I64d ((resM 3 m s).ki), I64d ((resM 3 m s).id), I64d ((resM 3 m s).ac), I64d ((resM 3 m s).co), I64d ((resM 3 m s).st), I64d ((resM 3 m s).sq), I64d ((resM 3 m s).at'), I64d ((resM 3 m s).va), .str ((resM 3 m s).tx), .str ((resM 3 m s).tk), .str ((resM 3 m s).te), .bool ((resM 3 m s).off), rdD ((resM 3 m s).rd), I64d ((resM 3 m s).p.id), I64d ((resM 3 m s).p.lv), I64d ((resM 3 m s).p.pu), I64d ((resM 3 m s).p.ki), I64d ((resM 3 m s).p.co), .str ((resM 3 m s).p.tx), I64d ((resM 3 m s).p.fr), I64d ((resM 3 m s).p.to), I64d ((resM 3 m s).p.st), I64d ((resM 3 m s).p.du), rdD ((resM 3 m s).p.pe), tksD ((resM 3 m s).tks)] rfl (mfailure_fn m s) rfl rfl ?_
    refine evs_call [I64d ((resM 3 m s).ki), I64d ((resM 3 m s).id), I64d ((resM 3 m s).ac), I64d ((resM 3 m s).co), I64d ((resM 3 m s).st), I64d ((resM 3 m s).sq), I64d ((resM 3 m s).at'), I64d ((resM 3 m s).va), .str ((resM 3 m s).tx), .str ((resM 3 m s).tk), .str ((resM 3 m s).te), .bool ((resM 3 m s).off), rdD ((resM 3 m s).rd), I64d ((resM 3 m s).p.id), I64d ((resM 3 m s).p.lv), I64d ((resM 3 m s).p.pu), I64d ((resM 3 m s).p.ki), I64d ((resM 3 m s).p.co), .str ((resM 3 m s).p.tx), I64d ((resM 3 m s).p.fr), I64d ((resM 3 m s).p.to), I64d ((resM 3 m s).p.st), I64d ((resM 3 m s).p.du), rdD ((resM 3 m s).p.pe), tksD ((resM 3 m s).tks)] rfl (rfailure_fn m s) rfl rfl ?_
    refine evs_call [.bool (true)] rfl (fun_as (same26_fn (resM 3 m s) (resM 3 m s) (resM_ok _ _ _) (resM_ok _ _ _)) (by rw [decide_eq_true rfl] <;> rfl)) rfl rfl ?_
    refine evs_nil ?_
    refine den_t (rfl) ?_
    refine den_ev ?_
    refine evs_call [.bool (true)] rfl (X26.ex_fn) rfl rfl ?_
    refine evs_nil ?_
    refine den_ret ?_
    rfl
  · simp only [E.den, D.toI, D.toB, D.toL, D.toS, D.len, D.mapL, flatD, dE, str_eq, emp_iff] at h1
    refine den_cal [.bool (true)] rfl (X26.ex_fn) rfl rfl ?_
    refine den_ret ?_
    rfl

set_option maxRecDepth 100000 in
theorem messageResults_lifted (os : Os) (started : os.Started) (H : Type) (enc : TypeId × Value → H) :
    ReturnsInHanded {} Try.checked os 4 .any (Rows.messageResultsSpec.pre6 enc Try.prog Try.f4 Rows.messageResultsRow.domain false) (Rows.messageResultsSpec.post enc Try.prog Try.f4 false true false false) := by
  refine returnsInHanded_of_change (C := Try.checked) own started (by kernel_rfl) Try.func4
    (ChangeSpec.witness6 (enc := enc) (C := Try.checked) false ⟨#[], #[.agg #[.int .i64 0, .int .i64 0, .int .i64 0, .int .i64 0, .int .i64 0, .int .i64 0, .int .i64 0, .int .i64 0, .string ⟨#[]⟩, .string ⟨#[]⟩, .string ⟨#[]⟩, .bool false, .slice none 0 0, .int .i64 0, .int .i64 0, .int .i64 0, .int .i64 0, .int .i64 0, .string ⟨#[]⟩, .int .i64 0, .int .i64 0, .int .i64 0, .int .i64 0, .slice none 0 0, .slice none 0 0], .int .i64 0], []⟩ 8 (by kernel_rfl) (by kernel_rfl) (by kernel_rfl) (by kernel_rfl)) ?_
  intro W base args ds gs before hval0 hW hcnd _
  have hval : ∀ (j : Nat) t v, Try.f4.params[j]? = some t → args[j]? = some v → Value.okWide Try.prog W .any base t v := hval0
  obtain ⟨q, q', hA0, _, _, _, _⟩ := id hW
  have hA : DataW.TrodAll enc Try.prog W 0 (fun _ => true) true Try.f4.params.toList args.toList ds q := hA0
  have walk := law_walk (P := Try.prog) (f := 4) (fn := Try.f4) (fun p hp => by cases hp) (Ts := [tM, tI]) (by kernel_rfl) law_all hval hA
  rw [Try.params4] at hA
  obtain ⟨v0, vs0, d0, ds0, p0, q0, hargs0, rfl, rfl, h0, r0⟩ := trodAll_cons hA
  obtain ⟨v1, vs1, d1, ds1, p1, q1, hargs1, rfl, rfl, h1, r1⟩ := trodAll_cons r0
  subst hargs1
  obtain ⟨rfl, rfl, rfl⟩ := trodAll_nil r1
  refine walk.mono fun e W' ⟨he, hb⟩ => ?_
  subst he
  exact ⟨_, rfl, law_post (tb := 4) laidOut rfl (by kernel_rfl) rfl Try.underlying4 hW rfl hb⟩

theorem messageResults_holds : Rows.MessageResultsSaid :=
  OpenClaim.holds_of_wide 4 Try.f4 rfl rfl rfl rfl rfl rfl rfl ⟨rfl, rfl, rfl, rfl, rfl⟩ rfl rfl rfl rfl rfl (by kernel_rfl) Try.func4 (by kernel_rfl)
    (of_decide_eq_true (by kernel_rfl)) (by unfold Func.isWrapper; first | (rw [if_pos (by decide +kernel)]; kernel_rfl) | (rw [if_neg (by decide +kernel)]; exact ⟨rfl, rfl⟩))
    (fun os started H enc _ => messageResults_lifted os started H enc)
#print axioms messageResults_holds
end Go.Proofs.Ytfhdgaecclfccaa
