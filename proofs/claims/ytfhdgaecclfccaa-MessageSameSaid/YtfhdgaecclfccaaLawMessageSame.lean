/-
  MessageSame: its walk and its row.
-/
import Derived.Test.YtfhdgaecclfccaaX26
set_option maxRecDepth 100000
set_option linter.unusedSimpArgs false
set_option linter.unusedVariables false
namespace Go.Proofs.Ytfhdgaecclfccaa
open Go.Proofs.Ytfhdgaecclfccaa.Sy Go.Proofs.Ytfhdgaecclfccaa.L7 Go.Proofs.Ytfhdgaecclfccaa.Id Go.Proofs.Ytfhdgaecclfccaa.R26 Go.Proofs.Ytfhdgaecclfccaa.V26 Go.Proofs.Ytfhdgaecclfccaa.M26 Go.Proofs.Ytfhdgaecclfccaa.B26 Go.RowKit Go.WideShapes Go.ChangeShapes Go.ChangeAt

set_option maxHeartbeats 4000000 in
theorem law_all (xs : List D) (h : TypTs [tM, tM] xs) : Fun Try.prog [] 5 [tM, tM] xs [.c .bool] (.ok [.bool true]) := by
  obtain ⟨d, _, rfl, h0, _, _, rfl, h1, rfl⟩ := h
  obtain ⟨a, rfl, ha⟩ := typ_msg h0
  obtain ⟨b, rfl, hb⟩ := typ_msg h1
  refine lsame_ent _ _ ?_
  show vclsame.den _ _ _ _ _
  unfold vclsame
  refine den_cal [.bool (smB a)] rfl (small_fn a ha.tl) rfl rfl ?_
  refine den_ite (fun h1 => ?_) (fun h1 => ?_)
  · simp only [E.den, D.toI, D.toB, D.toL, D.toS, D.len, D.mapL, flatD, dE, str_eq, emp_iff] at h1
    refine den_cal [.bool (smB b)] rfl (small_fn b hb.tl) rfl rfl ?_
    refine den_ite (fun h2 => ?_) (fun h2 => ?_)
    · simp only [E.den, D.toI, D.toB, D.toL, D.toS, D.len, D.mapL, flatD, dE, str_eq, emp_iff] at h2
      refine den_ev ?_
      refine evs_call [.bool (decide (a = b))] rfl (msame_fn a b ha.ok hb.ok) rfl rfl ?_
      refine evs_call [.bool (decide (a = b))] rfl (same26_fn a b ha.ok hb.ok) rfl rfl ?_
      refine evs_nil ?_
      refine den_t (by simp only [E.den, D.toI, D.toB, D.toL, D.toS, D.len, D.mapL, flatD, dE]) ?_
      refine den_ev ?_
      refine evs_call [.bool (decide (a = b))] rfl (fun_as (msame_fn b a hb.ok ha.ok) (by rw [dec_comm] <;> rfl)) rfl rfl ?_
      refine evs_call [.bool (decide (a = b))] rfl (msame_fn a b ha.ok hb.ok) rfl rfl ?_
      refine evs_nil ?_
      refine den_t (by simp only [E.den, D.toI, D.toB, D.toL, D.toS, D.len, D.mapL, flatD, dE]) ?_
      refine den_ev ?_
      refine evs_call [.bool (true)] rfl (fun_as (msame_fn a a ha.ok ha.ok) (by rw [decide_eq_true rfl] <;> rfl)) rfl rfl ?_
      refine evs_nil ?_
      refine den_t (rfl) ?_
      refine den_ev ?_
      refine evs_call [.bool (true)] rfl (fun_as (msame_fn b b hb.ok hb.ok) (by rw [decide_eq_true rfl] <;> rfl)) rfl rfl ?_
      refine evs_nil ?_
      refine den_t (rfl) ?_
      refine den_ev ?_
      refine evs_call [.bool (true)] rfl (X26.ex_fn) rfl rfl ?_
      refine evs_nil ?_
      refine den_ret ?_
      rfl
    · simp only [E.den, D.toI, D.toB, D.toL, D.toS, D.len, D.mapL, flatD, dE, str_eq, emp_iff] at h2
      refine den_cal [.bool (true)] rfl (X26.ex_fn) rfl rfl ?_
      refine den_ret ?_
      rfl
  · simp only [E.den, D.toI, D.toB, D.toL, D.toS, D.len, D.mapL, flatD, dE, str_eq, emp_iff] at h1
    refine den_cal [.bool (true)] rfl (X26.ex_fn) rfl rfl ?_
    refine den_ret ?_
    rfl

set_option maxRecDepth 100000 in
theorem messageSame_lifted (os : Os) (started : os.Started) (H : Type) (enc : TypeId × Value → H) :
    ReturnsInHanded {} Try.checked os 5 .any (Rows.messageSameSpec.pre6 enc Try.prog Try.f5 Rows.messageSameRow.domain false) (Rows.messageSameSpec.post enc Try.prog Try.f5 false true false false) := by
  refine returnsInHanded_of_change (C := Try.checked) own started (by kernel_rfl) Try.func5
    (ChangeSpec.witness6 (enc := enc) (C := Try.checked) false ⟨#[], #[.agg #[.int .i64 0, .int .i64 0, .int .i64 0, .int .i64 0, .int .i64 0, .int .i64 0, .int .i64 0, .int .i64 0, .string ⟨#[]⟩, .string ⟨#[]⟩, .string ⟨#[]⟩, .bool false, .slice none 0 0, .int .i64 0, .int .i64 0, .int .i64 0, .int .i64 0, .int .i64 0, .string ⟨#[]⟩, .int .i64 0, .int .i64 0, .int .i64 0, .int .i64 0, .slice none 0 0, .slice none 0 0], .agg #[.int .i64 0, .int .i64 0, .int .i64 0, .int .i64 0, .int .i64 0, .int .i64 0, .int .i64 0, .int .i64 0, .string ⟨#[]⟩, .string ⟨#[]⟩, .string ⟨#[]⟩, .bool false, .slice none 0 0, .int .i64 0, .int .i64 0, .int .i64 0, .int .i64 0, .int .i64 0, .string ⟨#[]⟩, .int .i64 0, .int .i64 0, .int .i64 0, .int .i64 0, .slice none 0 0, .slice none 0 0]], []⟩ 8 (by kernel_rfl) (by kernel_rfl) (by kernel_rfl) (by kernel_rfl)) ?_
  intro W base args ds gs before hval0 hW hcnd _
  have hval : ∀ (j : Nat) t v, Try.f5.params[j]? = some t → args[j]? = some v → Value.okWide Try.prog W .any base t v := hval0
  obtain ⟨q, q', hA0, _, _, _, _⟩ := id hW
  have hA : DataW.TrodAll enc Try.prog W 0 (fun _ => true) true Try.f5.params.toList args.toList ds q := hA0
  have walk := law_walk (P := Try.prog) (f := 5) (fn := Try.f5) (fun p hp => by cases hp) (Ts := [tM, tM]) (by kernel_rfl) law_all hval hA
  rw [Try.params5] at hA
  obtain ⟨v0, vs0, d0, ds0, p0, q0, hargs0, rfl, rfl, h0, r0⟩ := trodAll_cons hA
  obtain ⟨v1, vs1, d1, ds1, p1, q1, hargs1, rfl, rfl, h1, r1⟩ := trodAll_cons r0
  subst hargs1
  obtain ⟨rfl, rfl, rfl⟩ := trodAll_nil r1
  refine walk.mono fun e W' ⟨he, hb⟩ => ?_
  subst he
  exact ⟨_, rfl, law_post (tb := 4) laidOut rfl (by kernel_rfl) rfl Try.underlying4 hW rfl hb⟩

theorem messageSame_holds : Rows.MessageSameSaid :=
  OpenClaim.holds_of_wide 5 Try.f5 rfl rfl rfl rfl rfl rfl rfl ⟨rfl, rfl, rfl, rfl, rfl⟩ rfl rfl rfl rfl rfl (by kernel_rfl) Try.func5 (by kernel_rfl)
    (of_decide_eq_true (by kernel_rfl)) (by unfold Func.isWrapper; first | (rw [if_pos (by decide +kernel)]; kernel_rfl) | (rw [if_neg (by decide +kernel)]; exact ⟨rfl, rfl⟩))
    (fun os started H enc _ => messageSame_lifted os started H enc)
#print axioms messageSame_holds
end Go.Proofs.Ytfhdgaecclfccaa
