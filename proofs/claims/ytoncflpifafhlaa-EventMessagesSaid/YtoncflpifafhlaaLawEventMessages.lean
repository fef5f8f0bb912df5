/-
  EventMessages: its walk and its row.
-/
import Derived.Test.YtoncflpifafhlaaE30l
set_option maxRecDepth 100000
set_option linter.unusedSimpArgs false
set_option linter.unusedVariables false
namespace Go.Proofs.Ytoncflpifafhlaa
open Go.Proofs.Ytoncflpifafhlaa.Sy Go.Proofs.Ytoncflpifafhlaa.L7 Go.Proofs.Ytoncflpifafhlaa.Id Go.Proofs.Ytoncflpifafhlaa.R26 Go.Proofs.Ytoncflpifafhlaa.E30 Go.Proofs.Ytoncflpifafhlaa.E30x Go.Proofs.Ytoncflpifafhlaa.E30l Go.RowKit Go.WideShapes Go.ChangeShapes Go.ChangeAt

set_option maxHeartbeats 4000000 in
theorem law_all (xs : List D) (h : TypTs [tE] xs) : Fun Try.prog [] 5 [tE] xs [.c .bool] (.ok [.bool true]) := by
  obtain ⟨d, _, rfl, h0, rfl⟩ := h
  obtain ⟨e, rfl, he⟩ := typ_ev h0
  have hms := msgR_ok he
  refine lEventMessages_ent _ _ ?_
  show vclEventMessages.den _ _ _ _ _
  unfold vclEventMessages
  refine den_cal [.bool (smallB e)] rfl (small_fn e) rfl rfl ?_
  refine den_ite (fun h1 => ?_) (fun h1 => ?_)
  · simp only [E.den, D.toI, D.toB, D.toL, D.toS, D.len, D.mapL, flatD, dE, str_eq, emp_iff] at h1
    refine den_cal [I64d ((msgR e).ki), I64d ((msgR e).id), I64d ((msgR e).ac), I64d ((msgR e).co), I64d ((msgR e).st), I64d ((msgR e).sq), I64d ((msgR e).at'), I64d ((msgR e).va), .str ((msgR e).tx), .str ((msgR e).tk), .str ((msgR e).te), .bool ((msgR e).off), rdD ((msgR e).rd), I64d ((msgR e).p.id), I64d ((msgR e).p.lv), I64d ((msgR e).p.pu), I64d ((msgR e).p.ki), I64d ((msgR e).p.co), .str ((msgR e).p.tx), I64d ((msgR e).p.fr), I64d ((msgR e).p.to), I64d ((msgR e).p.st), I64d ((msgR e).p.du), rdD ((msgR e).p.pe), tksD ((msgR e).tks), I64d (validS e)] rfl (message_fn e he) rfl rfl ?_
    refine den_cal [I64d ((msgR e).ki), I64d ((msgR e).id), I64d ((msgR e).ac), I64d ((msgR e).co), I64d ((msgR e).st), I64d ((msgR e).sq), I64d ((msgR e).at'), I64d ((msgR e).va), .str ((msgR e).tx), .str ((msgR e).tk), .str ((msgR e).te), .bool ((msgR e).off), rdD ((msgR e).rd), I64d ((msgR e).p.id), I64d ((msgR e).p.lv), I64d ((msgR e).p.pu), I64d ((msgR e).p.ki), I64d ((msgR e).p.co), .str ((msgR e).p.tx), I64d ((msgR e).p.fr), I64d ((msgR e).p.to), I64d ((msgR e).p.st), I64d ((msgR e).p.du), rdD ((msgR e).p.pe), tksD ((msgR e).tks), I64d (validS e)] rfl (rmessage_fn e he) rfl rfl ?_
    refine den_t (by simp only [E.den, D.toI, D.toB, D.toL, D.toS, D.len, D.mapL, flatD, dE]) ?_
    refine den_cal [.bool (true)] rfl (fun_as (same26_fn (msgR e) (msgR e) hms hms) (by rw [decide_eq_true rfl] <;> rfl)) rfl rfl ?_
    refine den_t (rfl) ?_
    refine den_cal [.bool (true)] rfl (ex_fn) rfl rfl ?_
    refine den_ret ?_
    rfl
  · simp only [E.den, D.toI, D.toB, D.toL, D.toS, D.len, D.mapL, flatD, dE, str_eq, emp_iff] at h1
    refine den_cal [.bool (true)] rfl (ex_fn) rfl rfl ?_
    refine den_ret ?_
    rfl

set_option maxRecDepth 100000 in
theorem eventMessages_lifted (os : Os) (started : os.Started) (H : Type) (enc : TypeId × Value → H) :
    ReturnsInHanded {} Try.checked os 5 .any (Rows.eventMessagesSpec.pre6 enc Try.prog Try.f5 Rows.eventMessagesRow.domain false) (Rows.eventMessagesSpec.post enc Try.prog Try.f5 false true false false) := by
  refine returnsInHanded_of_change (C := Try.checked) own started (by kernel_rfl) Try.func5
    (ChangeSpec.witness6 (enc := enc) (C := Try.checked) false ⟨#[], #[.agg #[.string ⟨#[]⟩, .string ⟨#[]⟩, .int .i64 0, .int .i64 0, .int .i64 0, .int .i64 0, .string ⟨#[]⟩, .bool false, .int .i64 0, .slice none 0 0]], []⟩ 8 (by kernel_rfl) (by kernel_rfl) (by kernel_rfl) (by kernel_rfl)) ?_
  intro W base args ds gs before hval0 hW hcnd _
  have hval : ∀ (j : Nat) t v, Try.f5.params[j]? = some t → args[j]? = some v → Value.okWide Try.prog W .any base t v := hval0
  obtain ⟨q, q', hA0, _, _, _, _⟩ := id hW
  have hA : DataW.TrodAll enc Try.prog W 0 (fun _ => true) true Try.f5.params.toList args.toList ds q := hA0
  have walk := law_walk (P := Try.prog) (f := 5) (fn := Try.f5) (fun p hp => by cases hp) (Ts := [tE]) (by kernel_rfl) law_all hval hA
  rw [Try.params5] at hA
  obtain ⟨v0, vs0, d0, ds0, p0, q0, hargs0, rfl, rfl, h0, r0⟩ := trodAll_cons hA
  obtain ⟨rfl, rfl, rfl⟩ := trodAll_nil r0
  refine walk.mono fun e W' ⟨he, hb⟩ => ?_
  subst he
  exact ⟨_, rfl, law_post (tb := 4) laidOut rfl (by kernel_rfl) rfl Try.underlying4 hW rfl hb⟩

theorem eventMessages_holds : Rows.EventMessagesSaid :=
  OpenClaim.holds_of_wide 5 Try.f5 rfl rfl rfl rfl rfl rfl rfl ⟨rfl, rfl, rfl, rfl, rfl⟩ rfl rfl rfl rfl rfl (by kernel_rfl) Try.func5 (by kernel_rfl)
    (of_decide_eq_true (by kernel_rfl)) (by unfold Func.isWrapper; first | (rw [if_pos (by decide +kernel)]; kernel_rfl) | (rw [if_neg (by decide +kernel)]; exact ⟨rfl, rfl⟩))
    (fun os started H enc _ => eventMessages_lifted os started H enc)
#print axioms eventMessages_holds
end Go.Proofs.Ytoncflpifafhlaa
