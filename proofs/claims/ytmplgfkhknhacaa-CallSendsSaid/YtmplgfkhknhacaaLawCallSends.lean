/-
  CallSends: its walk and its row.
-/
import Derived.Test.YtmplgfkhknhacaaC27x
set_option maxRecDepth 100000
set_option linter.unusedSimpArgs false
set_option linter.unusedVariables false
namespace Go.Proofs.Ytmplgfkhknhacaa
open Go.Proofs.Ytmplgfkhknhacaa.Sy Go.Proofs.Ytmplgfkhknhacaa.L7 Go.Proofs.Ytmplgfkhknhacaa.Id Go.Proofs.Ytmplgfkhknhacaa.R26 Go.Proofs.Ytmplgfkhknhacaa.V26 Go.Proofs.Ytmplgfkhknhacaa.N27 Go.Proofs.Ytmplgfkhknhacaa.C27 Go.RowKit Go.WideShapes Go.ChangeShapes Go.ChangeAt

set_option maxHeartbeats 4000000 in
theorem law_all (xs : List D) (h : TypTs [tEp, tI] xs) : Fun Try.prog [] 6 [tEp, tI] xs [.c .bool] (.ok [.bool true]) := by
  obtain ⟨d, _, rfl, h0, _, _, rfl, h1, rfl⟩ := h
  obtain ⟨e, rfl, te⟩ := typ_ep h0
  obtain ⟨now, rfl, _⟩ := typ_int h1
  refine lCallSends_ent _ _ ?_
  show vclCallSends.den _ _ _ _ _
  unfold vclCallSends
  refine den_cal [.bool (smE e)] rfl (small_fn e (fun x hx => (te.q x hx).tl) (fun x hx => (te.o x hx).tl) (fun x hx => (te.s x hx).tl)) rfl rfl ?_
  (try simp only [List.cons_append, List.nil_append])
  refine den_ite (fun h1 => ?_) (fun h1 => ?_)
  rotate_left
  · exact den_cal [.bool true] rfl ex_fn rfl rfl (den_ret rfl)
  simp only [dF, dE] at h1
  have he := sm_b te h1
  have hr := te.rt
  unfold inI at hr
  refine den_cal [I64d (epS e)] rfl (rval_fn e he hr.1 hr.2) rfl rfl ?_
  (try simp only [List.cons_append, List.nil_append])
  refine den_ite (fun h3 => ?_) (fun h3 => ?_)
  · exact den_cal [.bool true] rfl ex_fn rfl rfl (den_ret rfl)
  simp only [dF, dE] at h3
  have hok := ep_ok h3
  have hln := hok.ln
  have hst := hok.st
  have hw := hok.w
  obtain ⟨hno, hnb, ⟨l1, b1⟩, ⟨l2, b2⟩⟩ := send_ok (now := now) hok he
  refine den_cal [I64d (sendR e now).1.nx, I64d (sendR e now).1.tm, I64d (sendR e now).1.rt, msgsD (sendR e now).1.qu, msgsD (sendR e now).1.ou, I64d (sendR e now).1.du, I64d (sendR e now).1.tr, msgsD (sendR e now).1.se, msgsD (sendR e now).2.1, msgsD (sendR e now).2.2] rfl (send_fn e now he (by omega) (by omega) (by omega) (by omega) (by omega) (by omega)) rfl rfl ?_
  (try simp only [List.cons_append, List.nil_append])
  refine den_cal [I64d (sendR e now).1.nx, I64d (sendR e now).1.tm, I64d (sendR e now).1.rt, msgsD (sendR e now).1.qu, msgsD (sendR e now).1.ou, I64d (sendR e now).1.du, I64d (sendR e now).1.tr, msgsD (sendR e now).1.se, msgsD (sendR e now).2.1, msgsD (sendR e now).2.2] rfl (rsend_fn e now he (by omega) (by omega) (by omega) (by omega) (by omega) (by omega)) rfl rfl ?_
  (try simp only [List.cons_append, List.nil_append])
  refine den_cal [.bool true] rfl (fun_as (same_fn (sendR e now).1 (sendR e now).1 hnb hnb) (by rw [decide_eq_true rfl] <;> rfl)) rfl rfl ?_
  (try simp only [List.cons_append, List.nil_append])
  refine den_t rfl ?_
  refine den_cal [.bool true] rfl (fun_as (sameall_fn (sendR e now).2.1 (sendR e now).2.1 (by omega) (by omega) (by assumption) (by assumption)) (by rw [decide_eq_true rfl] <;> rfl)) rfl rfl ?_
  (try simp only [List.cons_append, List.nil_append])
  refine den_t rfl ?_
  refine den_cal [.bool true] rfl (fun_as (sameall_fn (sendR e now).2.2 (sendR e now).2.2 (by omega) (by omega) (by assumption) (by assumption)) (by rw [decide_eq_true rfl] <;> rfl)) rfl rfl ?_
  (try simp only [List.cons_append, List.nil_append])
  refine den_t rfl ?_
  refine den_cal [I64d 0] rfl (fun_as (val_fn (sendR e now).1 hnb (rt_lim hno).1 (rt_lim hno).2) (by rw [ok_ep hno] <;> rfl)) rfl rfl ?_
  (try simp only [List.cons_append, List.nil_append])
  refine den_t rfl ?_
  exact den_cal [.bool true] rfl ex_fn rfl rfl (den_ret rfl)

set_option maxRecDepth 100000 in
theorem callSends_lifted (os : Os) (started : os.Started) (H : Type) (enc : TypeId × Value → H) :
    ReturnsInHanded {} Try.checked os 6 .any (Rows.callSendsSpec.pre6 enc Try.prog Try.f6 Rows.callSendsRow.domain false) (Rows.callSendsSpec.post enc Try.prog Try.f6 false true false false) := by
  refine returnsInHanded_of_change (C := Try.checked) own started (by kernel_rfl) Try.func6
    (ChangeSpec.witness6 (enc := enc) (C := Try.checked) false ⟨#[], #[.agg #[.int .i64 0, .int .i64 0, .int .i64 0, .slice none 0 0, .slice none 0 0, .int .i64 0, .int .i64 0, .slice none 0 0], .int .i64 0], []⟩ 8 (by kernel_rfl) (by kernel_rfl) (by kernel_rfl) (by kernel_rfl)) ?_
  intro W base args ds gs before hval0 hW hcnd _
  have hval : ∀ (j : Nat) t v, Try.f6.params[j]? = some t → args[j]? = some v → Value.okWide Try.prog W .any base t v := hval0
  obtain ⟨q, q', hA0, _, _, _, _⟩ := id hW
  have hA : DataW.TrodAll enc Try.prog W 0 (fun _ => true) true Try.f6.params.toList args.toList ds q := hA0
  have walk := law_walk (P := Try.prog) (f := 6) (fn := Try.f6) (fun p hp => by cases hp) (Ts := [tEp, tI]) (by kernel_rfl) law_all hval hA
  rw [Try.params6] at hA
  obtain ⟨v0, vs0, d0, ds0, p0, q0, hargs0, rfl, rfl, h0, r0⟩ := trodAll_cons hA
  obtain ⟨v1, vs1, d1, ds1, p1, q1, hargs1, rfl, rfl, h1, r1⟩ := trodAll_cons r0
  subst hargs1
  obtain ⟨rfl, rfl, rfl⟩ := trodAll_nil r1
  refine walk.mono fun e W' ⟨he, hb⟩ => ?_
  subst he
  exact ⟨_, rfl, law_post (tb := 4) laidOut rfl (by kernel_rfl) rfl Try.underlying4 hW rfl hb⟩

theorem callSends_holds : Rows.CallSendsSaid :=
  OpenClaim.holds_of_wide 6 Try.f6 rfl rfl rfl rfl rfl rfl rfl ⟨rfl, rfl, rfl, rfl, rfl⟩ rfl rfl rfl rfl rfl (by kernel_rfl) Try.func6 (by kernel_rfl)
    (of_decide_eq_true (by kernel_rfl)) (by unfold Func.isWrapper; first | (rw [if_pos (by decide +kernel)]; kernel_rfl) | (rw [if_neg (by decide +kernel)]; exact ⟨rfl, rfl⟩))
    (fun os started H enc _ => callSends_lifted os started H enc)
#print axioms callSends_holds
end Go.Proofs.Ytmplgfkhknhacaa
