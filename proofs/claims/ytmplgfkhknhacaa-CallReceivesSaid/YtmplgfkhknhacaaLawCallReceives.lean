/-
  CallReceives: its walk and its row.
-/
import Derived.Test.YtmplgfkhknhacaaC27x
set_option maxRecDepth 100000
set_option linter.unusedSimpArgs false
set_option linter.unusedVariables false
namespace Go.Proofs.Ytmplgfkhknhacaa
open Go.Proofs.Ytmplgfkhknhacaa.Sy Go.Proofs.Ytmplgfkhknhacaa.L7 Go.Proofs.Ytmplgfkhknhacaa.Id Go.Proofs.Ytmplgfkhknhacaa.R26 Go.Proofs.Ytmplgfkhknhacaa.V26 Go.Proofs.Ytmplgfkhknhacaa.N27 Go.Proofs.Ytmplgfkhknhacaa.C27 Go.RowKit Go.WideShapes Go.ChangeShapes Go.ChangeAt

set_option maxHeartbeats 4000000 in
theorem law_all (xs : List D) (h : TypTs [tEp, tM] xs) : Fun Try.prog [] 7 [tEp, tM] xs [.c .bool] (.ok [.bool true]) := by
  obtain ⟨d, _, rfl, h0, _, _, rfl, h1, rfl⟩ := h
  obtain ⟨e, rfl, te⟩ := typ_ep h0
  obtain ⟨m, rfl, tm⟩ := typ_msg h1
  refine lCallReceives_ent _ _ ?_
  show vclCallReceives.den _ _ _ _ _
  unfold vclCallReceives
  refine den_cal [.bool (smE e)] rfl (small_fn e (fun x hx => (te.q x hx).tl) (fun x hx => (te.o x hx).tl) (fun x hx => (te.s x hx).tl)) rfl rfl ?_
  (try simp only [List.cons_append, List.nil_append])
  refine den_ite (fun h1 => ?_) (fun h1 => ?_)
  rotate_left
  · exact den_cal [.bool true] rfl ex_fn rfl rfl (den_ret rfl)
  simp only [dF, dE] at h1
  have he := sm_b te h1
  have hr := te.rt
  unfold inI at hr
  refine den_cal [.bool (shL [m])] rfl (short_fn [m] (by simp) (fun x hx => by rw [List.mem_singleton.1 hx]; exact tm.tl)) rfl rfl ?_
  (try simp only [List.cons_append, List.nil_append])
  refine den_ite (fun h2 => ?_) (fun h2 => ?_)
  rotate_left
  · exact den_cal [.bool true] rfl ex_fn rfl rfl (den_ret rfl)
  simp only [dF, dE] at h2
  have hm := shL_b (l := [m]) (fun x hx => by rw [List.mem_singleton.1 hx]; exact tm) h2 m (by simp)
  refine den_cal [I64d (epS e)] rfl (rval_fn e he hr.1 hr.2) rfl rfl ?_
  (try simp only [List.cons_append, List.nil_append])
  refine den_ite (fun h3 => ?_) (fun h3 => ?_)
  · exact den_cal [.bool true] rfl ex_fn rfl rfl (den_ret rfl)
  simp only [dF, dE] at h3
  have hok := ep_ok h3
  have hln := hok.ln
  obtain ⟨hno, hnb, ⟨l1, b1⟩, ⟨l2, b2⟩, ⟨l3, b3⟩⟩ := recv_ok hok he hm
  refine den_cal [I64d (recvR e m).1.nx, I64d (recvR e m).1.tm, I64d (recvR e m).1.rt, msgsD (recvR e m).1.qu, msgsD (recvR e m).1.ou, I64d (recvR e m).1.du, I64d (recvR e m).1.tr, msgsD (recvR e m).1.se, msgsD (recvR e m).2.1, msgsD (recvR e m).2.2.1, msgsD (recvR e m).2.2.2] rfl (recv_fn e m he hm (by omega)) rfl rfl ?_
  (try simp only [List.cons_append, List.nil_append])
  refine den_cal [I64d (recvR e m).1.nx, I64d (recvR e m).1.tm, I64d (recvR e m).1.rt, msgsD (recvR e m).1.qu, msgsD (recvR e m).1.ou, I64d (recvR e m).1.du, I64d (recvR e m).1.tr, msgsD (recvR e m).1.se, msgsD (recvR e m).2.1, msgsD (recvR e m).2.2.1, msgsD (recvR e m).2.2.2] rfl (rrecv_fn e m he hm (by omega)) rfl rfl ?_
  (try simp only [List.cons_append, List.nil_append])
  refine den_cal [.bool true] rfl (fun_as (same_fn (recvR e m).1 (recvR e m).1 hnb hnb) (by rw [decide_eq_true rfl] <;> rfl)) rfl rfl ?_
  (try simp only [List.cons_append, List.nil_append])
  refine den_t rfl ?_
  refine den_cal [.bool true] rfl (fun_as (sameall_fn (recvR e m).2.1 (recvR e m).2.1 (by omega) (by omega) (by assumption) (by assumption)) (by rw [decide_eq_true rfl] <;> rfl)) rfl rfl ?_
  (try simp only [List.cons_append, List.nil_append])
  refine den_t rfl ?_
  refine den_cal [.bool true] rfl (fun_as (sameall_fn (recvR e m).2.2.1 (recvR e m).2.2.1 (by omega) (by omega) (by assumption) (by assumption)) (by rw [decide_eq_true rfl] <;> rfl)) rfl rfl ?_
  (try simp only [List.cons_append, List.nil_append])
  refine den_t rfl ?_
  refine den_cal [.bool true] rfl (fun_as (sameall_fn (recvR e m).2.2.2 (recvR e m).2.2.2 (by omega) (by omega) (by assumption) (by assumption)) (by rw [decide_eq_true rfl] <;> rfl)) rfl rfl ?_
  (try simp only [List.cons_append, List.nil_append])
  refine den_t rfl ?_
  refine den_cal [I64d 0] rfl (fun_as (val_fn (recvR e m).1 hnb (rt_lim hno).1 (rt_lim hno).2) (by rw [ok_ep hno] <;> rfl)) rfl rfl ?_
  (try simp only [List.cons_append, List.nil_append])
  refine den_t rfl ?_
  exact den_cal [.bool true] rfl ex_fn rfl rfl (den_ret rfl)

set_option maxRecDepth 100000 in
theorem callReceives_lifted (os : Os) (started : os.Started) (H : Type) (enc : TypeId × Value → H) :
    ReturnsInHanded {} Try.checked os 7 .any (Rows.callReceivesSpec.pre6 enc Try.prog Try.f7 Rows.callReceivesRow.domain false) (Rows.callReceivesSpec.post enc Try.prog Try.f7 false true false false) := by
  refine returnsInHanded_of_change (C := Try.checked) own started (by kernel_rfl) Try.func7
    (ChangeSpec.witness6 (enc := enc) (C := Try.checked) false ⟨#[], #[.agg #[.int .i64 0, .int .i64 0, .int .i64 0, .slice none 0 0, .slice none 0 0, .int .i64 0, .int .i64 0, .slice none 0 0], .agg #[.int .i64 0, .int .i64 0, .int .i64 0, .int .i64 0, .int .i64 0, .int .i64 0, .int .i64 0, .int .i64 0, .string ⟨#[]⟩, .string ⟨#[]⟩, .string ⟨#[]⟩, .bool false, .slice none 0 0, .int .i64 0, .int .i64 0, .int .i64 0, .int .i64 0, .int .i64 0, .string ⟨#[]⟩, .int .i64 0, .int .i64 0, .int .i64 0, .int .i64 0, .slice none 0 0, .slice none 0 0]], []⟩ 8 (by kernel_rfl) (by kernel_rfl) (by kernel_rfl) (by kernel_rfl)) ?_
  intro W base args ds gs before hval0 hW hcnd _
  have hval : ∀ (j : Nat) t v, Try.f7.params[j]? = some t → args[j]? = some v → Value.okWide Try.prog W .any base t v := hval0
  obtain ⟨q, q', hA0, _, _, _, _⟩ := id hW
  have hA : DataW.TrodAll enc Try.prog W 0 (fun _ => true) true Try.f7.params.toList args.toList ds q := hA0
  have walk := law_walk (P := Try.prog) (f := 7) (fn := Try.f7) (fun p hp => by cases hp) (Ts := [tEp, tM]) (by kernel_rfl) law_all hval hA
  rw [Try.params7] at hA
  obtain ⟨v0, vs0, d0, ds0, p0, q0, hargs0, rfl, rfl, h0, r0⟩ := trodAll_cons hA
  obtain ⟨v1, vs1, d1, ds1, p1, q1, hargs1, rfl, rfl, h1, r1⟩ := trodAll_cons r0
  subst hargs1
  obtain ⟨rfl, rfl, rfl⟩ := trodAll_nil r1
  refine walk.mono fun e W' ⟨he, hb⟩ => ?_
  subst he
  exact ⟨_, rfl, law_post (tb := 4) laidOut rfl (by kernel_rfl) rfl Try.underlying4 hW rfl hb⟩

theorem callReceives_holds : Rows.CallReceivesSaid :=
  OpenClaim.holds_of_wide 7 Try.f7 rfl rfl rfl rfl rfl rfl rfl ⟨rfl, rfl, rfl, rfl, rfl⟩ rfl rfl rfl rfl rfl (by kernel_rfl) Try.func7 (by kernel_rfl)
    (of_decide_eq_true (by kernel_rfl)) (by unfold Func.isWrapper; first | (rw [if_pos (by decide +kernel)]; kernel_rfl) | (rw [if_neg (by decide +kernel)]; exact ⟨rfl, rfl⟩))
    (fun os started H enc _ => callReceives_lifted os started H enc)
#print axioms callReceives_holds
end Go.Proofs.Ytmplgfkhknhacaa
