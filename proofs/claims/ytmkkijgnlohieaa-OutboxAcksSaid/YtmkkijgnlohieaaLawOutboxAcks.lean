/-
  OutboxAcks: its walk and its row.
-/
import Derived.Test.YtmkkijgnlohieaaO31l
set_option maxRecDepth 100000
set_option linter.unusedSimpArgs false
set_option linter.unusedVariables false
namespace Go.Proofs.Ytmkkijgnlohieaa
open Go.Proofs.Ytmkkijgnlohieaa.Sy Go.Proofs.Ytmkkijgnlohieaa.L7 Go.Proofs.Ytmkkijgnlohieaa.Id Go.Proofs.Ytmkkijgnlohieaa.R26 Go.Proofs.Ytmkkijgnlohieaa.E30 Go.Proofs.Ytmkkijgnlohieaa.O31 Go.Proofs.Ytmkkijgnlohieaa.O31x Go.Proofs.Ytmkkijgnlohieaa.O31l Go.RowKit Go.WideShapes Go.ChangeShapes Go.ChangeAt

set_option maxHeartbeats 4000000 in
theorem law_all (xs : List D) (h : TypTs [tO, tZ, tI] xs) : Fun Try.prog [] 5 [tO, tZ, tI] xs [.c .bool] (.ok [.bool true]) := by
  obtain ⟨d, _, rfl, h0, _, _, rfl, h1, _, _, rfl, h2, rfl⟩ := h
  obtain ⟨o, rfl, tr, tl, te⟩ := typ_ob h0
  obtain ⟨x, rfl, _⟩ := typ_str h1
  obtain ⟨q, rfl, _⟩ := typ_int h2
  refine lOutboxAcks_ent _ _ ?_
  show vclOutboxAcks.den _ _ _ _ _
  unfold vclOutboxAcks
  refine den_ite (fun h1 => ?_) (fun h1 => ?_)
  · simp only [E.den, D.toI, D.toB, D.toL, D.toS, D.len, D.mapL, flatD, dE, str_eq, emp_iff] at h1
    refine den_cal [.bool (true)] rfl (ex_fn) rfl rfl ?_
    refine den_ret ?_
    rfl
  · simp only [E.den, D.toI, D.toB, D.toL, D.toS, D.len, D.mapL, flatD, dE, str_eq, emp_iff] at h1; have ho : ObT o := ⟨tr, tl, (by omega), te⟩
    refine den_cal [.bool (o.it.all shortE)] rfl (short_fn o.it (by omega)) rfl rfl ?_
    refine den_ite (fun h2 => ?_) (fun h2 => ?_)
    · simp only [E.den, D.toI, D.toB, D.toL, D.toS, D.len, D.mapL, flatD, dE, str_eq, emp_iff] at h2
      refine den_ite (fun h3 => ?_) (fun h3 => ?_)
      · simp only [E.den, D.toI, D.toB, D.toL, D.toS, D.len, D.mapL, flatD, dE, str_eq, emp_iff] at h3
        refine den_cal [.bool (true)] rfl (ex_fn) rfl rfl ?_
        refine den_ret ?_
        rfl
      · simp only [E.den, D.toI, D.toB, D.toL, D.toS, D.len, D.mapL, flatD, dE, str_eq, emp_iff] at h3
        refine den_cal [I64d (ovS o)] rfl (rovalid_fn o ho) rfl rfl ?_
        refine den_ite (fun h4 => ?_) (fun h4 => ?_)
        · simp only [E.den, D.toI, D.toB, D.toL, D.toS, D.len, D.mapL, flatD, dE, str_eq, emp_iff] at h4
          refine den_cal [.bool (true)] rfl (ex_fn) rfl rfl ?_
          refine den_ret ?_
          rfl
        · simp only [E.den, D.toI, D.toB, D.toL, D.toS, D.len, D.mapL, flatD, dE, str_eq, emp_iff] at h4
          refine den_cal [.str ((headE o).st), .str ((headE o).tx), I64d ((headE o).co), I64d ((headE o).sq), I64d ((headE o).ki), I64d ((headE o).at'), .str ((headE o).tk), .bool ((headE o).off), I64d ((headE o).re), rdD ((headE o).rd), .bool (decide (o.it ≠ []))] rfl (head_fn o (by omega) (ok_small (by assumption))) rfl rfl ?_
          refine den_cal [.str ((headE o).st), .str ((headE o).tx), I64d ((headE o).co), I64d ((headE o).sq), I64d ((headE o).ki), I64d ((headE o).at'), .str ((headE o).tk), .bool ((headE o).off), I64d ((headE o).re), rdD ((headE o).rd), .bool (decide (o.it ≠ []))] rfl (rhead_fn o (by omega)) rfl rfl ?_
          refine den_cal [I64d ((ackO o x q).rm), evsD ((ackO o x q).it), I64d ((ackO o x q).lo), I64d (ackV o x q)] rfl (ack_fn o x q (by omega) (ok_small (by assumption))) rfl rfl ?_
          refine den_cal [I64d ((ackO o x q).rm), evsD ((ackO o x q).it), I64d ((ackO o x q).lo), I64d (ackV o x q)] rfl (rack_fn o x q (by omega)) rfl rfl ?_
          refine den_cal [.bool (true)] rfl (fun_as (sameall_fn [headE o] [headE o] (by simp) (by simp) (fun z hz => by rw [List.mem_singleton.1 hz]; exact head_T ho) (fun z hz => by rw [List.mem_singleton.1 hz]; exact head_T ho)) (by rw [decide_eq_true rfl] <;> rfl)) rfl rfl ?_
          refine den_t (rfl) ?_
          refine den_t (by simp only [E.den, D.toI, D.toB, D.toL, D.toS, D.len, D.mapL, flatD, dE]) ?_
          refine den_cal [.bool (true)] rfl (fun_as (osame_fn (ackO o x q) (ackO o x q) (ack_T ho (by assumption)).1 (ack_T ho (by assumption)).1) (by rw [decide_eq_true rfl] <;> rfl)) rfl rfl ?_
          refine den_t (rfl) ?_
          refine den_t (by simp only [E.den, D.toI, D.toB, D.toL, D.toS, D.len, D.mapL, flatD, dE]) ?_
          refine den_cal [I64d (0)] rfl (fun_as (ovalid_fn (ackO o x q) (ack_T ho (by assumption)).1) (by rw [(ack_T ho (by assumption)).2] <;> rfl)) rfl rfl ?_
          refine den_t (rfl) ?_
          refine den_cal [.bool (true)] rfl (ex_fn) rfl rfl ?_
          refine den_ret ?_
          rfl
    · simp only [E.den, D.toI, D.toB, D.toL, D.toS, D.len, D.mapL, flatD, dE, str_eq, emp_iff] at h2
      refine den_cal [.bool (true)] rfl (ex_fn) rfl rfl ?_
      refine den_ret ?_
      rfl

set_option maxRecDepth 100000 in
theorem outboxAcks_lifted (os : Os) (started : os.Started) (H : Type) (enc : TypeId × Value → H) :
    ReturnsInHanded {} Try.checked os 5 .any (Rows.outboxAcksSpec.pre6 enc Try.prog Try.f5 Rows.outboxAcksRow.domain false) (Rows.outboxAcksSpec.post enc Try.prog Try.f5 false true false false) := by
  refine returnsInHanded_of_change (C := Try.checked) own started (by kernel_rfl) Try.func5
    (ChangeSpec.witness6 (enc := enc) (C := Try.checked) false ⟨#[], #[.agg #[.int .i64 0, .slice none 0 0, .int .i64 0], .string ⟨#[]⟩, .int .i64 0], []⟩ 8 (by kernel_rfl) (by kernel_rfl) (by kernel_rfl) (by kernel_rfl)) ?_
  intro W base args ds gs before hval0 hW hcnd _
  have hval : ∀ (j : Nat) t v, Try.f5.params[j]? = some t → args[j]? = some v → Value.okWide Try.prog W .any base t v := hval0
  obtain ⟨q, q', hA0, _, _, _, _⟩ := id hW
  have hA : DataW.TrodAll enc Try.prog W 0 (fun _ => true) true Try.f5.params.toList args.toList ds q := hA0
  have walk := law_walk (P := Try.prog) (f := 5) (fn := Try.f5) (fun p hp => by cases hp) (Ts := [tO, tZ, tI]) (by kernel_rfl) law_all hval hA
  rw [Try.params5] at hA
  obtain ⟨v0, vs0, d0, ds0, p0, q0, hargs0, rfl, rfl, h0, r0⟩ := trodAll_cons hA
  obtain ⟨v1, vs1, d1, ds1, p1, q1, hargs1, rfl, rfl, h1, r1⟩ := trodAll_cons r0
  subst hargs1
  obtain ⟨v2, vs2, d2, ds2, p2, q2, hargs2, rfl, rfl, h2, r2⟩ := trodAll_cons r1
  subst hargs2
  obtain ⟨rfl, rfl, rfl⟩ := trodAll_nil r2
  refine walk.mono fun e W' ⟨he, hb⟩ => ?_
  subst he
  exact ⟨_, rfl, law_post (tb := 4) laidOut rfl (by kernel_rfl) rfl Try.underlying4 hW rfl hb⟩

theorem outboxAcks_holds : Rows.OutboxAcksSaid :=
  OpenClaim.holds_of_wide 5 Try.f5 rfl rfl rfl rfl rfl rfl rfl ⟨rfl, rfl, rfl, rfl, rfl⟩ rfl rfl rfl rfl rfl (by kernel_rfl) Try.func5 (by kernel_rfl)
    (of_decide_eq_true (by kernel_rfl)) (by unfold Func.isWrapper; first | (rw [if_pos (by decide +kernel)]; kernel_rfl) | (rw [if_neg (by decide +kernel)]; exact ⟨rfl, rfl⟩))
    (fun os started H enc _ => outboxAcks_lifted os started H enc)
#print axioms outboxAcks_holds
end Go.Proofs.Ytmkkijgnlohieaa
