/-
  EventFrom: its walk and its row.
-/
import Derived.Test.YtoncflpifafhlaaE30l
set_option maxRecDepth 100000
set_option linter.unusedSimpArgs false
set_option linter.unusedVariables false
namespace Go.Proofs.Ytoncflpifafhlaa
open Go.Proofs.Ytoncflpifafhlaa.Sy Go.Proofs.Ytoncflpifafhlaa.L7 Go.Proofs.Ytoncflpifafhlaa.Id Go.Proofs.Ytoncflpifafhlaa.R26 Go.Proofs.Ytoncflpifafhlaa.E30 Go.Proofs.Ytoncflpifafhlaa.E30x Go.Proofs.Ytoncflpifafhlaa.E30l Go.RowKit Go.WideShapes Go.ChangeShapes Go.ChangeAt

set_option maxHeartbeats 4000000 in
theorem law_all (xs : List D) (h : TypTs [tZ, tM] xs) : Fun Try.prog [] 6 [tZ, tM] xs [.c .bool] (.ok [.bool true]) := by
  obtain ⟨d, _, rfl, h0, _, _, rfl, h1, rfl⟩ := h
  obtain ⟨s, rfl, hs⟩ := typ_str h0
  obtain ⟨m, rfl, hm⟩ := typ_msg h1
  refine lEventFrom_ent _ _ ?_
  show vclEventFrom.den _ _ _ _ _
  unfold vclEventFrom
  refine den_ite (fun h1 => ?_) (fun h1 => ?_)
  · simp only [E.den, D.toI, D.toB, D.toL, D.toS, D.len, D.mapL, flatD, dE, str_eq, emp_iff] at h1
    refine den_cal [.bool (true)] rfl (ex_fn) rfl rfl ?_
    refine den_ret ?_
    rfl
  · simp only [E.den, D.toI, D.toB, D.toL, D.toS, D.len, D.mapL, flatD, dE, str_eq, emp_iff] at h1
    refine den_ite (fun h2 => ?_) (fun h2 => ?_)
    · simp only [E.den, D.toI, D.toB, D.toL, D.toS, D.len, D.mapL, flatD, dE, str_eq, emp_iff] at h2
      refine den_cal [.bool (true)] rfl (ex_fn) rfl rfl ?_
      refine den_ret ?_
      rfl
    · simp only [E.den, D.toI, D.toB, D.toL, D.toS, D.len, D.mapL, flatD, dE, str_eq, emp_iff] at h2
      refine den_ite (fun h3 => ?_) (fun h3 => ?_)
      · simp only [E.den, D.toI, D.toB, D.toL, D.toS, D.len, D.mapL, flatD, dE, str_eq, emp_iff] at h3
        refine den_cal [.bool (true)] rfl (ex_fn) rfl rfl ?_
        refine den_ret ?_
        rfl
      · simp only [E.den, D.toI, D.toB, D.toL, D.toS, D.len, D.mapL, flatD, dE, str_eq, emp_iff] at h3
        refine den_ite (fun h4 => ?_) (fun h4 => ?_)
        · simp only [E.den, D.toI, D.toB, D.toL, D.toS, D.len, D.mapL, flatD, dE, str_eq, emp_iff] at h4
          refine den_cal [.bool (true)] rfl (ex_fn) rfl rfl ?_
          refine den_ret ?_
          rfl
        · simp only [E.den, D.toI, D.toB, D.toL, D.toS, D.len, D.mapL, flatD, dE, str_eq, emp_iff] at h4
          refine den_cal [.str ((frR s m).st), .str ((frR s m).tx), I64d ((frR s m).co), I64d ((frR s m).sq), I64d ((frR s m).ki), I64d ((frR s m).at'), .str ((frR s m).tk), .bool ((frR s m).off), I64d ((frR s m).re), rdD ((frR s m).rd), I64d (frV s m)] rfl (E30.from'_fn s m (frE_T hs hm) (by omega)) rfl rfl ?_
          refine den_cal [.str ((frR s m).st), .str ((frR s m).tx), I64d ((frR s m).co), I64d ((frR s m).sq), I64d ((frR s m).ki), I64d ((frR s m).at'), .str ((frR s m).tk), .bool ((frR s m).off), I64d ((frR s m).re), rdD ((frR s m).rd), I64d (frV s m)] rfl (rfrom_fn s m (frE_T hs hm) (by omega)) rfl rfl ?_
          refine den_t (by simp only [E.den, D.toI, D.toB, D.toL, D.toS, D.len, D.mapL, flatD, dE]) ?_
          refine den_cal [.bool (true)] rfl (fun_as (rsame_fn (frR s m) (frR s m) (frR_T hs hm).rl (frR_T hs hm).rl) (by rw [decide_eq_true rfl] <;> rfl)) rfl rfl ?_
          refine den_t (rfl) ?_
          refine den_cal [.bool (true)] rfl (ex_fn) rfl rfl ?_
          refine den_ret ?_
          rfl

set_option maxRecDepth 100000 in
theorem eventFrom_lifted (os : Os) (started : os.Started) (H : Type) (enc : TypeId × Value → H) :
    ReturnsInHanded {} Try.checked os 6 .any (Rows.eventFromSpec.pre6 enc Try.prog Try.f6 Rows.eventFromRow.domain false) (Rows.eventFromSpec.post enc Try.prog Try.f6 false true false false) := by
  refine returnsInHanded_of_change (C := Try.checked) own started (by kernel_rfl) Try.func6
    (ChangeSpec.witness6 (enc := enc) (C := Try.checked) false ⟨#[], #[.string ⟨#[]⟩, .agg #[.int .i64 0, .int .i64 0, .int .i64 0, .int .i64 0, .int .i64 0, .int .i64 0, .int .i64 0, .int .i64 0, .string ⟨#[]⟩, .string ⟨#[]⟩, .string ⟨#[]⟩, .bool false, .slice none 0 0, .int .i64 0, .int .i64 0, .int .i64 0, .int .i64 0, .int .i64 0, .string ⟨#[]⟩, .int .i64 0, .int .i64 0, .int .i64 0, .int .i64 0, .slice none 0 0, .slice none 0 0]], []⟩ 8 (by kernel_rfl) (by kernel_rfl) (by kernel_rfl) (by kernel_rfl)) ?_
  intro W base args ds gs before hval0 hW hcnd _
  have hval : ∀ (j : Nat) t v, Try.f6.params[j]? = some t → args[j]? = some v → Value.okWide Try.prog W .any base t v := hval0
  obtain ⟨q, q', hA0, _, _, _, _⟩ := id hW
  have hA : DataW.TrodAll enc Try.prog W 0 (fun _ => true) true Try.f6.params.toList args.toList ds q := hA0
  have walk := law_walk (P := Try.prog) (f := 6) (fn := Try.f6) (fun p hp => by cases hp) (Ts := [tZ, tM]) (by kernel_rfl) law_all hval hA
  rw [Try.params6] at hA
  obtain ⟨v0, vs0, d0, ds0, p0, q0, hargs0, rfl, rfl, h0, r0⟩ := trodAll_cons hA
  obtain ⟨v1, vs1, d1, ds1, p1, q1, hargs1, rfl, rfl, h1, r1⟩ := trodAll_cons r0
  subst hargs1
  obtain ⟨rfl, rfl, rfl⟩ := trodAll_nil r1
  refine walk.mono fun e W' ⟨he, hb⟩ => ?_
  subst he
  exact ⟨_, rfl, law_post (tb := 4) laidOut rfl (by kernel_rfl) rfl Try.underlying4 hW rfl hb⟩

theorem eventFrom_holds : Rows.EventFromSaid :=
  OpenClaim.holds_of_wide 6 Try.f6 rfl rfl rfl rfl rfl rfl rfl ⟨rfl, rfl, rfl, rfl, rfl⟩ rfl rfl rfl rfl rfl (by kernel_rfl) Try.func6 (by kernel_rfl)
    (of_decide_eq_true (by kernel_rfl)) (by unfold Func.isWrapper; first | (rw [if_pos (by decide +kernel)]; kernel_rfl) | (rw [if_neg (by decide +kernel)]; exact ⟨rfl, rfl⟩))
    (fun os started H enc _ => eventFrom_lifted os started H enc)
#print axioms eventFrom_holds
end Go.Proofs.Ytoncflpifafhlaa
