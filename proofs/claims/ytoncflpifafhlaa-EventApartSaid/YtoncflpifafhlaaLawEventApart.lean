/-
  EventApart: its walk and its row.
-/
import Derived.Test.YtoncflpifafhlaaE30l
set_option maxRecDepth 100000
set_option linter.unusedSimpArgs false
set_option linter.unusedVariables false
namespace Go.Proofs.Ytoncflpifafhlaa
open Go.Proofs.Ytoncflpifafhlaa.Sy Go.Proofs.Ytoncflpifafhlaa.L7 Go.Proofs.Ytoncflpifafhlaa.Id Go.Proofs.Ytoncflpifafhlaa.R26 Go.Proofs.Ytoncflpifafhlaa.E30 Go.Proofs.Ytoncflpifafhlaa.E30x Go.Proofs.Ytoncflpifafhlaa.E30l Go.RowKit Go.WideShapes Go.ChangeShapes Go.ChangeAt

set_option maxHeartbeats 4000000 in
theorem law_all (xs : List D) (h : TypTs [tE, tE] xs) : Fun Try.prog [] 8 [tE, tE] xs [.c .bool] (.ok [.bool true]) := by
  obtain ⟨d, _, rfl, h0, _, _, rfl, h1, rfl⟩ := h
  obtain ⟨a, rfl, ha⟩ := typ_ev h0
  obtain ⟨b, rfl, hb⟩ := typ_ev h1
  refine lEventApart_ent _ _ ?_
  show vclEventApart.den _ _ _ _ _
  unfold vclEventApart
  refine den_cal [.bool (smallB a)] rfl (small_fn a) rfl rfl ?_
  refine den_ite (fun h1 => ?_) (fun h1 => ?_)
  · simp only [E.den, D.toI, D.toB, D.toL, D.toS, D.len, D.mapL, flatD, dE, str_eq, emp_iff] at h1
    refine den_cal [.bool (smallB b)] rfl (small_fn b) rfl rfl ?_
    refine den_ite (fun h2 => ?_) (fun h2 => ?_)
    · simp only [E.den, D.toI, D.toB, D.toL, D.toS, D.len, D.mapL, flatD, dE, str_eq, emp_iff] at h2
      refine den_cal [bD (if validS a = 0 then byE a else []), I64d (validS a)] rfl (encode_fn a ha) rfl rfl ?_
      refine den_cal [bD (if validS b = 0 then byE b else []), I64d (validS b)] rfl (encode_fn b hb) rfl rfl ?_
      refine den_ite (fun h3 => ?_) (fun h3 => ?_)
      · simp only [E.den, D.toI, D.toB, D.toL, D.toS, D.len, D.mapL, flatD, dE, str_eq, emp_iff] at h3
        refine den_cal [.bool (true)] rfl (ex_fn) rfl rfl ?_
        refine den_ret ?_
        rfl
      · simp only [E.den, D.toI, D.toB, D.toL, D.toS, D.len, D.mapL, flatD, dE, str_eq, emp_iff] at h3
        refine den_ite (fun h4 => ?_) (fun h4 => ?_)
        · simp only [E.den, D.toI, D.toB, D.toL, D.toS, D.len, D.mapL, flatD, dE, str_eq, emp_iff] at h4
          refine den_cal [.bool (true)] rfl (ex_fn) rfl rfl ?_
          refine den_ret ?_
          rfl
        · simp only [E.den, D.toI, D.toB, D.toL, D.toS, D.len, D.mapL, flatD, dE, str_eq, emp_iff] at h4
          refine den_ev ?_
          refine evs_call [.bool (decide (a = b))] rfl (same_fn a b ha.rl hb.rl) rfl rfl ?_
          refine evs_nil ?_
          refine den_t (by simp only [E.den, D.toI, D.toB, D.toL, D.toS, D.len, D.mapL, flatD, dE]; rw [if_pos h3, if_pos h4, strD_eq (byE_isB ha (ok_of h3)) (byE_isB hb (ok_of h4))]; exact beq_iff_eq.1 (apart_eq ha hb h3 h4)) ?_
          refine den_ev ?_
          refine evs_call [.bool (true)] rfl (ex_fn) rfl rfl ?_
          refine evs_nil ?_
          refine den_ret ?_
          rfl
    · simp only [E.den, D.toI, D.toB, D.toL, D.toS, D.len, D.mapL, flatD, dE, str_eq, emp_iff] at h2
      refine den_cal [.bool (true)] rfl (ex_fn) rfl rfl ?_
      refine den_ret ?_
      rfl
  · simp only [E.den, D.toI, D.toB, D.toL, D.toS, D.len, D.mapL, flatD, dE, str_eq, emp_iff] at h1
    refine den_cal [.bool (true)] rfl (ex_fn) rfl rfl ?_
    refine den_ret ?_
    rfl

set_option maxRecDepth 100000 in
theorem eventApart_lifted (os : Os) (started : os.Started) (H : Type) (enc : TypeId × Value → H) :
    ReturnsInHanded {} Try.checked os 8 .any (Rows.eventApartSpec.pre6 enc Try.prog Try.f8 Rows.eventApartRow.domain false) (Rows.eventApartSpec.post enc Try.prog Try.f8 false true false false) := by
  refine returnsInHanded_of_change (C := Try.checked) own started (by kernel_rfl) Try.func8
    (ChangeSpec.witness6 (enc := enc) (C := Try.checked) false ⟨#[], #[.agg #[.string ⟨#[]⟩, .string ⟨#[]⟩, .int .i64 0, .int .i64 0, .int .i64 0, .int .i64 0, .string ⟨#[]⟩, .bool false, .int .i64 0, .slice none 0 0], .agg #[.string ⟨#[]⟩, .string ⟨#[]⟩, .int .i64 0, .int .i64 0, .int .i64 0, .int .i64 0, .string ⟨#[]⟩, .bool false, .int .i64 0, .slice none 0 0]], []⟩ 8 (by kernel_rfl) (by kernel_rfl) (by kernel_rfl) (by kernel_rfl)) ?_
  intro W base args ds gs before hval0 hW hcnd _
  have hval : ∀ (j : Nat) t v, Try.f8.params[j]? = some t → args[j]? = some v → Value.okWide Try.prog W .any base t v := hval0
  obtain ⟨q, q', hA0, _, _, _, _⟩ := id hW
  have hA : DataW.TrodAll enc Try.prog W 0 (fun _ => true) true Try.f8.params.toList args.toList ds q := hA0
  have walk := law_walk (P := Try.prog) (f := 8) (fn := Try.f8) (fun p hp => by cases hp) (Ts := [tE, tE]) (by kernel_rfl) law_all hval hA
  rw [Try.params8] at hA
  obtain ⟨v0, vs0, d0, ds0, p0, q0, hargs0, rfl, rfl, h0, r0⟩ := trodAll_cons hA
  obtain ⟨v1, vs1, d1, ds1, p1, q1, hargs1, rfl, rfl, h1, r1⟩ := trodAll_cons r0
  subst hargs1
  obtain ⟨rfl, rfl, rfl⟩ := trodAll_nil r1
  refine walk.mono fun e W' ⟨he, hb⟩ => ?_
  subst he
  exact ⟨_, rfl, law_post (tb := 4) laidOut rfl (by kernel_rfl) rfl Try.underlying4 hW rfl hb⟩

theorem eventApart_holds : Rows.EventApartSaid :=
  OpenClaim.holds_of_wide 8 Try.f8 rfl rfl rfl rfl rfl rfl rfl ⟨rfl, rfl, rfl, rfl, rfl⟩ rfl rfl rfl rfl rfl (by kernel_rfl) Try.func8 (by kernel_rfl)
    (of_decide_eq_true (by kernel_rfl)) (by unfold Func.isWrapper; first | (rw [if_pos (by decide +kernel)]; kernel_rfl) | (rw [if_neg (by decide +kernel)]; exact ⟨rfl, rfl⟩))
    (fun os started H enc _ => eventApart_lifted os started H enc)
#print axioms eventApart_holds
end Go.Proofs.Ytoncflpifafhlaa
