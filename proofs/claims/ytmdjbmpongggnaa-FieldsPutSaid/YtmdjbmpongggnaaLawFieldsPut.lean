/-
  FieldsPut: its walk and its row.
-/
import Derived.Test.YtmdjbmpongggnaaSy07g
set_option maxRecDepth 100000
set_option linter.unusedSimpArgs false
set_option linter.unusedVariables false
namespace Go.Proofs.Ytmdjbmpongggnaa
open Go.Proofs.Ytmdjbmpongggnaa.Sy Go.RowKit Go.WideShapes Go.ChangeShapes Go.ChangeAt

set_option maxHeartbeats 4000000 in
theorem law_all (xs : List D) (h : TypTs [tF] xs) : Fun Try.prog [] 5 [tF] xs [.c .bool] (.ok [.bool true]) := by
  obtain ⟨d, _, rfl, h1, rfl⟩ := h
  obtain ⟨l, rfl, hlm, hl⟩ := typ_fields h1
  have hbig : ∀ x ∈ datsF l, x.length ≤ 9223372036854775807 := fun x hx => by
    obtain ⟨y, hy, rfl⟩ := List.mem_map.1 (List.mem_of_mem_take hx)
    exact len_max (hl y hy).2.2
  refine lput_ent _ _ ?_
  show vclput.den _ _ _ _ _
  unfold vclput
  refine den_cal [bbD (datsF l)] rfl (data_fn l (len_max hlm)) rfl rfl ?_
  refine den_cal [.bool (bigF (datsF l))] rfl (big_fn (datsF l) (by simp [datsF]; omega) hbig) rfl rfl ?_
  (try simp only [List.cons_append, List.nil_append])
  refine den_ite (fun _ => ?_) (fun hbf => ?_)
  · exact den_cal [.bool true] rfl ex_fn rfl rfl (den_ret rfl)
  simp only [E.den, cmpB_eql, cmpB_neq, cmpB_lss, cmpB_leq, cmpB_gtr, cmpB_geq, arI_add, arI_sub, arI_mul, arI_quo, arI_rem, D.toI, D.toB, D.toL, D.toS, D.len, D.mapL, List.map_cons, List.map_nil, List.getD_cons_zero, List.getD_cons_succ, List.cons_append, List.nil_append, flatD, List.append_nil, List.length_map, List.length_append, List.length_cons, List.length_nil, decide_eq_true_eq, decide_eq_false_iff_not, beq_iff_eq, beq_eq_false_iff_ne, bne_iff_ne, bne_eq_false_iff_eq, ne_eq, Int.toNat_natCast, gt_iff_lt, ge_iff_le, Int.not_lt, Int.not_le, Bool.not_eq_true, Bool.not_eq_false, Bool.and_eq_true, Bool.true_eq_false, Bool.false_eq_true, Bool.not_eq_eq_eq_not, Bool.not_true, Bool.not_false] at hbf
  obtain ⟨hl3, hs6⟩ := datsF_no hbf
  have hs : ∀ x ∈ l, x.2.length ≤ 1000000 := fun x hx => by have := hs6 x hx; omega
  have h1 := put_fn l (by omega) hs
  have h2 := rput_fn l (by omega) hs
  cases hp : putF l with
  | error e =>
    rw [hp] at h1 h2
    refine den_cal [bD [], I64d e] rfl h1 rfl rfl ?_
    refine den_cal [bD [], I64d e] rfl h2 rfl rfl ?_
    refine den_cal [.bool true] rfl (same_true isB.nil) rfl rfl ?_
    refine den_t rfl (den_t (by simp only [E.den, cmpB_eql, cmpB_neq, cmpB_lss, cmpB_leq, cmpB_gtr, cmpB_geq, arI_add, arI_sub, arI_mul, arI_quo, arI_rem, D.toI, D.toB, D.toL, D.toS, D.len, D.mapL, List.map_cons, List.map_nil, List.getD_cons_zero, List.getD_cons_succ, List.cons_append, List.nil_append, flatD, List.append_nil, List.length_map, List.length_append, List.length_cons, List.length_nil, decide_eq_true_eq, decide_eq_false_iff_not, beq_iff_eq, beq_eq_false_iff_ne, bne_iff_ne, bne_eq_false_iff_eq, ne_eq, Int.toNat_natCast, gt_iff_lt, ge_iff_le, Int.not_lt, Int.not_le, Bool.not_eq_true, Bool.not_eq_false, Bool.and_eq_true, Bool.true_eq_false, Bool.false_eq_true, Bool.not_eq_eq_eq_not, Bool.not_true, Bool.not_false]) ?_)
    exact den_cal [.bool true] rfl ex_fn rfl rfl (den_ret rfl)
  | ok b =>
    rw [hp] at h1 h2
    refine den_cal [bD b, I64d 0] rfl h1 rfl rfl ?_
    refine den_cal [bD b, I64d 0] rfl h2 rfl rfl ?_
    refine den_cal [.bool true] rfl (same_true (putF_isB (fun x hx => (hl x hx).2.1) hs hp).1) rfl rfl ?_
    refine den_t rfl (den_t rfl ?_)
    exact den_cal [.bool true] rfl ex_fn rfl rfl (den_ret rfl)

set_option maxRecDepth 100000 in
theorem fieldsPut_lifted (os : Os) (started : os.Started) (H : Type) (enc : TypeId × Value → H) :
    ReturnsInHanded {} Try.checked os 5 .any (Rows.fieldsPutSpec.pre6 enc Try.prog Try.f5 Rows.fieldsPutRow.domain false) (Rows.fieldsPutSpec.post enc Try.prog Try.f5 false true false false) := by
  refine returnsInHanded_of_change (C := Try.checked) own started (by kernel_rfl) Try.func5
    (ChangeSpec.witness6 (enc := enc) (C := Try.checked) false ⟨#[], #[.slice none 0 0], []⟩ 8 (by kernel_rfl) (by kernel_rfl) (by kernel_rfl) (by kernel_rfl)) ?_
  intro W base args ds gs before hval0 hW hcnd _
  have hval : ∀ (j : Nat) t v, Try.f5.params[j]? = some t → args[j]? = some v → Value.okWide Try.prog W .any base t v := hval0
  obtain ⟨q, q', hA0, _, _, _, _⟩ := id hW
  have hA : DataW.TrodAll enc Try.prog W 0 (fun _ => true) true Try.f5.params.toList args.toList ds q := hA0
  have walk := law_walk (P := Try.prog) (f := 5) (fn := Try.f5) (fun p hp => by cases hp) (Ts := [tF]) (by kernel_rfl) law_all hval hA
  rw [Try.params5] at hA
  obtain ⟨v0, vs0, d0, ds0, p0, q0, hargs0, rfl, rfl, h0, r0⟩ := trodAll_cons hA
  obtain ⟨rfl, rfl, rfl⟩ := trodAll_nil r0
  refine walk.mono fun e W' ⟨he, hb⟩ => ?_
  subst he
  exact ⟨_, rfl, law_post (tb := 4) laidOut rfl (by kernel_rfl) rfl Try.underlying4 hW rfl hb⟩

theorem fieldsPut_holds : Rows.FieldsPutSaid :=
  OpenClaim.holds_of_wide 5 Try.f5 rfl rfl rfl rfl rfl rfl rfl ⟨rfl, rfl, rfl, rfl, rfl⟩ rfl rfl rfl rfl rfl (by kernel_rfl) Try.func5 (by kernel_rfl)
    (of_decide_eq_true (by kernel_rfl)) (by unfold Func.isWrapper; first | (rw [if_pos (by decide +kernel)]; kernel_rfl) | (rw [if_neg (by decide +kernel)]; exact ⟨rfl, rfl⟩))
    (fun os started H enc _ => fieldsPut_lifted os started H enc)
#print axioms fieldsPut_holds
end Go.Proofs.Ytmdjbmpongggnaa
