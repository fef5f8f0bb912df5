/-
  FieldsTake: its walk and its row.
-/
import Derived.Test.YtmdjbmpongggnaaSy07g
set_option maxRecDepth 100000
set_option linter.unusedSimpArgs false
set_option linter.unusedVariables false
namespace Go.Proofs.Ytmdjbmpongggnaa
open Go.Proofs.Ytmdjbmpongggnaa.Sy Go.RowKit Go.WideShapes Go.ChangeShapes Go.ChangeAt

set_option maxHeartbeats 4000000 in
theorem law_all (xs : List D) (h : TypTs [tY] xs) : Fun Try.prog [] 6 [tY] xs [.c .bool] (.ok [.bool true]) := by
  obtain ⟨d, _, rfl, h1, rfl⟩ := h
  obtain ⟨b, rfl, _, hb⟩ := typ_bytes h1
  have hb : isB b := hb
  refine ltake_ent _ _ ?_
  show vcltake.den _ _ _ _ _
  unfold vcltake
  refine den_ite (fun h => ?_) (fun h => ?_)
  · exact den_cal [.bool true] rfl ex_fn rfl rfl (den_ret rfl)
  simp only [E.den, cmpB_eql, cmpB_neq, cmpB_lss, cmpB_leq, cmpB_gtr, cmpB_geq, arI_add, arI_sub, arI_mul, arI_quo, arI_rem, D.toI, D.toB, D.toL, D.toS, D.len, D.mapL, List.map_cons, List.map_nil, List.getD_cons_zero, List.getD_cons_succ, List.cons_append, List.nil_append, flatD, List.append_nil, List.length_map, List.length_append, List.length_cons, List.length_nil, decide_eq_true_eq, decide_eq_false_iff_not, beq_iff_eq, beq_eq_false_iff_ne, bne_iff_ne, bne_eq_false_iff_eq, ne_eq, Int.toNat_natCast, gt_iff_lt, ge_iff_le, Int.not_lt, Int.not_le, Bool.not_eq_true, Bool.not_eq_false, Bool.and_eq_true, Bool.true_eq_false, Bool.false_eq_true, Bool.not_eq_eq_eq_not, Bool.not_true, Bool.not_false] at h
  have h1 := take_fn b hb (by omega)
  have h2 := rtake_fn b hb (by omega)
  cases ht : takeF b with
  | error e =>
    rw [ht] at h1 h2
    refine den_cal [.lst [], I64d e] rfl h1 rfl rfl ?_
    refine den_cal [.lst [], I64d e] rfl h2 rfl rfl ?_
    refine den_cal [.bool true] rfl (samef_true (a := []) (by simp) (by simp)) rfl rfl ?_
    refine den_t rfl (den_t (by simp only [E.den, cmpB_eql, cmpB_neq, cmpB_lss, cmpB_leq, cmpB_gtr, cmpB_geq, arI_add, arI_sub, arI_mul, arI_quo, arI_rem, D.toI, D.toB, D.toL, D.toS, D.len, D.mapL, List.map_cons, List.map_nil, List.getD_cons_zero, List.getD_cons_succ, List.cons_append, List.nil_append, flatD, List.append_nil, List.length_map, List.length_append, List.length_cons, List.length_nil, decide_eq_true_eq, decide_eq_false_iff_not, beq_iff_eq, beq_eq_false_iff_ne, bne_iff_ne, bne_eq_false_iff_eq, ne_eq, Int.toNat_natCast, gt_iff_lt, ge_iff_le, Int.not_lt, Int.not_le, Bool.not_eq_true, Bool.not_eq_false, Bool.and_eq_true, Bool.true_eq_false, Bool.false_eq_true, Bool.not_eq_eq_eq_not, Bool.not_true, Bool.not_false]) ?_)
    exact den_cal [.bool true] rfl ex_fn rfl rfl (den_ret rfl)
  | ok l =>
    rw [ht] at h1 h2
    obtain ⟨_, hlen, hx⟩ := put_take b.length 0 0 b l hb (by omega) (by omega) ht
    have hlen : l.length ≤ 256 := by
      cases l with
      | nil => simp
      | cons x l => have := hlen (by simp); omega
    refine den_cal [fsD l, I64d 0] rfl h1 rfl rfl ?_
    refine den_cal [fsD l, I64d 0] rfl h2 rfl rfl ?_
    refine den_cal [.bool true] rfl (samef_true (fun x hx' => (hx x hx').1) (by omega)) rfl rfl ?_
    refine den_t rfl (den_t rfl ?_)
    exact den_cal [.bool true] rfl ex_fn rfl rfl (den_ret rfl)

set_option maxRecDepth 100000 in
theorem fieldsTake_lifted (os : Os) (started : os.Started) (H : Type) (enc : TypeId × Value → H) :
    ReturnsInHanded {} Try.checked os 6 .any (Rows.fieldsTakeSpec.pre6 enc Try.prog Try.f6 Rows.fieldsTakeRow.domain false) (Rows.fieldsTakeSpec.post enc Try.prog Try.f6 false true false false) := by
  refine returnsInHanded_of_change (C := Try.checked) own started (by kernel_rfl) Try.func6
    (ChangeSpec.witness6 (enc := enc) (C := Try.checked) false ⟨#[], #[.slice none 0 0], []⟩ 8 (by kernel_rfl) (by kernel_rfl) (by kernel_rfl) (by kernel_rfl)) ?_
  intro W base args ds gs before hval0 hW hcnd _
  have hval : ∀ (j : Nat) t v, Try.f6.params[j]? = some t → args[j]? = some v → Value.okWide Try.prog W .any base t v := hval0
  obtain ⟨q, q', hA0, _, _, _, _⟩ := id hW
  have hA : DataW.TrodAll enc Try.prog W 0 (fun _ => true) true Try.f6.params.toList args.toList ds q := hA0
  have walk := law_walk (P := Try.prog) (f := 6) (fn := Try.f6) (fun p hp => by cases hp) (Ts := [tY]) (by kernel_rfl) law_all hval hA
  rw [Try.params6] at hA
  obtain ⟨v0, vs0, d0, ds0, p0, q0, hargs0, rfl, rfl, h0, r0⟩ := trodAll_cons hA
  obtain ⟨rfl, rfl, rfl⟩ := trodAll_nil r0
  refine walk.mono fun e W' ⟨he, hb⟩ => ?_
  subst he
  exact ⟨_, rfl, law_post (tb := 4) laidOut rfl (by kernel_rfl) rfl Try.underlying4 hW rfl hb⟩

theorem fieldsTake_holds : Rows.FieldsTakeSaid :=
  OpenClaim.holds_of_wide 6 Try.f6 rfl rfl rfl rfl rfl rfl rfl ⟨rfl, rfl, rfl, rfl, rfl⟩ rfl rfl rfl rfl rfl (by kernel_rfl) Try.func6 (by kernel_rfl)
    (of_decide_eq_true (by kernel_rfl)) (by unfold Func.isWrapper; first | (rw [if_pos (by decide +kernel)]; kernel_rfl) | (rw [if_neg (by decide +kernel)]; exact ⟨rfl, rfl⟩))
    (fun os started H enc _ => fieldsTake_lifted os started H enc)
#print axioms fieldsTake_holds
end Go.Proofs.Ytmdjbmpongggnaa
