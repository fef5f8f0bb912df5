/-
  FieldsBack: its walk and its row.
-/
import Derived.Test.YtmdjbmpongggnaaSy07g
set_option maxRecDepth 100000
set_option linter.unusedSimpArgs false
set_option linter.unusedVariables false
namespace Go.Proofs.Ytmdjbmpongggnaa
open Go.Proofs.Ytmdjbmpongggnaa.Sy Go.RowKit Go.WideShapes Go.ChangeShapes Go.ChangeAt
theorem putListS_err {l : List (List Int)} {e : Int} (h : putListS l = .error e) : e = 3 ∧ 256 < l.length := by
  unfold putListS at h
  split at h
  · rename_i hl
    cases h
    exact ⟨rfl, hl⟩
  · cases h
theorem putG_err : ∀ (l : List Fld) (before e : Int), putG before l = .error e → e ≠ 0
  | [], before, e, h => by cases h
  | (t, d) :: l, before, e, h => by
    simp only [putG] at h
    split at h
    · cases h; decide
    · split at h
      · cases h; decide
      · cases hp : putG t l with
        | error e2 => rw [hp] at h; cases h; exact putG_err l t e hp
        | ok b => rw [hp] at h; cases h
theorem putF_err {l : List Fld} {e : Int} (h : putF l = .error e) : e ≠ 0 := by
  unfold putF at h
  split at h
  · cases h; decide
  · exact putG_err l 0 e h

set_option maxHeartbeats 4000000 in
theorem law_all (xs : List D) (h : TypTs [tF, tYY] xs) : Fun Try.prog [] 10 [tF, tYY] xs [.c .bool] (.ok [.bool true]) := by
  obtain ⟨d, _, rfl, h1, _, _, rfl, h2, rfl⟩ := h
  obtain ⟨l, rfl, hlm, hl⟩ := typ_fields h1
  have hbig : ∀ x ∈ datsF l, x.length ≤ 9223372036854775807 := fun x hx => by
    obtain ⟨y, hy, rfl⟩ := List.mem_map.1 (List.mem_of_mem_take hx)
    exact len_max (hl y hy).2.2
  obtain ⟨m, rfl, hmm, hm⟩ := typ_byteses h2
  have hm : ∀ b ∈ m, b.length ≤ maxLen ∧ isB b := hm
  refine lback_ent _ _ ?_
  show vclback.den _ _ _ _ _
  unfold vclback
  refine den_cal [bbD (datsF l)] rfl (data_fn l (len_max hlm)) rfl rfl ?_
  refine den_cal [.bool (bigF (datsF l))] rfl (big_fn (datsF l) (by simp [datsF]; omega) hbig) rfl rfl ?_
  (try simp only [List.cons_append, List.nil_append])
  refine den_ite (fun _ => ?_) (fun hbf => ?_)
  · exact den_cal [.bool true] rfl ex_fn rfl rfl (den_ret rfl)
  simp only [E.den, cmpB_eql, cmpB_neq, cmpB_lss, cmpB_leq, cmpB_gtr, cmpB_geq, arI_add, arI_sub, arI_mul, arI_quo, arI_rem, D.toI, D.toB, D.toL, D.toS, D.len, D.mapL, List.map_cons, List.map_nil, List.getD_cons_zero, List.getD_cons_succ, List.cons_append, List.nil_append, flatD, List.append_nil, List.length_map, List.length_append, List.length_cons, List.length_nil, decide_eq_true_eq, decide_eq_false_iff_not, beq_iff_eq, beq_eq_false_iff_ne, bne_iff_ne, bne_eq_false_iff_eq, ne_eq, Int.toNat_natCast, gt_iff_lt, ge_iff_le, Int.not_lt, Int.not_le, Bool.not_eq_true, Bool.not_eq_false, Bool.and_eq_true, Bool.true_eq_false, Bool.false_eq_true, Bool.not_eq_eq_eq_not, Bool.not_true, Bool.not_false] at hbf
  obtain ⟨hl3, hs6⟩ := datsF_no hbf
  have hs : ∀ x ∈ l, x.2.length ≤ 1000000 := fun x hx => by have := hs6 x hx; omega
  refine den_cal [.bool (bigF m)] rfl (big_fn m (len_max hmm) (fun x hx => len_max (hm x hx).1)) rfl rfl ?_
  (try simp only [List.cons_append, List.nil_append])
  refine den_ite (fun _ => ?_) (fun hbm => ?_)
  · exact den_cal [.bool true] rfl ex_fn rfl rfl (den_ret rfl)
  simp only [E.den, cmpB_eql, cmpB_neq, cmpB_lss, cmpB_leq, cmpB_gtr, cmpB_geq, arI_add, arI_sub, arI_mul, arI_quo, arI_rem, D.toI, D.toB, D.toL, D.toS, D.len, D.mapL, List.map_cons, List.map_nil, List.getD_cons_zero, List.getD_cons_succ, List.cons_append, List.nil_append, flatD, List.append_nil, List.length_map, List.length_append, List.length_cons, List.length_nil, decide_eq_true_eq, decide_eq_false_iff_not, beq_iff_eq, beq_eq_false_iff_ne, bne_iff_ne, bne_eq_false_iff_eq, ne_eq, Int.toNat_natCast, gt_iff_lt, ge_iff_le, Int.not_lt, Int.not_le, Bool.not_eq_true, Bool.not_eq_false, Bool.and_eq_true, Bool.true_eq_false, Bool.false_eq_true, Bool.not_eq_eq_eq_not, Bool.not_true, Bool.not_false] at hbm
  obtain ⟨hm3, hm6, _⟩ := bigF_no hbm
  have hms : ∀ x ∈ m, x.length ≤ 1000000 := fun x hx => by have := hm6 x hx; omega
  have hp1 := putl_fn m (by omega) hms
  have g1 := put_fn l (by omega) hs
  cases hp : putF l with
  | error e =>
    rw [hp] at g1
    have he := putF_err hp
    refine den_cal [bD [], I64d e] rfl g1 rfl rfl ?_
    refine den_f (by simp only [E.den, cmpB_eql, cmpB_neq, cmpB_lss, cmpB_leq, cmpB_gtr, cmpB_geq, arI_add, arI_sub, arI_mul, arI_quo, arI_rem, D.toI, D.toB, D.toL, D.toS, D.len, D.mapL, List.map_cons, List.map_nil, List.getD_cons_zero, List.getD_cons_succ, List.cons_append, List.nil_append, flatD, List.append_nil, List.length_map, List.length_append, List.length_cons, List.length_nil, decide_eq_true_eq, decide_eq_false_iff_not, beq_iff_eq, beq_eq_false_iff_ne, bne_iff_ne, bne_eq_false_iff_eq, ne_eq, Int.toNat_natCast, gt_iff_lt, ge_iff_le, Int.not_lt, Int.not_le, Bool.not_eq_true, Bool.not_eq_false, Bool.and_eq_true, Bool.true_eq_false, Bool.false_eq_true, Bool.not_eq_eq_eq_not, Bool.not_true, Bool.not_false]; exact he) ?_
    cases hq : putListS m with
    | error e3 =>
      have p1 := hp1
      rw [hq] at p1
      obtain ⟨rfl, hm256⟩ := putListS_err hq
      refine den_cal [bD [], I64d 3] rfl p1 rfl rfl ?_
      refine den_t rfl (den_t rfl (den_ret ?_))
      simp only [E.den, cmpB_eql, cmpB_neq, cmpB_lss, cmpB_leq, cmpB_gtr, cmpB_geq, arI_add, arI_sub, arI_mul, arI_quo, arI_rem, D.toI, D.toB, D.toL, D.toS, D.len, D.mapL, List.map_cons, List.map_nil, List.getD_cons_zero, List.getD_cons_succ, List.cons_append, List.nil_append, flatD, List.append_nil, List.length_map, List.length_append, List.length_cons, List.length_nil, decide_eq_true_eq, decide_eq_false_iff_not, beq_iff_eq, beq_eq_false_iff_ne, bne_iff_ne, bne_eq_false_iff_eq, ne_eq, Int.toNat_natCast, gt_iff_lt, ge_iff_le, Int.not_lt, Int.not_le, Bool.not_eq_true, Bool.not_eq_false, Bool.and_eq_true, Bool.true_eq_false, Bool.false_eq_true, Bool.not_eq_eq_eq_not, Bool.not_true, Bool.not_false]
      simp
      omega
    | ok b2 =>
      have p1 := hp1
      rw [hq] at p1
      obtain ⟨hB2, hl2, rfl, hm256⟩ := putListS_isB (fun x hx => (hm x hx).2) hms hq
      have t1 := takel_fn (putL m) hB2 (by omega)
      rw [takeList_put hm256 (fun x hx => by have := hms x hx; omega)] at t1
      refine den_cal [bD (putL m), I64d 0] rfl p1 rfl rfl ?_
      refine den_f rfl ?_
      refine den_cal [bbD m, I64d 0] rfl t1 rfl rfl ?_
      refine den_t rfl ?_
      exact den_cal [.bool true] rfl (samel_true (fun x hx => (hm x hx).2) (by omega)) rfl rfl (den_ret rfl)
  | ok b =>
    rw [hp] at g1
    obtain ⟨hB, hbl, hG, hl256⟩ := putF_isB (fun x hx => (hl x hx).2.1) hs hp
    have t2 := take_fn b hB (by omega)
    have hT : takeF b = .ok l := take_put l b.length 0 0 b (fun x hx => by have := hs x hx; omega) hG (Nat.le_refl _) (by omega)
    rw [hT] at t2
    refine den_cal [bD b, I64d 0] rfl g1 rfl rfl ?_
    refine den_t rfl ?_
    refine den_cal [fsD l, I64d 0] rfl t2 rfl rfl ?_
    refine den_f rfl ?_
    refine den_cal [.bool true] rfl (samef_true (fun x hx => (hl x hx).2.1) (by omega)) rfl rfl ?_
    refine den_t rfl ?_
    cases hq : putListS m with
    | error e3 =>
      have p1 := hp1
      rw [hq] at p1
      obtain ⟨rfl, hm256⟩ := putListS_err hq
      refine den_cal [bD [], I64d 3] rfl p1 rfl rfl ?_
      refine den_t rfl (den_t rfl (den_ret ?_))
      simp only [E.den, cmpB_eql, cmpB_neq, cmpB_lss, cmpB_leq, cmpB_gtr, cmpB_geq, arI_add, arI_sub, arI_mul, arI_quo, arI_rem, D.toI, D.toB, D.toL, D.toS, D.len, D.mapL, List.map_cons, List.map_nil, List.getD_cons_zero, List.getD_cons_succ, List.cons_append, List.nil_append, flatD, List.append_nil, List.length_map, List.length_append, List.length_cons, List.length_nil, decide_eq_true_eq, decide_eq_false_iff_not, beq_iff_eq, beq_eq_false_iff_ne, bne_iff_ne, bne_eq_false_iff_eq, ne_eq, Int.toNat_natCast, gt_iff_lt, ge_iff_le, Int.not_lt, Int.not_le, Bool.not_eq_true, Bool.not_eq_false, Bool.and_eq_true, Bool.true_eq_false, Bool.false_eq_true, Bool.not_eq_eq_eq_not, Bool.not_true, Bool.not_false]
      simp
      omega
    | ok b2 =>
      have p1 := hp1
      rw [hq] at p1
      obtain ⟨hB2, hl2, rfl, hm256⟩ := putListS_isB (fun x hx => (hm x hx).2) hms hq
      have t1 := takel_fn (putL m) hB2 (by omega)
      rw [takeList_put hm256 (fun x hx => by have := hms x hx; omega)] at t1
      refine den_cal [bD (putL m), I64d 0] rfl p1 rfl rfl ?_
      refine den_f rfl ?_
      refine den_cal [bbD m, I64d 0] rfl t1 rfl rfl ?_
      refine den_t rfl ?_
      exact den_cal [.bool true] rfl (samel_true (fun x hx => (hm x hx).2) (by omega)) rfl rfl (den_ret rfl)

set_option maxRecDepth 100000 in
theorem fieldsBack_lifted (os : Os) (started : os.Started) (H : Type) (enc : TypeId × Value → H) :
    ReturnsInHanded {} Try.checked os 10 .any (Rows.fieldsBackSpec.pre6 enc Try.prog Try.f10 Rows.fieldsBackRow.domain false) (Rows.fieldsBackSpec.post enc Try.prog Try.f10 false true false false) := by
  refine returnsInHanded_of_change (C := Try.checked) own started (by kernel_rfl) Try.func10
    (ChangeSpec.witness6 (enc := enc) (C := Try.checked) false ⟨#[], #[.slice none 0 0, .slice none 0 0], []⟩ 8 (by kernel_rfl) (by kernel_rfl) (by kernel_rfl) (by kernel_rfl)) ?_
  intro W base args ds gs before hval0 hW hcnd _
  have hval : ∀ (j : Nat) t v, Try.f10.params[j]? = some t → args[j]? = some v → Value.okWide Try.prog W .any base t v := hval0
  obtain ⟨q, q', hA0, _, _, _, _⟩ := id hW
  have hA : DataW.TrodAll enc Try.prog W 0 (fun _ => true) true Try.f10.params.toList args.toList ds q := hA0
  have walk := law_walk (P := Try.prog) (f := 10) (fn := Try.f10) (fun p hp => by cases hp) (Ts := [tF, tYY]) (by kernel_rfl) law_all hval hA
  rw [Try.params10] at hA
  obtain ⟨v0, vs0, d0, ds0, p0, q0, hargs0, rfl, rfl, h0, r0⟩ := trodAll_cons hA
  obtain ⟨v1, vs1, d1, ds1, p1, q1, hargs1, rfl, rfl, h1, r1⟩ := trodAll_cons r0
  subst hargs1
  obtain ⟨rfl, rfl, rfl⟩ := trodAll_nil r1
  refine walk.mono fun e W' ⟨he, hb⟩ => ?_
  subst he
  exact ⟨_, rfl, law_post (tb := 4) laidOut rfl (by kernel_rfl) rfl Try.underlying4 hW rfl hb⟩

theorem fieldsBack_holds : Rows.FieldsBackSaid :=
  OpenClaim.holds_of_wide 10 Try.f10 rfl rfl rfl rfl rfl rfl rfl ⟨rfl, rfl, rfl, rfl, rfl⟩ rfl rfl rfl rfl rfl (by kernel_rfl) Try.func10 (by kernel_rfl)
    (of_decide_eq_true (by kernel_rfl)) (by unfold Func.isWrapper; first | (rw [if_pos (by decide +kernel)]; kernel_rfl) | (rw [if_neg (by decide +kernel)]; exact ⟨rfl, rfl⟩))
    (fun os started H enc _ => fieldsBack_lifted os started H enc)
#print axioms fieldsBack_holds
end Go.Proofs.Ytmdjbmpongggnaa
