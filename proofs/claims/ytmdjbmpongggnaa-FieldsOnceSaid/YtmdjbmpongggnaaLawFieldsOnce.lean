/-
  FieldsOnce: its walk and its row.
-/
import Derived.Test.YtmdjbmpongggnaaSy07g
set_option maxRecDepth 100000
set_option linter.unusedSimpArgs false
set_option linter.unusedVariables false
namespace Go.Proofs.Ytmdjbmpongggnaa
open Go.Proofs.Ytmdjbmpongggnaa.Sy Go.RowKit Go.WideShapes Go.ChangeShapes Go.ChangeAt
theorem takeInt_cases (b : List Int) : (∃ n, readS b = .ok (n, []) ∧ takeIntS b = (n, 0)) ∨ (takeIntS b).2 ≠ 0 := by
  unfold takeIntS
  cases hr : readS b with
  | error e =>
    right
    have := read_err hr
    simp only []
    omega
  | ok p =>
    obtain ⟨n, r⟩ := p
    simp only []
    by_cases h : r = []
    · subst h
      exact .inl ⟨n, rfl, by simp⟩
    · right
      rw [if_neg h]
      decide
theorem takeG_err : ∀ (f : Nat) (before : Int) (c : Nat) (b : List Int) (e : Int), takeG f before c b = .error e → e ≠ 0
  | 0, before, c, b, e, h => by cases h
  | f + 1, before, c, b, e, h => by
    simp only [takeG] at h
    split at h
    · cases h
    · split at h
      · cases h; decide
      · split at h
        · rename_i hr
          cases h
          have := read_err hr
          omega
        · split at h
          · cases h; decide
          · split at h
            · rename_i hd
              cases h
              have := data_err hd
              omega
            · rename_i t r _ _ _ d r2 _
              cases hp : takeG f t (c + 1) r2 with
              | error e2 => rw [hp] at h; cases h; exact takeG_err f t (c + 1) r2 e hp
              | ok l => rw [hp] at h; cases h
theorem takeF_err {b : List Int} {e : Int} (h : takeF b = .error e) : e ≠ 0 := takeG_err _ _ _ _ _ h
theorem takeN_err : ∀ (n : Nat) (b : List Int) (e : Int), takeN n b = .error e → e ≠ 0
  | 0, b, e, h => by cases h
  | n + 1, b, e, h => by
    simp only [takeN] at h
    split at h
    · rename_i hd
      cases h
      have := data_err hd
      omega
    · rename_i d r _
      cases hp : takeN n r with
      | error e2 => rw [hp] at h; cases h; exact takeN_err n r e hp
      | ok p => obtain ⟨l, r2⟩ := p; rw [hp] at h; cases h
theorem takeListS_err {b : List Int} {e : Int} (h : takeListS b = .error e) : e ≠ 0 := by
  unfold takeListS at h
  split at h
  · rename_i hr
    cases h
    have := read_err hr
    omega
  · split at h
    · cases h; decide
    · split at h
      · cases h; decide
      · split at h
        · rename_i hn; cases h; exact takeN_err _ _ _ hn
        · split at h
          · cases h
          · cases h; decide

set_option maxHeartbeats 4000000 in
theorem law_all (xs : List D) (h : TypTs [tY] xs) : Fun Try.prog [] 11 [tY] xs [.c .bool] (.ok [.bool true]) := by
  obtain ⟨d, _, rfl, h1, rfl⟩ := h
  obtain ⟨b, rfl, _, hb⟩ := typ_bytes h1
  have hb : isB b := hb
  refine lonce_ent _ _ ?_
  show vclonce.den _ _ _ _ _
  unfold vclonce
  refine den_ite (fun h => ?_) (fun h => ?_)
  · exact den_cal [.bool true] rfl ex_fn rfl rfl (den_ret rfl)
  simp only [E.den, cmpB_eql, cmpB_neq, cmpB_lss, cmpB_leq, cmpB_gtr, cmpB_geq, arI_add, arI_sub, arI_mul, arI_quo, arI_rem, D.toI, D.toB, D.toL, D.toS, D.len, D.mapL, List.map_cons, List.map_nil, List.getD_cons_zero, List.getD_cons_succ, List.cons_append, List.nil_append, flatD, List.append_nil, List.length_map, List.length_append, List.length_cons, List.length_nil, decide_eq_true_eq, decide_eq_false_iff_not, beq_iff_eq, beq_eq_false_iff_ne, bne_iff_ne, bne_eq_false_iff_eq, ne_eq, Int.toNat_natCast, gt_iff_lt, ge_iff_le, Int.not_lt, Int.not_le, Bool.not_eq_true, Bool.not_eq_false, Bool.and_eq_true, Bool.true_eq_false, Bool.false_eq_true, Bool.not_eq_eq_eq_not, Bool.not_true, Bool.not_false] at h
  have ht1 := takeint_fn b hb (by omega)
  have ht2 := take_fn b hb (by omega)
  have ht3 := takel_fn b hb (by omega)
  rcases takeInt_cases b with ⟨n, hr, hti⟩ | hti
  · have t1 : Fun Try.prog [] 13 [tY] [bD b] [tI, tI] (.ok [I64d n, I64d 0]) := fun_as ht1 (by simp [tiR, hti])
    obtain ⟨hbe, hn, _, _⟩ := put_read hb hr
    rw [List.append_nil] at hbe
    have p1 := putint_fn n hn
    rw [← hbe] at p1
    refine den_cal [I64d n, I64d 0] rfl t1 rfl rfl ?_
    refine den_t rfl ?_
    refine den_cal [bD b] rfl p1 rfl rfl ?_
    refine den_cal [.bool true] rfl (same_true hb) rfl rfl ?_
    refine den_t rfl ?_
    cases h22 : takeF b with
    | error e2 =>
      have t2 := ht2
      rw [h22] at t2
      refine den_cal [.lst [], I64d e2] rfl t2 rfl rfl ?_
      refine den_f (by simp only [E.den, cmpB_eql, cmpB_neq, cmpB_lss, cmpB_leq, cmpB_gtr, cmpB_geq, arI_add, arI_sub, arI_mul, arI_quo, arI_rem, D.toI, D.toB, D.toL, D.toS, D.len, D.mapL, List.map_cons, List.map_nil, List.getD_cons_zero, List.getD_cons_succ, List.cons_append, List.nil_append, flatD, List.append_nil, List.length_map, List.length_append, List.length_cons, List.length_nil, decide_eq_true_eq, decide_eq_false_iff_not, beq_iff_eq, beq_eq_false_iff_ne, bne_iff_ne, bne_eq_false_iff_eq, ne_eq, Int.toNat_natCast, gt_iff_lt, ge_iff_le, Int.not_lt, Int.not_le, Bool.not_eq_true, Bool.not_eq_false, Bool.and_eq_true, Bool.true_eq_false, Bool.false_eq_true, Bool.not_eq_eq_eq_not, Bool.not_true, Bool.not_false]; exact takeF_err h22) ?_
      cases h29 : takeListS b with
      | error e3 =>
        have t3 := ht3
        rw [h29] at t3
        refine den_cal [.lst [], I64d e3] rfl t3 rfl rfl ?_
        exact den_f (by simp only [E.den, cmpB_eql, cmpB_neq, cmpB_lss, cmpB_leq, cmpB_gtr, cmpB_geq, arI_add, arI_sub, arI_mul, arI_quo, arI_rem, D.toI, D.toB, D.toL, D.toS, D.len, D.mapL, List.map_cons, List.map_nil, List.getD_cons_zero, List.getD_cons_succ, List.cons_append, List.nil_append, flatD, List.append_nil, List.length_map, List.length_append, List.length_cons, List.length_nil, decide_eq_true_eq, decide_eq_false_iff_not, beq_iff_eq, beq_eq_false_iff_ne, bne_iff_ne, bne_eq_false_iff_eq, ne_eq, Int.toNat_natCast, gt_iff_lt, ge_iff_le, Int.not_lt, Int.not_le, Bool.not_eq_true, Bool.not_eq_false, Bool.and_eq_true, Bool.true_eq_false, Bool.false_eq_true, Bool.not_eq_eq_eq_not, Bool.not_true, Bool.not_false]; exact takeListS_err h29) (den_ret rfl)
      | ok l3 =>
        have t3 := ht3
        rw [h29] at t3
        obtain ⟨e29, hl29, hx29⟩ := put_takeList hb h29
        have p3 := putl_fn l3 (by omega) (fun x hx => by have := (hx29 x hx).2; omega)
        rw [putListS_in hl29, e29] at p3
        refine den_cal [bbD l3, I64d 0] rfl t3 rfl rfl ?_
        refine den_t rfl ?_
        refine den_cal [bD b, I64d 0] rfl p3 rfl rfl ?_
        refine den_t rfl ?_
        exact den_cal [.bool true] rfl (same_true hb) rfl rfl (den_ret rfl)
    | ok l2 =>
      have t2 := ht2
      rw [h22] at t2
      obtain ⟨hG, hlen, hx22⟩ := put_take b.length 0 0 b l2 hb (by omega) (by omega) h22
      have hlen : l2.length ≤ 256 := by
        cases l2 with
        | nil => simp
        | cons x l2 => have := hlen (by simp); omega
      have p2 := put_fn l2 (by omega) (fun x hx => by have := (hx22 x hx).2; omega)
      rw [putF_in hlen, hG] at p2
      refine den_cal [fsD l2, I64d 0] rfl t2 rfl rfl ?_
      refine den_t rfl ?_
      refine den_cal [bD b, I64d 0] rfl p2 rfl rfl ?_
      refine den_f rfl ?_
      refine den_cal [.bool true] rfl (same_true hb) rfl rfl ?_
      refine den_t rfl ?_
      cases h29 : takeListS b with
      | error e3 =>
        have t3 := ht3
        rw [h29] at t3
        refine den_cal [.lst [], I64d e3] rfl t3 rfl rfl ?_
        exact den_f (by simp only [E.den, cmpB_eql, cmpB_neq, cmpB_lss, cmpB_leq, cmpB_gtr, cmpB_geq, arI_add, arI_sub, arI_mul, arI_quo, arI_rem, D.toI, D.toB, D.toL, D.toS, D.len, D.mapL, List.map_cons, List.map_nil, List.getD_cons_zero, List.getD_cons_succ, List.cons_append, List.nil_append, flatD, List.append_nil, List.length_map, List.length_append, List.length_cons, List.length_nil, decide_eq_true_eq, decide_eq_false_iff_not, beq_iff_eq, beq_eq_false_iff_ne, bne_iff_ne, bne_eq_false_iff_eq, ne_eq, Int.toNat_natCast, gt_iff_lt, ge_iff_le, Int.not_lt, Int.not_le, Bool.not_eq_true, Bool.not_eq_false, Bool.and_eq_true, Bool.true_eq_false, Bool.false_eq_true, Bool.not_eq_eq_eq_not, Bool.not_true, Bool.not_false]; exact takeListS_err h29) (den_ret rfl)
      | ok l3 =>
        have t3 := ht3
        rw [h29] at t3
        obtain ⟨e29, hl29, hx29⟩ := put_takeList hb h29
        have p3 := putl_fn l3 (by omega) (fun x hx => by have := (hx29 x hx).2; omega)
        rw [putListS_in hl29, e29] at p3
        refine den_cal [bbD l3, I64d 0] rfl t3 rfl rfl ?_
        refine den_t rfl ?_
        refine den_cal [bD b, I64d 0] rfl p3 rfl rfl ?_
        refine den_t rfl ?_
        exact den_cal [.bool true] rfl (same_true hb) rfl rfl (den_ret rfl)
  · refine den_cal (tiR b) rfl ht1 rfl rfl ?_
    refine den_f (by unfold tiR; simp only [E.den, cmpB_eql, cmpB_neq, cmpB_lss, cmpB_leq, cmpB_gtr, cmpB_geq, arI_add, arI_sub, arI_mul, arI_quo, arI_rem, D.toI, D.toB, D.toL, D.toS, D.len, D.mapL, List.map_cons, List.map_nil, List.getD_cons_zero, List.getD_cons_succ, List.cons_append, List.nil_append, flatD, List.append_nil, List.length_map, List.length_append, List.length_cons, List.length_nil, decide_eq_true_eq, decide_eq_false_iff_not, beq_iff_eq, beq_eq_false_iff_ne, bne_iff_ne, bne_eq_false_iff_eq, ne_eq, Int.toNat_natCast, gt_iff_lt, ge_iff_le, Int.not_lt, Int.not_le, Bool.not_eq_true, Bool.not_eq_false, Bool.and_eq_true, Bool.true_eq_false, Bool.false_eq_true, Bool.not_eq_eq_eq_not, Bool.not_true, Bool.not_false]; exact hti) ?_
    cases h22 : takeF b with
    | error e2 =>
      have t2 := ht2
      rw [h22] at t2
      refine den_cal [.lst [], I64d e2] rfl t2 rfl rfl ?_
      refine den_f (by simp only [E.den, cmpB_eql, cmpB_neq, cmpB_lss, cmpB_leq, cmpB_gtr, cmpB_geq, arI_add, arI_sub, arI_mul, arI_quo, arI_rem, D.toI, D.toB, D.toL, D.toS, D.len, D.mapL, List.map_cons, List.map_nil, List.getD_cons_zero, List.getD_cons_succ, List.cons_append, List.nil_append, flatD, List.append_nil, List.length_map, List.length_append, List.length_cons, List.length_nil, decide_eq_true_eq, decide_eq_false_iff_not, beq_iff_eq, beq_eq_false_iff_ne, bne_iff_ne, bne_eq_false_iff_eq, ne_eq, Int.toNat_natCast, gt_iff_lt, ge_iff_le, Int.not_lt, Int.not_le, Bool.not_eq_true, Bool.not_eq_false, Bool.and_eq_true, Bool.true_eq_false, Bool.false_eq_true, Bool.not_eq_eq_eq_not, Bool.not_true, Bool.not_false]; exact takeF_err h22) ?_
      cases h29 : takeListS b with
      | error e3 =>
        have t3 := ht3
        rw [h29] at t3
        refine den_cal [.lst [], I64d e3] rfl t3 rfl rfl ?_
        exact den_f (by simp only [E.den, cmpB_eql, cmpB_neq, cmpB_lss, cmpB_leq, cmpB_gtr, cmpB_geq, arI_add, arI_sub, arI_mul, arI_quo, arI_rem, D.toI, D.toB, D.toL, D.toS, D.len, D.mapL, List.map_cons, List.map_nil, List.getD_cons_zero, List.getD_cons_succ, List.cons_append, List.nil_append, flatD, List.append_nil, List.length_map, List.length_append, List.length_cons, List.length_nil, decide_eq_true_eq, decide_eq_false_iff_not, beq_iff_eq, beq_eq_false_iff_ne, bne_iff_ne, bne_eq_false_iff_eq, ne_eq, Int.toNat_natCast, gt_iff_lt, ge_iff_le, Int.not_lt, Int.not_le, Bool.not_eq_true, Bool.not_eq_false, Bool.and_eq_true, Bool.true_eq_false, Bool.false_eq_true, Bool.not_eq_eq_eq_not, Bool.not_true, Bool.not_false]; exact takeListS_err h29) (den_ret rfl)
      | ok l3 =>
        have t3 := ht3
        rw [h29] at t3
        obtain ⟨e29, hl29, hx29⟩ := put_takeList hb h29
        have p3 := putl_fn l3 (by omega) (fun x hx => by have := (hx29 x hx).2; omega)
        rw [putListS_in hl29, e29] at p3
        refine den_cal [bbD l3, I64d 0] rfl t3 rfl rfl ?_
        refine den_t rfl ?_
        refine den_cal [bD b, I64d 0] rfl p3 rfl rfl ?_
        refine den_t rfl ?_
        exact den_cal [.bool true] rfl (same_true hb) rfl rfl (den_ret rfl)
    | ok l2 =>
      have t2 := ht2
      rw [h22] at t2
      obtain ⟨hG, hlen, hx22⟩ := put_take b.length 0 0 b l2 hb (by omega) (by omega) h22
      have hlen : l2.length ≤ 256 := by
        cases l2 with
        | nil => simp
        | cons x l2 => have := hlen (by simp); omega
      have p2 := put_fn l2 (by omega) (fun x hx => by have := (hx22 x hx).2; omega)
      rw [putF_in hlen, hG] at p2
      refine den_cal [fsD l2, I64d 0] rfl t2 rfl rfl ?_
      refine den_t rfl ?_
      refine den_cal [bD b, I64d 0] rfl p2 rfl rfl ?_
      refine den_f rfl ?_
      refine den_cal [.bool true] rfl (same_true hb) rfl rfl ?_
      refine den_t rfl ?_
      cases h29 : takeListS b with
      | error e3 =>
        have t3 := ht3
        rw [h29] at t3
        refine den_cal [.lst [], I64d e3] rfl t3 rfl rfl ?_
        exact den_f (by simp only [E.den, cmpB_eql, cmpB_neq, cmpB_lss, cmpB_leq, cmpB_gtr, cmpB_geq, arI_add, arI_sub, arI_mul, arI_quo, arI_rem, D.toI, D.toB, D.toL, D.toS, D.len, D.mapL, List.map_cons, List.map_nil, List.getD_cons_zero, List.getD_cons_succ, List.cons_append, List.nil_append, flatD, List.append_nil, List.length_map, List.length_append, List.length_cons, List.length_nil, decide_eq_true_eq, decide_eq_false_iff_not, beq_iff_eq, beq_eq_false_iff_ne, bne_iff_ne, bne_eq_false_iff_eq, ne_eq, Int.toNat_natCast, gt_iff_lt, ge_iff_le, Int.not_lt, Int.not_le, Bool.not_eq_true, Bool.not_eq_false, Bool.and_eq_true, Bool.true_eq_false, Bool.false_eq_true, Bool.not_eq_eq_eq_not, Bool.not_true, Bool.not_false]; exact takeListS_err h29) (den_ret rfl)
      | ok l3 =>
        have t3 := ht3
        rw [h29] at t3
        obtain ⟨e29, hl29, hx29⟩ := put_takeList hb h29
        have p3 := putl_fn l3 (by omega) (fun x hx => by have := (hx29 x hx).2; omega)
        rw [putListS_in hl29, e29] at p3
        refine den_cal [bbD l3, I64d 0] rfl t3 rfl rfl ?_
        refine den_t rfl ?_
        refine den_cal [bD b, I64d 0] rfl p3 rfl rfl ?_
        refine den_t rfl ?_
        exact den_cal [.bool true] rfl (same_true hb) rfl rfl (den_ret rfl)

set_option maxRecDepth 100000 in
theorem fieldsOnce_lifted (os : Os) (started : os.Started) (H : Type) (enc : TypeId × Value → H) :
    ReturnsInHanded {} Try.checked os 11 .any (Rows.fieldsOnceSpec.pre6 enc Try.prog Try.f11 Rows.fieldsOnceRow.domain false) (Rows.fieldsOnceSpec.post enc Try.prog Try.f11 false true false false) := by
  refine returnsInHanded_of_change (C := Try.checked) own started (by kernel_rfl) Try.func11
    (ChangeSpec.witness6 (enc := enc) (C := Try.checked) false ⟨#[], #[.slice none 0 0], []⟩ 8 (by kernel_rfl) (by kernel_rfl) (by kernel_rfl) (by kernel_rfl)) ?_
  intro W base args ds gs before hval0 hW hcnd _
  have hval : ∀ (j : Nat) t v, Try.f11.params[j]? = some t → args[j]? = some v → Value.okWide Try.prog W .any base t v := hval0
  obtain ⟨q, q', hA0, _, _, _, _⟩ := id hW
  have hA : DataW.TrodAll enc Try.prog W 0 (fun _ => true) true Try.f11.params.toList args.toList ds q := hA0
  have walk := law_walk (P := Try.prog) (f := 11) (fn := Try.f11) (fun p hp => by cases hp) (Ts := [tY]) (by kernel_rfl) law_all hval hA
  rw [Try.params11] at hA
  obtain ⟨v0, vs0, d0, ds0, p0, q0, hargs0, rfl, rfl, h0, r0⟩ := trodAll_cons hA
  obtain ⟨rfl, rfl, rfl⟩ := trodAll_nil r0
  refine walk.mono fun e W' ⟨he, hb⟩ => ?_
  subst he
  exact ⟨_, rfl, law_post (tb := 4) laidOut rfl (by kernel_rfl) rfl Try.underlying4 hW rfl hb⟩

theorem fieldsOnce_holds : Rows.FieldsOnceSaid :=
  OpenClaim.holds_of_wide 11 Try.f11 rfl rfl rfl rfl rfl rfl rfl ⟨rfl, rfl, rfl, rfl, rfl⟩ rfl rfl rfl rfl rfl (by kernel_rfl) Try.func11 (by kernel_rfl)
    (of_decide_eq_true (by kernel_rfl)) (by unfold Func.isWrapper; first | (rw [if_pos (by decide +kernel)]; kernel_rfl) | (rw [if_neg (by decide +kernel)]; exact ⟨rfl, rfl⟩))
    (fun os started H enc _ => fieldsOnce_lifted os started H enc)
#print axioms fieldsOnce_holds
end Go.Proofs.Ytmdjbmpongggnaa
