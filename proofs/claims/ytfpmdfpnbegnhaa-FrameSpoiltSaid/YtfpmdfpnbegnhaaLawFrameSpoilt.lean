/-
  FrameSpoilt: its walk and its row.
-/
import Derived.Test.YtfpmdfpnbegnhaaSy06f
set_option maxRecDepth 100000
set_option linter.unusedSimpArgs false
set_option linter.unusedVariables false
namespace Go.Proofs.Ytfpmdfpnbegnhaa
open Go.Proofs.Ytfpmdfpnbegnhaa.Sy Go.RowKit Go.WideShapes Go.ChangeShapes Go.ChangeAt

set_option maxHeartbeats 4000000 in
theorem law_all (xs : List D) (h : TypTs [tY, .c (.int .u8), .c (.int .u8)] xs) : Fun Try.prog [] 9 [tY, .c (.int .u8), .c (.int .u8)] xs [.c .bool] (.ok [.bool true]) := by
  obtain ⟨d, _, rfl, h1, _, _, rfl, h2, _, _, rfl, h3, rfl⟩ := h
  obtain ⟨b, rfl, _, hb⟩ := typ_bytes h1
  obtain ⟨a, rfl, ha0, ha1⟩ := typ_u8 h2
  obtain ⟨y, rfl, hy0, hy1⟩ := typ_u8 h3
  have hb : inB b := hb
  refine lspoilt_ent _ _ ?_
  show vclspoilt.den _ _ _ _ _
  unfold vclspoilt
  simp only [E.den, cmpB_eql, cmpB_neq, cmpB_lss, cmpB_leq, cmpB_gtr, cmpB_geq, arI_add, arI_sub, arI_mul, arI_quo, arI_rem, D.toI, D.toB, D.toL, D.toS, D.len, D.mapL, List.map_cons, List.map_nil, List.getD_cons_zero, List.getD_cons_succ, List.cons_append, List.nil_append, flatD, List.append_nil, List.length_map, List.length_append, List.length_cons, List.length_nil, decide_eq_true_eq, decide_eq_false_iff_not, beq_iff_eq, beq_eq_false_iff_ne, bne_iff_ne, bne_eq_false_iff_eq, ne_eq, Int.toNat_natCast, gt_iff_lt, ge_iff_le, Int.not_lt, Int.not_le, Bool.not_eq_true, Bool.not_eq_false, Bool.and_eq_true, Bool.true_eq_false, Bool.false_eq_true, Bool.not_eq_eq_eq_not, Bool.not_true, Bool.not_false]
  refine den_ite (fun h => ?_) (fun h => ?_)
  · exact den_cal [.bool true] rfl awake_fn rfl rfl (den_ret rfl)
  simp only [E.den, cmpB_eql, cmpB_neq, cmpB_lss, cmpB_leq, cmpB_gtr, cmpB_geq, arI_add, arI_sub, arI_mul, arI_quo, arI_rem, D.toI, D.toB, D.toL, D.toS, D.len, D.mapL, List.map_cons, List.map_nil, List.getD_cons_zero, List.getD_cons_succ, List.cons_append, List.nil_append, flatD, List.append_nil, List.length_map, List.length_append, List.length_cons, List.length_nil, decide_eq_true_eq, decide_eq_false_iff_not, beq_iff_eq, beq_eq_false_iff_ne, bne_iff_ne, bne_eq_false_iff_eq, ne_eq, Int.toNat_natCast, gt_iff_lt, ge_iff_le, Int.not_lt, Int.not_le, Bool.not_eq_true, Bool.not_eq_false, Bool.and_eq_true, Bool.true_eq_false, Bool.false_eq_true, Bool.not_eq_eq_eq_not, Bool.not_true, Bool.not_false] at h
  refine den_ite (fun h2 => ?_) (fun h2 => ?_)
  · exact den_cal [.bool true] rfl awake_fn rfl rfl (den_ret rfl)
  simp only [E.den, cmpB_eql, cmpB_neq, cmpB_lss, cmpB_leq, cmpB_gtr, cmpB_geq, arI_add, arI_sub, arI_mul, arI_quo, arI_rem, D.toI, D.toB, D.toL, D.toS, D.len, D.mapL, List.map_cons, List.map_nil, List.getD_cons_zero, List.getD_cons_succ, List.cons_append, List.nil_append, flatD, List.append_nil, List.length_map, List.length_append, List.length_cons, List.length_nil, decide_eq_true_eq, decide_eq_false_iff_not, beq_iff_eq, beq_eq_false_iff_ne, bne_iff_ne, bne_eq_false_iff_eq, ne_eq, Int.toNat_natCast, gt_iff_lt, ge_iff_le, Int.not_lt, Int.not_le, Bool.not_eq_true, Bool.not_eq_false, Bool.and_eq_true, Bool.true_eq_false, Bool.false_eq_true, Bool.not_eq_eq_eq_not, Bool.not_true, Bool.not_false] at h2
  have hl : b.length ≤ 200 := by omega
  refine den_ite (fun h3 => ?_) (fun hy => ?_)
  · exact den_cal [.bool true] rfl awake_fn rfl rfl (den_ret rfl)
  simp only [E.den, cmpB_eql, cmpB_neq, cmpB_lss, cmpB_leq, cmpB_gtr, cmpB_geq, arI_add, arI_sub, arI_mul, arI_quo, arI_rem, D.toI, D.toB, D.toL, D.toS, D.len, D.mapL, List.map_cons, List.map_nil, List.getD_cons_zero, List.getD_cons_succ, List.cons_append, List.nil_append, flatD, List.append_nil, List.length_map, List.length_append, List.length_cons, List.length_nil, decide_eq_true_eq, decide_eq_false_iff_not, beq_iff_eq, beq_eq_false_iff_ne, bne_iff_ne, bne_eq_false_iff_eq, ne_eq, Int.toNat_natCast, gt_iff_lt, ge_iff_le, Int.not_lt, Int.not_le, Bool.not_eq_true, Bool.not_eq_false, Bool.and_eq_true, Bool.true_eq_false, Bool.false_eq_true, Bool.not_eq_eq_eq_not, Bool.not_true, Bool.not_false] at hy
  have hp : 0 < b.length := by omega
  have hk : a.toNat % b.length < b.length := Nat.mod_lt _ hp
  have hrem := at_rem ha0 (by omega) hp
  have hset := set_byte hk hb hy0 hy1
  have hx := xor_rng8 (hb.get hk).1 (hb.get hk).2 hy0 hy1
  have hcB := hb.set (k := a.toNat % b.length) hx.1 hx.2
  have hcl : (b.set (a.toNat % b.length) (xorI (b.getD (a.toNat % b.length) 0) y)).length = b.length := List.length_set
  have hne := sum_set hb hk hx.1 hx.2 (xor_ne (hb.get hk).1 hy0 hy)
  have hgk := get_U hk
  generalize b.set (a.toNat % b.length) (xorI (b.getD (a.toNat % b.length) 0) y) = c at *
  repeat (refine den_ev ?_; (repeat (refine evs_ob (by simp only [E.den, cmpB_eql, cmpB_neq, cmpB_lss, cmpB_leq, cmpB_gtr, cmpB_geq, arI_add, arI_sub, arI_mul, arI_quo, arI_rem, D.toI, D.toB, D.toL, D.toS, D.len, D.mapL, List.map_cons, List.map_nil, List.getD_cons_zero, List.getD_cons_succ, List.cons_append, List.nil_append, flatD, List.append_nil, List.length_map, List.length_append, List.length_cons, List.length_nil, decide_eq_true_eq, decide_eq_false_iff_not, beq_iff_eq, beq_eq_false_iff_ne, bne_iff_ne, bne_eq_false_iff_eq, ne_eq, Int.toNat_natCast, gt_iff_lt, ge_iff_le, Int.not_lt, Int.not_le, Bool.not_eq_true, Bool.not_eq_false, Bool.and_eq_true, Bool.true_eq_false, Bool.false_eq_true, Bool.not_eq_eq_eq_not, Bool.not_true, Bool.not_false]; (try rw [hrem]); omega) ?_)); refine evs_nil ?_)
  have hsr := sumS_rng hb
  refine den_cal [I64d (sumS b)] rfl (rsum_fn b hb (by omega)) rfl rfl ?_
  (try simp only [List.cons_append, List.nil_append])
  refine den_cal [bD (withSum c (sumS b))] rfl (content_fn c (sumS b) (by omega) hsr.1 hsr.2) (by simp only [E.den, cmpB_eql, cmpB_neq, cmpB_lss, cmpB_leq, cmpB_gtr, cmpB_geq, arI_add, arI_sub, arI_mul, arI_quo, arI_rem, D.toI, D.toB, D.toL, D.toS, D.len, D.mapL, List.map_cons, List.map_nil, List.getD_cons_zero, List.getD_cons_succ, List.cons_append, List.nil_append, flatD, List.append_nil, List.length_map, List.length_append, List.length_cons, List.length_nil, decide_eq_true_eq, decide_eq_false_iff_not, beq_iff_eq, beq_eq_false_iff_ne, bne_iff_ne, bne_eq_false_iff_eq, ne_eq, Int.toNat_natCast, gt_iff_lt, ge_iff_le, Int.not_lt, Int.not_le, Bool.not_eq_true, Bool.not_eq_false, Bool.and_eq_true, Bool.true_eq_false, Bool.false_eq_true, Bool.not_eq_eq_eq_not, Bool.not_true, Bool.not_false]; rw [hrem, Int.toNat_natCast, hgk]; simp only [E.den, cmpB_eql, cmpB_neq, cmpB_lss, cmpB_leq, cmpB_gtr, cmpB_geq, arI_add, arI_sub, arI_mul, arI_quo, arI_rem, D.toI, D.toB, D.toL, D.toS, D.len, D.mapL, List.map_cons, List.map_nil, List.getD_cons_zero, List.getD_cons_succ, List.cons_append, List.nil_append, flatD, List.append_nil, List.length_map, List.length_append, List.length_cons, List.length_nil, decide_eq_true_eq, decide_eq_false_iff_not, beq_iff_eq, beq_eq_false_iff_ne, bne_iff_ne, bne_eq_false_iff_eq, ne_eq, Int.toNat_natCast, gt_iff_lt, ge_iff_le, Int.not_lt, Int.not_le, Bool.not_eq_true, Bool.not_eq_false, Bool.and_eq_true, Bool.true_eq_false, Bool.false_eq_true, Bool.not_eq_eq_eq_not, Bool.not_true, Bool.not_false]; rw [hset]) rfl ?_
  (try simp only [List.cons_append, List.nil_append])
  refine den_cal [bD (stuffS (withSum c (sumS b)))] rfl (stuff_fn _ (by rw [withSum_len]; omega)) rfl rfl ?_
  (try simp only [List.cons_append, List.nil_append])
  have hsB := stuff_inB (withSum_inB hcB hsr.1 hsr.2)
  have hsl := stuff_len (withSum c (sumS b))
  rw [withSum_len] at hsl
  have hun := unpack_stuff c (sumS b)
  rw [if_neg (by omega), if_pos (fun e => hne e.symm)] at hun
  have hu := unpack_fn _ hsB (by omega)
  rw [hun] at hu
  refine den_cal [bD [], I64d 7] rfl hu rfl rfl ?_
  have hff := feed_fn [] _ (fun x hx => by cases hx) hsB (by simp; omega)
  rw [List.nil_append] at hff
  have e2 : (feedS (stuffS (withSum c (sumS b)))).2 = [] := by
    simp only [feedS, stuffS, List.foldl_cons, List.foldl_append, List.foldl_nil]
    rw [show scan1 (none, []) 192 = (some [192], []) by simp [scan1], fold_quiet _ _ _ (esc_no _)]
    simp only [scan1, if_true, Option.map_some]
    rw [show [192] ++ List.flatMap esc (withSum c (sumS b)) ++ [192] = stuffS (withSum c (sumS b)) by simp [stuffS], hun]
  rw [e2] at hff
  refine den_cal [bD (feedS (stuffS (withSum c (sumS b)))).1, bbD []] rfl hff rfl rfl ?_
  (try simp only [List.cons_append, List.nil_append])
  refine den_ite (fun _ => ?_) (fun h => by simp only [E.den, cmpB_eql, cmpB_neq, cmpB_lss, cmpB_leq, cmpB_gtr, cmpB_geq, arI_add, arI_sub, arI_mul, arI_quo, arI_rem, D.toI, D.toB, D.toL, D.toS, D.len, D.mapL, List.map_cons, List.map_nil, List.getD_cons_zero, List.getD_cons_succ, List.cons_append, List.nil_append, flatD, List.append_nil, List.length_map, List.length_append, List.length_cons, List.length_nil, decide_eq_true_eq, decide_eq_false_iff_not, beq_iff_eq, beq_eq_false_iff_ne, bne_iff_ne, bne_eq_false_iff_eq, ne_eq, Int.toNat_natCast, gt_iff_lt, ge_iff_le, Int.not_lt, Int.not_le, Bool.not_eq_true, Bool.not_eq_false, Bool.and_eq_true, Bool.true_eq_false, Bool.false_eq_true, Bool.not_eq_eq_eq_not, Bool.not_true, Bool.not_false] at h; simp at h)
  refine den_ite (fun _ => ?_) (fun h => by simp only [E.den, cmpB_eql, cmpB_neq, cmpB_lss, cmpB_leq, cmpB_gtr, cmpB_geq, arI_add, arI_sub, arI_mul, arI_quo, arI_rem, D.toI, D.toB, D.toL, D.toS, D.len, D.mapL, List.map_cons, List.map_nil, List.getD_cons_zero, List.getD_cons_succ, List.cons_append, List.nil_append, flatD, List.append_nil, List.length_map, List.length_append, List.length_cons, List.length_nil, decide_eq_true_eq, decide_eq_false_iff_not, beq_iff_eq, beq_eq_false_iff_ne, bne_iff_ne, bne_eq_false_iff_eq, ne_eq, Int.toNat_natCast, gt_iff_lt, ge_iff_le, Int.not_lt, Int.not_le, Bool.not_eq_true, Bool.not_eq_false, Bool.and_eq_true, Bool.true_eq_false, Bool.false_eq_true, Bool.not_eq_eq_eq_not, Bool.not_true, Bool.not_false] at h; simp at h)
  refine den_ite (fun _ => ?_) (fun h => by simp only [E.den, cmpB_eql, cmpB_neq, cmpB_lss, cmpB_leq, cmpB_gtr, cmpB_geq, arI_add, arI_sub, arI_mul, arI_quo, arI_rem, D.toI, D.toB, D.toL, D.toS, D.len, D.mapL, List.map_cons, List.map_nil, List.getD_cons_zero, List.getD_cons_succ, List.cons_append, List.nil_append, flatD, List.append_nil, List.length_map, List.length_append, List.length_cons, List.length_nil, decide_eq_true_eq, decide_eq_false_iff_not, beq_iff_eq, beq_eq_false_iff_ne, bne_iff_ne, bne_eq_false_iff_eq, ne_eq, Int.toNat_natCast, gt_iff_lt, ge_iff_le, Int.not_lt, Int.not_le, Bool.not_eq_true, Bool.not_eq_false, Bool.and_eq_true, Bool.true_eq_false, Bool.false_eq_true, Bool.not_eq_eq_eq_not, Bool.not_true, Bool.not_false] at h; simp at h)
  exact den_cal [.bool true] rfl awake_fn rfl rfl (den_ret rfl)

set_option maxRecDepth 100000 in
theorem frameSpoilt_lifted (os : Os) (started : os.Started) (H : Type) (enc : TypeId × Value → H) :
    ReturnsInHanded {} Try.checked os 9 .any (Rows.frameSpoiltSpec.pre6 enc Try.prog Try.f9 Rows.frameSpoiltRow.domain false) (Rows.frameSpoiltSpec.post enc Try.prog Try.f9 false true false false) := by
  refine returnsInHanded_of_change (C := Try.checked) own started (by kernel_rfl) Try.func9
    (ChangeSpec.witness6 (enc := enc) (C := Try.checked) false ⟨#[], #[.slice none 0 0, .int .u8 0, .int .u8 0], []⟩ 8 (by kernel_rfl) (by kernel_rfl) (by kernel_rfl) (by kernel_rfl)) ?_
  intro W base args ds gs before hval0 hW hcnd _
  have hval : ∀ (j : Nat) t v, Try.f9.params[j]? = some t → args[j]? = some v → Value.okWide Try.prog W .any base t v := hval0
  obtain ⟨q, q', hA0, _, _, _, _⟩ := id hW
  have hA : DataW.TrodAll enc Try.prog W 0 (fun _ => true) true Try.f9.params.toList args.toList ds q := hA0
  have walk := law_walk (P := Try.prog) (f := 9) (fn := Try.f9) (fun p hp => by cases hp) (Ts := [tY, .c (.int .u8), .c (.int .u8)]) (by kernel_rfl) law_all hval hA
  rw [Try.params9] at hA
  obtain ⟨v0, vs0, d0, ds0, p0, q0, hargs0, rfl, rfl, h0, r0⟩ := trodAll_cons hA
  obtain ⟨v1, vs1, d1, ds1, p1, q1, hargs1, rfl, rfl, h1, r1⟩ := trodAll_cons r0
  subst hargs1
  obtain ⟨v2, vs2, d2, ds2, p2, q2, hargs2, rfl, rfl, h2, r2⟩ := trodAll_cons r1
  subst hargs2
  obtain ⟨rfl, rfl, rfl⟩ := trodAll_nil r2
  refine walk.mono fun e W' ⟨he, hb⟩ => ?_
  subst he
  exact ⟨_, rfl, law_post (tb := 4) laidOut rfl (by kernel_rfl) rfl Try.underlying4 hW rfl hb⟩

theorem frameSpoilt_holds : Rows.FrameSpoiltSaid :=
  OpenClaim.holds_of_wide 9 Try.f9 rfl rfl rfl rfl rfl rfl rfl ⟨rfl, rfl, rfl, rfl, rfl⟩ rfl rfl rfl rfl rfl (by kernel_rfl) Try.func9 (by kernel_rfl)
    (of_decide_eq_true (by kernel_rfl)) (by unfold Func.isWrapper; first | (rw [if_pos (by decide +kernel)]; kernel_rfl) | (rw [if_neg (by decide +kernel)]; exact ⟨rfl, rfl⟩))
    (fun os started H enc _ => frameSpoilt_lifted os started H enc)
#print axioms frameSpoilt_holds
end Go.Proofs.Ytfpmdfpnbegnhaa
