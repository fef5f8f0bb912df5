/-
  FrameLimits: its walk and its row.
-/
import Derived.Test.YtfpmdfpnbegnhaaSy06f
set_option maxRecDepth 100000
set_option linter.unusedSimpArgs false
set_option linter.unusedVariables false
namespace Go.Proofs.Ytfpmdfpnbegnhaa
open Go.Proofs.Ytfpmdfpnbegnhaa.Sy Go.RowKit Go.WideShapes Go.ChangeShapes Go.ChangeAt
def liI (n : Nat) (c : Int) (xs : List D) : Prop := ∃ (b : List Int) (i : Nat), xs = [bD b, I64d i] ∧ i ≤ n ∧ b.length = n ∧ b.take i = List.replicate i c ∧ inB b

set_option maxHeartbeats 4000000 in
theorem law_all (xs : List D) (h : TypTs [.c (.int .u16), .c (.int .u8), .c (.int .u16)] xs) : Fun Try.prog [] 10 [.c (.int .u16), .c (.int .u8), .c (.int .u16)] xs [.c .bool] (.ok [.bool true]) := by
  obtain ⟨d, _, rfl, h1, _, _, rfl, h2, _, _, rfl, h3, rfl⟩ := h
  obtain ⟨n, rfl, hn0, hn1⟩ := typ_u16 h1
  obtain ⟨c, rfl, hc0, hc1⟩ := typ_u8 h2
  obtain ⟨g, rfl, hg0, hg1⟩ := typ_u16 h3
  refine llimits_ent _ _ ?_
  show vcllimits.den _ _ _ _ _
  unfold vcllimits
  simp only [E.den, cmpB_eql, cmpB_neq, cmpB_lss, cmpB_leq, cmpB_gtr, cmpB_geq, arI_add, arI_sub, arI_mul, arI_quo, arI_rem, D.toI, D.toB, D.toL, D.toS, D.len, D.mapL, List.map_cons, List.map_nil, List.getD_cons_zero, List.getD_cons_succ, List.cons_append, List.nil_append, flatD, List.append_nil, List.length_map, List.length_append, List.length_cons, List.length_nil, decide_eq_true_eq, decide_eq_false_iff_not, beq_iff_eq, beq_eq_false_iff_ne, bne_iff_ne, bne_eq_false_iff_eq, ne_eq, Int.toNat_natCast, gt_iff_lt, ge_iff_le, Int.not_lt, Int.not_le, Bool.not_eq_true, Bool.not_eq_false, Bool.and_eq_true, Bool.true_eq_false, Bool.false_eq_true, Bool.not_eq_eq_eq_not, Bool.not_true, Bool.not_false]
  refine den_ite (fun h => ?_) (fun h => ?_)
  · exact den_cal [.bool true] rfl awake_fn rfl rfl (den_ret rfl)
  simp only [E.den, cmpB_eql, cmpB_neq, cmpB_lss, cmpB_leq, cmpB_gtr, cmpB_geq, arI_add, arI_sub, arI_mul, arI_quo, arI_rem, D.toI, D.toB, D.toL, D.toS, D.len, D.mapL, List.map_cons, List.map_nil, List.getD_cons_zero, List.getD_cons_succ, List.cons_append, List.nil_append, flatD, List.append_nil, List.length_map, List.length_append, List.length_cons, List.length_nil, decide_eq_true_eq, decide_eq_false_iff_not, beq_iff_eq, beq_eq_false_iff_ne, bne_iff_ne, bne_eq_false_iff_eq, ne_eq, Int.toNat_natCast, gt_iff_lt, ge_iff_le, Int.not_lt, Int.not_le, Bool.not_eq_true, Bool.not_eq_false, Bool.and_eq_true, Bool.true_eq_false, Bool.false_eq_true, Bool.not_eq_eq_eq_not, Bool.not_true, Bool.not_false] at h
  refine den_ite (fun h2 => ?_) (fun h2 => ?_)
  · exact den_cal [.bool true] rfl awake_fn rfl rfl (den_ret rfl)
  simp only [E.den, cmpB_eql, cmpB_neq, cmpB_lss, cmpB_leq, cmpB_gtr, cmpB_geq, arI_add, arI_sub, arI_mul, arI_quo, arI_rem, D.toI, D.toB, D.toL, D.toS, D.len, D.mapL, List.map_cons, List.map_nil, List.getD_cons_zero, List.getD_cons_succ, List.cons_append, List.nil_append, flatD, List.append_nil, List.length_map, List.length_append, List.length_cons, List.length_nil, decide_eq_true_eq, decide_eq_false_iff_not, beq_iff_eq, beq_eq_false_iff_ne, bne_iff_ne, bne_eq_false_iff_eq, ne_eq, Int.toNat_natCast, gt_iff_lt, ge_iff_le, Int.not_lt, Int.not_le, Bool.not_eq_true, Bool.not_eq_false, Bool.and_eq_true, Bool.true_eq_false, Bool.false_eq_true, Bool.not_eq_eq_eq_not, Bool.not_true, Bool.not_false] at h2
  have hwn : IntKind.wrap .i64 n = n := wrap_i64 (by omega) (by omega)
  have hwg : IntKind.wrap .i64 g = g := wrap_i64 (by omega) (by omega)
  have hwg1 : IntKind.wrap .i64 (g + 1) = g + 1 := wrap_i64 (by omega) (by omega)
  refine den_ev (evs_ob (by simp only [E.den, cmpB_eql, cmpB_neq, cmpB_lss, cmpB_leq, cmpB_gtr, cmpB_geq, arI_add, arI_sub, arI_mul, arI_quo, arI_rem, D.toI, D.toB, D.toL, D.toS, D.len, D.mapL, List.map_cons, List.map_nil, List.getD_cons_zero, List.getD_cons_succ, List.cons_append, List.nil_append, flatD, List.append_nil, List.length_map, List.length_append, List.length_cons, List.length_nil, decide_eq_true_eq, decide_eq_false_iff_not, beq_iff_eq, beq_eq_false_iff_ne, bne_iff_ne, bne_eq_false_iff_eq, ne_eq, Int.toNat_natCast, gt_iff_lt, ge_iff_le, Int.not_lt, Int.not_le, Bool.not_eq_true, Bool.not_eq_false, Bool.and_eq_true, Bool.true_eq_false, Bool.false_eq_true, Bool.not_eq_eq_eq_not, Bool.not_true, Bool.not_false]; rw [hwn]; omega) (evs_ob (by simp only [E.den, cmpB_eql, cmpB_neq, cmpB_lss, cmpB_leq, cmpB_gtr, cmpB_geq, arI_add, arI_sub, arI_mul, arI_quo, arI_rem, D.toI, D.toB, D.toL, D.toS, D.len, D.mapL, List.map_cons, List.map_nil, List.getD_cons_zero, List.getD_cons_succ, List.cons_append, List.nil_append, flatD, List.append_nil, List.length_map, List.length_append, List.length_cons, List.length_nil, decide_eq_true_eq, decide_eq_false_iff_not, beq_iff_eq, beq_eq_false_iff_ne, bne_iff_ne, bne_eq_false_iff_eq, ne_eq, Int.toNat_natCast, gt_iff_lt, ge_iff_le, Int.not_lt, Int.not_le, Bool.not_eq_true, Bool.not_eq_false, Bool.and_eq_true, Bool.true_eq_false, Bool.false_eq_true, Bool.not_eq_eq_eq_not, Bool.not_true, Bool.not_false]; rw [hwn]; omega) (evs_nil ?_)))
  refine den_loop (liI n.toNat c) (fun xs => n.toNat - (xs.getD 1 default).toI.toNat) ⟨List.replicate n.toNat 0, 0, ?_, by omega, by simp, by simp, fun x hx => ?_⟩ ?_
  · simp only [E.den, cmpB_eql, cmpB_neq, cmpB_lss, cmpB_leq, cmpB_gtr, cmpB_geq, arI_add, arI_sub, arI_mul, arI_quo, arI_rem, D.toI, D.toB, D.toL, D.toS, D.len, D.mapL, List.map_cons, List.map_nil, List.getD_cons_zero, List.getD_cons_succ, List.cons_append, List.nil_append, flatD, List.append_nil, List.length_map, List.length_append, List.length_cons, List.length_nil, decide_eq_true_eq, decide_eq_false_iff_not, beq_iff_eq, beq_eq_false_iff_ne, bne_iff_ne, bne_eq_false_iff_eq, ne_eq, Int.toNat_natCast, gt_iff_lt, ge_iff_le, Int.not_lt, Int.not_le, Bool.not_eq_true, Bool.not_eq_false, Bool.and_eq_true, Bool.true_eq_false, Bool.false_eq_true, Bool.not_eq_eq_eq_not, Bool.not_true, Bool.not_false]; rw [hwn]; simp
  · simp at hx; omega
  simp only [AllSh]
  intro x1 _ m _ _ ⟨b, i, he, hi, hbl, hbt, hbB⟩
  simp only [List.cons.injEq, D.int.injEq, D.lst.injEq, true_and, and_true] at he
  obtain ⟨rfl, rfl⟩ := he
  (try simp only [List.cons_append, List.nil_append])
  refine den_ite (fun h3 => ?_) (fun h3 => ?_)
  · simp only [E.den, cmpB_eql, cmpB_neq, cmpB_lss, cmpB_leq, cmpB_gtr, cmpB_geq, arI_add, arI_sub, arI_mul, arI_quo, arI_rem, D.toI, D.toB, D.toL, D.toS, D.len, D.mapL, List.map_cons, List.map_nil, List.getD_cons_zero, List.getD_cons_succ, List.cons_append, List.nil_append, flatD, List.append_nil, List.length_map, List.length_append, List.length_cons, List.length_nil, decide_eq_true_eq, decide_eq_false_iff_not, beq_iff_eq, beq_eq_false_iff_ne, bne_iff_ne, bne_eq_false_iff_eq, ne_eq, Int.toNat_natCast, gt_iff_lt, ge_iff_le, Int.not_lt, Int.not_le, Bool.not_eq_true, Bool.not_eq_false, Bool.and_eq_true, Bool.true_eq_false, Bool.false_eq_true, Bool.not_eq_eq_eq_not, Bool.not_true, Bool.not_false] at h3
    have hi' : i < b.length := by omega
    have hw : IntKind.wrap .i64 ((i : Int) + 1) = ((i + 1 : Nat) : Int) := by rw [wrap_i64 (by omega) (by omega)]; omega
    refine den_ev (evs_ob (by simp only [E.den, cmpB_eql, cmpB_neq, cmpB_lss, cmpB_leq, cmpB_gtr, cmpB_geq, arI_add, arI_sub, arI_mul, arI_quo, arI_rem, D.toI, D.toB, D.toL, D.toS, D.len, D.mapL, List.map_cons, List.map_nil, List.getD_cons_zero, List.getD_cons_succ, List.cons_append, List.nil_append, flatD, List.append_nil, List.length_map, List.length_append, List.length_cons, List.length_nil, decide_eq_true_eq, decide_eq_false_iff_not, beq_iff_eq, beq_eq_false_iff_ne, bne_iff_ne, bne_eq_false_iff_eq, ne_eq, Int.toNat_natCast, gt_iff_lt, ge_iff_le, Int.not_lt, Int.not_le, Bool.not_eq_true, Bool.not_eq_false, Bool.and_eq_true, Bool.true_eq_false, Bool.false_eq_true, Bool.not_eq_eq_eq_not, Bool.not_true, Bool.not_false]; omega) (evs_ob (by simp only [E.den, cmpB_eql, cmpB_neq, cmpB_lss, cmpB_leq, cmpB_gtr, cmpB_geq, arI_add, arI_sub, arI_mul, arI_quo, arI_rem, D.toI, D.toB, D.toL, D.toS, D.len, D.mapL, List.map_cons, List.map_nil, List.getD_cons_zero, List.getD_cons_succ, List.cons_append, List.nil_append, flatD, List.append_nil, List.length_map, List.length_append, List.length_cons, List.length_nil, decide_eq_true_eq, decide_eq_false_iff_not, beq_iff_eq, beq_eq_false_iff_ne, bne_iff_ne, bne_eq_false_iff_eq, ne_eq, Int.toNat_natCast, gt_iff_lt, ge_iff_le, Int.not_lt, Int.not_le, Bool.not_eq_true, Bool.not_eq_false, Bool.and_eq_true, Bool.true_eq_false, Bool.false_eq_true, Bool.not_eq_eq_eq_not, Bool.not_true, Bool.not_false]; omega) (evs_nil ?_)))
    refine den_ev (evs_ob (by simp only [E.den, cmpB_eql, cmpB_neq, cmpB_lss, cmpB_leq, cmpB_gtr, cmpB_geq, arI_add, arI_sub, arI_mul, arI_quo, arI_rem, D.toI, D.toB, D.toL, D.toS, D.len, D.mapL, List.map_cons, List.map_nil, List.getD_cons_zero, List.getD_cons_succ, List.cons_append, List.nil_append, flatD, List.append_nil, List.length_map, List.length_append, List.length_cons, List.length_nil, decide_eq_true_eq, decide_eq_false_iff_not, beq_iff_eq, beq_eq_false_iff_ne, bne_iff_ne, bne_eq_false_iff_eq, ne_eq, Int.toNat_natCast, gt_iff_lt, ge_iff_le, Int.not_lt, Int.not_le, Bool.not_eq_true, Bool.not_eq_false, Bool.and_eq_true, Bool.true_eq_false, Bool.false_eq_true, Bool.not_eq_eq_eq_not, Bool.not_true, Bool.not_false]; omega) (evs_nil ?_))
    refine den_back rfl ⟨b.set i c, i + 1, ?_, by omega, by rw [List.length_set]; exact hbl, ?_, hbB.set hc0 hc1⟩ ?_
    · simp only [E.den, cmpB_eql, cmpB_neq, cmpB_lss, cmpB_leq, cmpB_gtr, cmpB_geq, arI_add, arI_sub, arI_mul, arI_quo, arI_rem, D.toI, D.toB, D.toL, D.toS, D.len, D.mapL, List.map_cons, List.map_nil, List.getD_cons_zero, List.getD_cons_succ, List.cons_append, List.nil_append, flatD, List.append_nil, List.length_map, List.length_append, List.length_cons, List.length_nil, decide_eq_true_eq, decide_eq_false_iff_not, beq_iff_eq, beq_eq_false_iff_ne, bne_iff_ne, bne_eq_false_iff_eq, ne_eq, Int.toNat_natCast, gt_iff_lt, ge_iff_le, Int.not_lt, Int.not_le, Bool.not_eq_true, Bool.not_eq_false, Bool.and_eq_true, Bool.true_eq_false, Bool.false_eq_true, Bool.not_eq_eq_eq_not, Bool.not_true, Bool.not_false]
      rw [hw, set_map]
    · rw [take_get 0 (by rw [List.length_set]; exact hi'), List.take_set_of_le (by omega), hbt]
      have : (b.set i c).getD i 0 = c := by simp [List.getD_eq_getElem?_getD, hi']
      rw [this, ← List.replicate_succ']
    · simp only [E.den, cmpB_eql, cmpB_neq, cmpB_lss, cmpB_leq, cmpB_gtr, cmpB_geq, arI_add, arI_sub, arI_mul, arI_quo, arI_rem, D.toI, D.toB, D.toL, D.toS, D.len, D.mapL, List.map_cons, List.map_nil, List.getD_cons_zero, List.getD_cons_succ, List.cons_append, List.nil_append, flatD, List.append_nil, List.length_map, List.length_append, List.length_cons, List.length_nil, decide_eq_true_eq, decide_eq_false_iff_not, beq_iff_eq, beq_eq_false_iff_ne, bne_iff_ne, bne_eq_false_iff_eq, ne_eq, Int.toNat_natCast, gt_iff_lt, ge_iff_le, Int.not_lt, Int.not_le, Bool.not_eq_true, Bool.not_eq_false, Bool.and_eq_true, Bool.true_eq_false, Bool.false_eq_true, Bool.not_eq_eq_eq_not, Bool.not_true, Bool.not_false]; rw [hw]; omega
  · simp only [E.den, cmpB_eql, cmpB_neq, cmpB_lss, cmpB_leq, cmpB_gtr, cmpB_geq, arI_add, arI_sub, arI_mul, arI_quo, arI_rem, D.toI, D.toB, D.toL, D.toS, D.len, D.mapL, List.map_cons, List.map_nil, List.getD_cons_zero, List.getD_cons_succ, List.cons_append, List.nil_append, flatD, List.append_nil, List.length_map, List.length_append, List.length_cons, List.length_nil, decide_eq_true_eq, decide_eq_false_iff_not, beq_iff_eq, beq_eq_false_iff_ne, bne_iff_ne, bne_eq_false_iff_eq, ne_eq, Int.toNat_natCast, gt_iff_lt, ge_iff_le, Int.not_lt, Int.not_le, Bool.not_eq_true, Bool.not_eq_false, Bool.and_eq_true, Bool.true_eq_false, Bool.false_eq_true, Bool.not_eq_eq_eq_not, Bool.not_true, Bool.not_false] at h3
    have hsr := sumS_rng hbB
    have hbl' : b.length ≤ 4200 := by omega
    have both : ∃ (p : List Int) (e : Int), inB p ∧ Fun Try.prog [] 15 [tY] [bD b] [.r [.int .u8], tI] (.ok [bD p, I64d e]) ∧ Fun Try.prog [] 16 [tY] [bD b] [tY, tI] (.ok [bD p, I64d e]) := by
      by_cases hh : 4096 < b.length
      · refine ⟨[], 3, (fun x hx => by cases hx), ?_, ?_⟩
        · have := pack_fn b hbB (by omega); rwa [if_pos hh] at this
        · have := rpack_fn b hbB (by omega); rwa [if_pos hh] at this
      · exact ⟨packS b, 0, pack_inB hbB, pack_short (by omega) hbB, rpack_short (by omega) hbB⟩
    obtain ⟨p, e, hpB, hp1, hp2⟩ := both
    refine den_cal [bD p, I64d e] rfl hp1 rfl rfl ?_
    refine den_cal [bD p, I64d e] rfl hp2 rfl rfl ?_
    refine den_cal [.bool true] rfl (same_true hpB) rfl rfl ?_
    (try simp only [List.cons_append, List.nil_append])
    refine den_ite (fun _ => ?_) (fun h => by simp only [E.den, cmpB_eql, cmpB_neq, cmpB_lss, cmpB_leq, cmpB_gtr, cmpB_geq, arI_add, arI_sub, arI_mul, arI_quo, arI_rem, D.toI, D.toB, D.toL, D.toS, D.len, D.mapL, List.map_cons, List.map_nil, List.getD_cons_zero, List.getD_cons_succ, List.cons_append, List.nil_append, flatD, List.append_nil, List.length_map, List.length_append, List.length_cons, List.length_nil, decide_eq_true_eq, decide_eq_false_iff_not, beq_iff_eq, beq_eq_false_iff_ne, bne_iff_ne, bne_eq_false_iff_eq, ne_eq, Int.toNat_natCast, gt_iff_lt, ge_iff_le, Int.not_lt, Int.not_le, Bool.not_eq_true, Bool.not_eq_false, Bool.and_eq_true, Bool.true_eq_false, Bool.false_eq_true, Bool.not_eq_eq_eq_not, Bool.not_true, Bool.not_false] at h)
    refine den_ite (fun h => by simp only [E.den, cmpB_eql, cmpB_neq, cmpB_lss, cmpB_leq, cmpB_gtr, cmpB_geq, arI_add, arI_sub, arI_mul, arI_quo, arI_rem, D.toI, D.toB, D.toL, D.toS, D.len, D.mapL, List.map_cons, List.map_nil, List.getD_cons_zero, List.getD_cons_succ, List.cons_append, List.nil_append, flatD, List.append_nil, List.length_map, List.length_append, List.length_cons, List.length_nil, decide_eq_true_eq, decide_eq_false_iff_not, beq_iff_eq, beq_eq_false_iff_ne, bne_iff_ne, bne_eq_false_iff_eq, ne_eq, Int.toNat_natCast, gt_iff_lt, ge_iff_le, Int.not_lt, Int.not_le, Bool.not_eq_true, Bool.not_eq_false, Bool.and_eq_true, Bool.true_eq_false, Bool.false_eq_true, Bool.not_eq_eq_eq_not, Bool.not_true, Bool.not_false] at h; simp at h) (fun _ => ?_)
    have hsB := stuff_inB (withSum_inB hbB hsr.1 hsr.2)
    have hsl := stuff_len (withSum b (sumS b))
    rw [withSum_len] at hsl
    have hct := content_fn b (sumS b) (by omega) hsr.1 hsr.2
    have hst := stuff_fn (withSum b (sumS b)) (by rw [withSum_len]; omega)
    have both : ∃ (p : List Int) (e : Int), inB p ∧ Fun Try.prog [] 18 [tY] [bD (stuffS (withSum b (sumS b)))] [tY, tI] (.ok [bD p, I64d e]) ∧ Fun Try.prog [] 19 [tY] [bD (stuffS (withSum b (sumS b)))] [tY, tI] (.ok [bD p, I64d e]) := by
      have h1 := unpack_fn _ hsB (by omega)
      have h2 := runpack_fn _ hsB (by omega)
      cases hu : unpackS (stuffS (withSum b (sumS b))) with
      | error e => rw [hu] at h1 h2; exact ⟨[], e, (fun x hx => by cases hx), h1, h2⟩
      | ok p => rw [hu] at h1 h2; exact ⟨p, 0, (pack_unpack hsB hu).2.2, h1, h2⟩
    obtain ⟨p2, e2, hp2B, hu1, hu2⟩ := both
    refine den_cal [I64d (sumS b)] rfl (rsum_fn b hbB (by omega)) rfl rfl ?_
    refine den_cal [bD (withSum b (sumS b))] rfl hct rfl rfl ?_
    refine den_cal [bD (stuffS (withSum b (sumS b)))] rfl hst rfl rfl ?_
    refine den_cal [bD p2, I64d e2] rfl hu1 rfl rfl ?_
    refine den_cal [I64d (sumS b)] rfl (rsum_fn b hbB (by omega)) rfl rfl ?_
    refine den_cal [bD (withSum b (sumS b))] rfl hct rfl rfl ?_
    refine den_cal [bD (stuffS (withSum b (sumS b)))] rfl hst rfl rfl ?_
    refine den_cal [bD p2, I64d e2] rfl hu2 rfl rfl ?_
    refine den_cal [.bool true] rfl (same_true hp2B) rfl rfl ?_
    (try simp only [List.cons_append, List.nil_append])
    refine den_ite (fun _ => ?_) (fun h => by simp only [E.den, cmpB_eql, cmpB_neq, cmpB_lss, cmpB_leq, cmpB_gtr, cmpB_geq, arI_add, arI_sub, arI_mul, arI_quo, arI_rem, D.toI, D.toB, D.toL, D.toS, D.len, D.mapL, List.map_cons, List.map_nil, List.getD_cons_zero, List.getD_cons_succ, List.cons_append, List.nil_append, flatD, List.append_nil, List.length_map, List.length_append, List.length_cons, List.length_nil, decide_eq_true_eq, decide_eq_false_iff_not, beq_iff_eq, beq_eq_false_iff_ne, bne_iff_ne, bne_eq_false_iff_eq, ne_eq, Int.toNat_natCast, gt_iff_lt, ge_iff_le, Int.not_lt, Int.not_le, Bool.not_eq_true, Bool.not_eq_false, Bool.and_eq_true, Bool.true_eq_false, Bool.false_eq_true, Bool.not_eq_eq_eq_not, Bool.not_true, Bool.not_false] at h)
    refine den_ite (fun h => by simp only [E.den, cmpB_eql, cmpB_neq, cmpB_lss, cmpB_leq, cmpB_gtr, cmpB_geq, arI_add, arI_sub, arI_mul, arI_quo, arI_rem, D.toI, D.toB, D.toL, D.toS, D.len, D.mapL, List.map_cons, List.map_nil, List.getD_cons_zero, List.getD_cons_succ, List.cons_append, List.nil_append, flatD, List.append_nil, List.length_map, List.length_append, List.length_cons, List.length_nil, decide_eq_true_eq, decide_eq_false_iff_not, beq_iff_eq, beq_eq_false_iff_ne, bne_iff_ne, bne_eq_false_iff_eq, ne_eq, Int.toNat_natCast, gt_iff_lt, ge_iff_le, Int.not_lt, Int.not_le, Bool.not_eq_true, Bool.not_eq_false, Bool.and_eq_true, Bool.true_eq_false, Bool.false_eq_true, Bool.not_eq_eq_eq_not, Bool.not_true, Bool.not_false] at h; simp at h) (fun _ => ?_)
    have hx : ((List.replicate (g + 1).toNat (U8d 0)).set 0 (U8d 192)) = (192 :: List.replicate g.toNat 0).map U8d := by
      rw [show (g + 1).toNat = g.toNat + 1 by omega, List.replicate_succ]
      simp
    have hx1 : (((List.replicate (g + 1).toNat (U8d 0)).set 0 (U8d 192)).take 1).drop 0 = [192].map U8d := by rw [hx]; simp
    have hxl : (List.replicate (g + 1).toNat (U8d 0)).length = (g + 1).toNat := List.length_replicate
    have hx2 : (((List.replicate (g + 1).toNat (U8d 0)).set 0 (U8d 192)).take (g + 1).toNat).drop 1 = (List.replicate g.toNat 0).map U8d := by
      rw [List.take_of_length_le (by rw [List.length_set, hxl]; omega), hx]; simp
    have hB1 : inB [192] := fun x hx => by simp at hx; omega
    have hB2 : inB (List.replicate g.toNat (0 : Int)) := fun x hx => by simp at hx; omega
    have hab : inB ([192] ++ List.replicate g.toNat (0 : Int)) := fun x hx => (List.mem_append.1 hx).elim (hB1 x) (hB2 x)
    obtain ⟨hf1, hf2⟩ := feed_inB hab
    have hcn := feed_cnt ([192] ++ List.replicate g.toNat (0 : Int))
    rw [List.length_append, List.length_replicate] at hcn
    have k1 := feed_fn [192] (List.replicate g.toNat 0) hB1 hB2 (by simp; omega)
    have k2 := rfeed_fn [192] (List.replicate g.toNat 0) hB1 hB2 (by simp; omega)
    generalize feedS ([192] ++ List.replicate g.toNat (0 : Int)) = r at *
    obtain ⟨r1, r2⟩ := r
    simp only at k1 k2 hf1 hf2 hcn
    repeat (refine den_ev ?_; (repeat (refine evs_ob (by simp only [E.den, cmpB_eql, cmpB_neq, cmpB_lss, cmpB_leq, cmpB_gtr, cmpB_geq, arI_add, arI_sub, arI_mul, arI_quo, arI_rem, D.toI, D.toB, D.toL, D.toS, D.len, D.mapL, List.map_cons, List.map_nil, List.getD_cons_zero, List.getD_cons_succ, List.cons_append, List.nil_append, flatD, List.append_nil, List.length_map, List.length_append, List.length_cons, List.length_nil, decide_eq_true_eq, decide_eq_false_iff_not, beq_iff_eq, beq_eq_false_iff_ne, bne_iff_ne, bne_eq_false_iff_eq, ne_eq, Int.toNat_natCast, gt_iff_lt, ge_iff_le, Int.not_lt, Int.not_le, Bool.not_eq_true, Bool.not_eq_false, Bool.and_eq_true, Bool.true_eq_false, Bool.false_eq_true, Bool.not_eq_eq_eq_not, Bool.not_true, Bool.not_false]; rw [hwg, hwg1]; (try rw [hxl]); omega) ?_)); refine evs_nil ?_)
    refine den_cal [bD r1, bbD r2] rfl k1 (by simp only [E.den, cmpB_eql, cmpB_neq, cmpB_lss, cmpB_leq, cmpB_gtr, cmpB_geq, arI_add, arI_sub, arI_mul, arI_quo, arI_rem, D.toI, D.toB, D.toL, D.toS, D.len, D.mapL, List.map_cons, List.map_nil, List.getD_cons_zero, List.getD_cons_succ, List.cons_append, List.nil_append, flatD, List.append_nil, List.length_map, List.length_append, List.length_cons, List.length_nil, decide_eq_true_eq, decide_eq_false_iff_not, beq_iff_eq, beq_eq_false_iff_ne, bne_iff_ne, bne_eq_false_iff_eq, ne_eq, Int.toNat_natCast, gt_iff_lt, ge_iff_le, Int.not_lt, Int.not_le, Bool.not_eq_true, Bool.not_eq_false, Bool.and_eq_true, Bool.true_eq_false, Bool.false_eq_true, Bool.not_eq_eq_eq_not, Bool.not_true, Bool.not_false]; rw [hwg, hwg1, hxl, show (1 : Int).toNat = 1 from rfl, show (0 : Int).toNat = 0 from rfl, hx1, hx2]) rfl ?_
    (try simp only [List.cons_append, List.nil_append])
    repeat (refine den_ev ?_; (repeat (refine evs_ob (by simp only [E.den, cmpB_eql, cmpB_neq, cmpB_lss, cmpB_leq, cmpB_gtr, cmpB_geq, arI_add, arI_sub, arI_mul, arI_quo, arI_rem, D.toI, D.toB, D.toL, D.toS, D.len, D.mapL, List.map_cons, List.map_nil, List.getD_cons_zero, List.getD_cons_succ, List.cons_append, List.nil_append, flatD, List.append_nil, List.length_map, List.length_append, List.length_cons, List.length_nil, decide_eq_true_eq, decide_eq_false_iff_not, beq_iff_eq, beq_eq_false_iff_ne, bne_iff_ne, bne_eq_false_iff_eq, ne_eq, Int.toNat_natCast, gt_iff_lt, ge_iff_le, Int.not_lt, Int.not_le, Bool.not_eq_true, Bool.not_eq_false, Bool.and_eq_true, Bool.true_eq_false, Bool.false_eq_true, Bool.not_eq_eq_eq_not, Bool.not_true, Bool.not_false]; rw [hwg, hwg1]; (try rw [hxl]); omega) ?_)); refine evs_nil ?_)
    refine den_cal [bD r1, bbD r2] rfl k2 (by simp only [E.den, cmpB_eql, cmpB_neq, cmpB_lss, cmpB_leq, cmpB_gtr, cmpB_geq, arI_add, arI_sub, arI_mul, arI_quo, arI_rem, D.toI, D.toB, D.toL, D.toS, D.len, D.mapL, List.map_cons, List.map_nil, List.getD_cons_zero, List.getD_cons_succ, List.cons_append, List.nil_append, flatD, List.append_nil, List.length_map, List.length_append, List.length_cons, List.length_nil, decide_eq_true_eq, decide_eq_false_iff_not, beq_iff_eq, beq_eq_false_iff_ne, bne_iff_ne, bne_eq_false_iff_eq, ne_eq, Int.toNat_natCast, gt_iff_lt, ge_iff_le, Int.not_lt, Int.not_le, Bool.not_eq_true, Bool.not_eq_false, Bool.and_eq_true, Bool.true_eq_false, Bool.false_eq_true, Bool.not_eq_eq_eq_not, Bool.not_true, Bool.not_false]; rw [hwg, hwg1, hxl, show (1 : Int).toNat = 1 from rfl, show (0 : Int).toNat = 0 from rfl, hx1, hx2]) rfl ?_
    (try simp only [List.cons_append, List.nil_append])
    refine den_cal [.bool true] rfl (same_true hf1) rfl rfl ?_
    (try simp only [List.cons_append, List.nil_append])
    refine den_ite (fun _ => ?_) (fun h => by simp only [E.den, cmpB_eql, cmpB_neq, cmpB_lss, cmpB_leq, cmpB_gtr, cmpB_geq, arI_add, arI_sub, arI_mul, arI_quo, arI_rem, D.toI, D.toB, D.toL, D.toS, D.len, D.mapL, List.map_cons, List.map_nil, List.getD_cons_zero, List.getD_cons_succ, List.cons_append, List.nil_append, flatD, List.append_nil, List.length_map, List.length_append, List.length_cons, List.length_nil, decide_eq_true_eq, decide_eq_false_iff_not, beq_iff_eq, beq_eq_false_iff_ne, bne_iff_ne, bne_eq_false_iff_eq, ne_eq, Int.toNat_natCast, gt_iff_lt, ge_iff_le, Int.not_lt, Int.not_le, Bool.not_eq_true, Bool.not_eq_false, Bool.and_eq_true, Bool.true_eq_false, Bool.false_eq_true, Bool.not_eq_eq_eq_not, Bool.not_true, Bool.not_false] at h)
    refine den_cal [.bool true] rfl (sameall_true hf2 (by simp at hcn; omega)) rfl rfl ?_
    (try simp only [List.cons_append, List.nil_append])
    refine den_ite (fun _ => ?_) (fun h => by simp only [E.den, cmpB_eql, cmpB_neq, cmpB_lss, cmpB_leq, cmpB_gtr, cmpB_geq, arI_add, arI_sub, arI_mul, arI_quo, arI_rem, D.toI, D.toB, D.toL, D.toS, D.len, D.mapL, List.map_cons, List.map_nil, List.getD_cons_zero, List.getD_cons_succ, List.cons_append, List.nil_append, flatD, List.append_nil, List.length_map, List.length_append, List.length_cons, List.length_nil, decide_eq_true_eq, decide_eq_false_iff_not, beq_iff_eq, beq_eq_false_iff_ne, bne_iff_ne, bne_eq_false_iff_eq, ne_eq, Int.toNat_natCast, gt_iff_lt, ge_iff_le, Int.not_lt, Int.not_le, Bool.not_eq_true, Bool.not_eq_false, Bool.and_eq_true, Bool.true_eq_false, Bool.false_eq_true, Bool.not_eq_eq_eq_not, Bool.not_true, Bool.not_false] at h)
    exact den_cal [.bool true] rfl awake_fn rfl rfl (den_ret rfl)

set_option maxRecDepth 100000 in
theorem frameLimits_lifted (os : Os) (started : os.Started) (H : Type) (enc : TypeId × Value → H) :
    ReturnsInHanded {} Try.checked os 10 .any (Rows.frameLimitsSpec.pre6 enc Try.prog Try.f10 Rows.frameLimitsRow.domain false) (Rows.frameLimitsSpec.post enc Try.prog Try.f10 false true false false) := by
  refine returnsInHanded_of_change (C := Try.checked) own started (by kernel_rfl) Try.func10
    (ChangeSpec.witness6 (enc := enc) (C := Try.checked) false ⟨#[], #[.int .u16 0, .int .u8 0, .int .u16 0], []⟩ 8 (by kernel_rfl) (by kernel_rfl) (by kernel_rfl) (by kernel_rfl)) ?_
  intro W base args ds gs before hval0 hW hcnd _
  have hval : ∀ (j : Nat) t v, Try.f10.params[j]? = some t → args[j]? = some v → Value.okWide Try.prog W .any base t v := hval0
  obtain ⟨q, q', hA0, _, _, _, _⟩ := id hW
  have hA : DataW.TrodAll enc Try.prog W 0 (fun _ => true) true Try.f10.params.toList args.toList ds q := hA0
  have walk := law_walk (P := Try.prog) (f := 10) (fn := Try.f10) (fun p hp => by cases hp) (Ts := [.c (.int .u16), .c (.int .u8), .c (.int .u16)]) (by kernel_rfl) law_all hval hA
  rw [Try.params10] at hA
  obtain ⟨v0, vs0, d0, ds0, p0, q0, hargs0, rfl, rfl, h0, r0⟩ := trodAll_cons hA
  obtain ⟨v1, vs1, d1, ds1, p1, q1, hargs1, rfl, rfl, h1, r1⟩ := trodAll_cons r0
  subst hargs1
  obtain ⟨v2, vs2, d2, ds2, p2, q2, hargs2, rfl, rfl, h2, r2⟩ := trodAll_cons r1
  subst hargs2
  obtain ⟨rfl, rfl, rfl⟩ := trodAll_nil r2
  refine walk.mono fun e W' ⟨he, hb⟩ => ?_
  subst he
  exact ⟨_, rfl, law_post (tb := 4) laidOut rfl (by kernel_rfl) rfl Try.underlying4 hW rfl hb⟩

theorem frameLimits_holds : Rows.FrameLimitsSaid :=
  OpenClaim.holds_of_wide 10 Try.f10 rfl rfl rfl rfl rfl rfl rfl ⟨rfl, rfl, rfl, rfl, rfl⟩ rfl rfl rfl rfl rfl (by kernel_rfl) Try.func10 (by kernel_rfl)
    (of_decide_eq_true (by kernel_rfl)) (by unfold Func.isWrapper; first | (rw [if_pos (by decide +kernel)]; kernel_rfl) | (rw [if_neg (by decide +kernel)]; exact ⟨rfl, rfl⟩))
    (fun os started H enc _ => frameLimits_lifted os started H enc)
#print axioms frameLimits_holds
end Go.Proofs.Ytfpmdfpnbegnhaa
