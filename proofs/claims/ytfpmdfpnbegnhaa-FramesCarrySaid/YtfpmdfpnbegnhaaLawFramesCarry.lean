/-
  Records carried in frames: the walk and the row of FramesCarry.
-/
import Derived.Test.YtfpmdfpnbegnhaaCarry
import Derived.Test.YtfpmdfpnbegnhaaFrame
set_option maxRecDepth 100000
set_option linter.unusedSimpArgs false
set_option linter.unusedVariables false
namespace Go.Proofs.Ytfpmdfpnbegnhaa.L7
open Go.Proofs.Ytfpmdfpnbegnhaa.Sy Go.RowKit Go.WideShapes Go.ChangeShapes Go.ChangeAt
def sgc : Nat → Option (List TS × List TS) := fun f => if Nat.beq f 15 then some ([.c (.lst [.int .u8])], [.r [.int .u8], .c (.int .i64)]) else none
def vccarry : VC := (.ite (.cmp .gtr (.len (.v 0)) (.ki .i64 20))
 (.ret [(.kb true)])
 (.loop [(.lst [(.int .u8)]), .bool, (.int .i64)] [.nil, (.kb false), (.ki .i64 0)]
  (.ite (.cmp .lss (.v 4) (.len (.v 0)))
   (.ev [(.ob (.cmp .geq (.v 4) (.ki .i64 0))), (.ob (.cmp .lss (.v 4) (.len (.v 0))))]
    (.ite (.cmp .gtr (.len (.get (.v 0) (.v 4))) (.ki .i64 300))
     (.ret [(.kb true)])
     (.cal 27 [(.c (.int .i64))] [(.v 4)] [(.c (.lst [(.int .u8)]))] 5
      (.cal 26 [(.c (.lst [(.int .i64), (.lst [(.int .u8)])]))] [(.cons (.rc (.cons (.ki .i64 1) (.cons (.v 5) .nil))) (.cons (.rc (.cons (.ki .i64 2) (.cons (.get (.v 0) (.v 4)) .nil))) .nil))] [(.c (.lst [(.int .u8)])), (.c (.int .i64))] 6
       (.ite (.cmp .neq (.v 7) (.ki .i64 0))
        (.ret [(.kb false)])
        (.cal 15 [(.c (.lst [(.int .u8)]))] [(.v 6)] [(.r [(.int .u8)]), (.c (.int .i64))] 8
         (.ite (.cmp .neq (.v 9) (.ki .i64 0))
          (.ret [(.kb false)])
          (.ev [(.ob (.cmp .leq (.len (.app (.v 2) (.v 8))) (.ki .i64 4294967296)))]
           (.back 0 [(.app (.v 2) (.v 8)), (.v 3), (.ar .add .i64 (.v 4) (.ki .i64 1))])))))))))
   (.loop [(.lst [(.int .u8)]), .bool, (.lst [(.int .u8)]), (.lst [(.int .u8)]), (.int .i64)] [(.v 2), (.v 3), (.v 2), .nil, (.ki .i64 0)]
    (.ite (.cmp .gtr (.len (.v 7)) (.ki .i64 0))
     (.ev [(.ob (.cmp .leq (.ki .i64 0) (.mn .i64 (.len (.v 7)) (.ar .add .i64 (.conv .i64 (.v 1)) (.ki .i64 1))))), (.ob (.cmp .leq (.mn .i64 (.len (.v 7)) (.ar .add .i64 (.conv .i64 (.v 1)) (.ki .i64 1))) (.len (.v 7))))]
      (.cal 20 [(.c (.lst [(.int .u8)])), (.c (.lst [(.int .u8)]))] [(.v 8), (.sub (.v 7) (.ki .i64 0) (.mn .i64 (.len (.v 7)) (.ar .add .i64 (.conv .i64 (.v 1)) (.ki .i64 1))))] [(.c (.lst [(.int .u8)])), (.c (.lst [(.lst [(.int .u8)])]))] 10
       (.ev [(.ob (.cmp .leq (.ki .i64 0) (.mn .i64 (.len (.v 7)) (.ar .add .i64 (.conv .i64 (.v 1)) (.ki .i64 1))))), (.ob (.cmp .leq (.mn .i64 (.len (.v 7)) (.ar .add .i64 (.conv .i64 (.v 1)) (.ki .i64 1))) (.len (.v 7))))]
        (.loop [.bool, (.int .i64), (.int .i64)] [(.v 6), (.v 9), (.ki .i64 0)]
         (.ite (.cmp .lss (.v 14) (.len (.v 11)))
          (.ev [(.ob (.cmp .geq (.v 14) (.ki .i64 0))), (.ob (.cmp .lss (.v 14) (.len (.v 11))))]
           (.cal 28 [(.c (.lst [(.int .u8)]))] [(.get (.v 11) (.v 14))] [(.c (.lst [(.int .i64), (.lst [(.int .u8)])])), (.c (.int .i64))] 15
            (.ite (.cmp .neq (.v 16) (.ki .i64 0))
             (.ret [(.kb false)])
             (.ite (.cmp .geq (.v 13) (.len (.v 0)))
              (.ret [(.kb false)])
              (.cal 29 [(.c (.lst [(.int .i64), (.lst [(.int .u8)])])), (.c (.int .i64))] [(.v 15), (.ki .i64 1)] [(.c (.lst [(.int .u8)])), (.c .bool)] 17
               (.cal 29 [(.c (.lst [(.int .i64), (.lst [(.int .u8)])])), (.c (.int .i64))] [(.v 15), (.ki .i64 2)] [(.c (.lst [(.int .u8)])), (.c .bool)] 19
                (.cal 30 [(.c (.lst [(.int .u8)]))] [(.v 17)] [(.c (.int .i64)), (.c (.int .i64))] 21
                 (.ite (.cmp .neq (.v 22) (.ki .i64 0))
                  (.ret [(.kb false)])
                  (.ite (.cmp .neq (.v 21) (.v 13))
                   (.ret [(.kb false)])
                   (.ev [(.ob (.cmp .geq (.v 13) (.ki .i64 0))), (.ob (.cmp .lss (.v 13) (.len (.v 0))))]
                    (.ite (.seq (.b2s (.v 19)) (.b2s (.get (.v 0) (.v 13))))
                     (.back 2 [(.v 12), (.ar .add .i64 (.v 13) (.ki .i64 1)), (.ar .add .i64 (.v 14) (.ki .i64 1))])
                     (.ret [(.kb false)]))))))))))))
          (.back 1 [(.v 5), (.v 12), (.sub (.v 7) (.mn .i64 (.len (.v 7)) (.ar .add .i64 (.conv .i64 (.v 1)) (.ki .i64 1))) (.len (.v 7))), (.v 10), (.v 13)]))))))
     (.ret [(.cmp .eql (.v 9) (.len (.v 0)))]))))))
theorem carry_ent : EntOK Try.prog [] ⟨11, [(.c (.lst [(.lst [(.int .u8)])])), (.c (.int .u8))], [(.c .bool)], vccarry⟩ :=
  ent_of_gen hP Try.func11 rfl (by decide) (sg := sgc) (by kernel_rfl)
def strmI (l : List (List Int)) (xs : List D) : Prop := ∃ (q : Bool) (i : Nat), xs = [bD (strm l i), .bool q, I64d i] ∧ i ≤ l.length ∧ (∀ j, j < i → (l.getD j []).length ≤ 300) ∧ (strm l i).length ≤ i * 806
def carI (S : List Int) (m : Nat) (xs : List D) : Prop := ∃ (z : List D) (q : Bool) (k : Nat), xs = [.lst z, .bool q, bD (S.drop k), bD (segS (cu S k).1), I64d (cu S k).2.length] ∧ k ≤ S.length
def carM (xs : List D) : Nat := ((xs.getD 2 default).toL).length
def innI (next g : Nat) (xs : List D) : Prop := ∃ (q : Bool) (j : Nat), xs = [.bool q, I64d (next + j : Nat), I64d j] ∧ j ≤ g
def innM (g : Nat) (xs : List D) : Nat := g - (xs.getD 2 default).toI.toNat
set_option maxHeartbeats 4000000 in
theorem law_all (xs : List D) (h : TypTs [tYY, .c (.int .u8)] xs) : Fun Try.prog [] 11 [tYY, .c (.int .u8)] xs [.c .bool] (.ok [.bool true]) := by
  obtain ⟨d, _, rfl, h1, _, _, rfl, h2, rfl⟩ := h
  obtain ⟨l, rfl, _, hl⟩ := typ_byteses h1
  obtain ⟨p, rfl, hp0, hp1⟩ := typ_u8 h2
  refine carry_ent _ _ ?_
  show vccarry.den _ _ _ _ _
  unfold vccarry
  refine den_ite (fun h => den_ret rfl) (fun h => ?_)
  simp only [E.den, cmpB_eql, cmpB_neq, cmpB_lss, cmpB_leq, cmpB_gtr, cmpB_geq, arI_add, arI_sub, arI_mul, arI_quo, arI_rem, D.toI, D.toB, D.toL, D.toS, D.len, D.mapL, List.map_cons, List.map_nil, List.getD_cons_zero, List.getD_cons_succ, List.cons_append, List.nil_append, flatD, List.append_nil, List.length_map, List.length_append, List.length_cons, List.length_nil, decide_eq_true_eq, decide_eq_false_iff_not, beq_iff_eq, beq_eq_false_iff_ne, bne_iff_ne, bne_eq_false_iff_eq, ne_eq, Int.toNat_natCast, gt_iff_lt, ge_iff_le, Int.not_lt, Int.not_le, Bool.not_eq_true, Bool.not_eq_false, Bool.and_eq_true, Bool.true_eq_false, Bool.false_eq_true, Bool.not_eq_eq_eq_not, Bool.not_true, Bool.not_false] at h
  have hm20 : l.length ≤ 20 := by omega
  refine den_loop (strmI l) (fun xs => l.length - (xs.getD 2 default).toI.toNat) ⟨false, 0, rfl, by omega, by omega, by simp [strm, recs]⟩ ?_
  simp only [AllSh]
  intro _ _ q n _ _ ⟨q', i, he, hi, hs3, hsl⟩
  simp only [List.cons.injEq, D.int.injEq, D.lst.injEq, D.bool.injEq, true_and, and_true] at he
  obtain ⟨rfl, rfl, rfl⟩ := he
  (try simp only [List.cons_append, List.nil_append])
  refine den_ite (fun h2 => ?_) (fun h2 => ?_)
  · simp only [E.den, cmpB_eql, cmpB_neq, cmpB_lss, cmpB_leq, cmpB_gtr, cmpB_geq, arI_add, arI_sub, arI_mul, arI_quo, arI_rem, D.toI, D.toB, D.toL, D.toS, D.len, D.mapL, List.map_cons, List.map_nil, List.getD_cons_zero, List.getD_cons_succ, List.cons_append, List.nil_append, flatD, List.append_nil, List.length_map, List.length_append, List.length_cons, List.length_nil, decide_eq_true_eq, decide_eq_false_iff_not, beq_iff_eq, beq_eq_false_iff_ne, bne_iff_ne, bne_eq_false_iff_eq, ne_eq, Int.toNat_natCast, gt_iff_lt, ge_iff_le, Int.not_lt, Int.not_le, Bool.not_eq_true, Bool.not_eq_false, Bool.and_eq_true, Bool.true_eq_false, Bool.false_eq_true, Bool.not_eq_eq_eq_not, Bool.not_true, Bool.not_false] at h2
    have hi' : i < l.length := by omega
    have hg := get_B hi'
    have hlb := hl _ (mem_getD [] hi')
    refine den_ev (evs_ob (by simp only [E.den, cmpB_eql, cmpB_neq, cmpB_lss, cmpB_leq, cmpB_gtr, cmpB_geq, arI_add, arI_sub, arI_mul, arI_quo, arI_rem, D.toI, D.toB, D.toL, D.toS, D.len, D.mapL, List.map_cons, List.map_nil, List.getD_cons_zero, List.getD_cons_succ, List.cons_append, List.nil_append, flatD, List.append_nil, List.length_map, List.length_append, List.length_cons, List.length_nil, decide_eq_true_eq, decide_eq_false_iff_not, beq_iff_eq, beq_eq_false_iff_ne, bne_iff_ne, bne_eq_false_iff_eq, ne_eq, Int.toNat_natCast, gt_iff_lt, ge_iff_le, Int.not_lt, Int.not_le, Bool.not_eq_true, Bool.not_eq_false, Bool.and_eq_true, Bool.true_eq_false, Bool.false_eq_true, Bool.not_eq_eq_eq_not, Bool.not_true, Bool.not_false]; omega) (evs_ob (by simp only [E.den, cmpB_eql, cmpB_neq, cmpB_lss, cmpB_leq, cmpB_gtr, cmpB_geq, arI_add, arI_sub, arI_mul, arI_quo, arI_rem, D.toI, D.toB, D.toL, D.toS, D.len, D.mapL, List.map_cons, List.map_nil, List.getD_cons_zero, List.getD_cons_succ, List.cons_append, List.nil_append, flatD, List.append_nil, List.length_map, List.length_append, List.length_cons, List.length_nil, decide_eq_true_eq, decide_eq_false_iff_not, beq_iff_eq, beq_eq_false_iff_ne, bne_iff_ne, bne_eq_false_iff_eq, ne_eq, Int.toNat_natCast, gt_iff_lt, ge_iff_le, Int.not_lt, Int.not_le, Bool.not_eq_true, Bool.not_eq_false, Bool.and_eq_true, Bool.true_eq_false, Bool.false_eq_true, Bool.not_eq_eq_eq_not, Bool.not_true, Bool.not_false]; omega) (evs_nil ?_)))
    refine den_ite (fun h3 => den_ret rfl) (fun h3 => ?_)
    simp only [E.den, cmpB_eql, cmpB_neq, cmpB_lss, cmpB_leq, cmpB_gtr, cmpB_geq, arI_add, arI_sub, arI_mul, arI_quo, arI_rem, D.toI, D.toB, D.toL, D.toS, D.len, D.mapL, List.map_cons, List.map_nil, List.getD_cons_zero, List.getD_cons_succ, List.cons_append, List.nil_append, flatD, List.append_nil, List.length_map, List.length_append, List.length_cons, List.length_nil, decide_eq_true_eq, decide_eq_false_iff_not, beq_iff_eq, beq_eq_false_iff_ne, bne_iff_ne, bne_eq_false_iff_eq, ne_eq, Int.toNat_natCast, gt_iff_lt, ge_iff_le, Int.not_lt, Int.not_le, Bool.not_eq_true, Bool.not_eq_false, Bool.and_eq_true, Bool.true_eq_false, Bool.false_eq_true, Bool.not_eq_eq_eq_not, Bool.not_true, Bool.not_false] at h3
    rw [hg] at h3
    simp only [E.den, cmpB_eql, cmpB_neq, cmpB_lss, cmpB_leq, cmpB_gtr, cmpB_geq, arI_add, arI_sub, arI_mul, arI_quo, arI_rem, D.toI, D.toB, D.toL, D.toS, D.len, D.mapL, List.map_cons, List.map_nil, List.getD_cons_zero, List.getD_cons_succ, List.cons_append, List.nil_append, flatD, List.append_nil, List.length_map, List.length_append, List.length_cons, List.length_nil, decide_eq_true_eq, decide_eq_false_iff_not, beq_iff_eq, beq_eq_false_iff_ne, bne_iff_ne, bne_eq_false_iff_eq, ne_eq, Int.toNat_natCast, gt_iff_lt, ge_iff_le, Int.not_lt, Int.not_le, Bool.not_eq_true, Bool.not_eq_false, Bool.and_eq_true, Bool.true_eq_false, Bool.false_eq_true, Bool.not_eq_eq_eq_not, Bool.not_true, Bool.not_false] at h3
    have hb3 : (l.getD i []).length ≤ 300 := by omega
    have e2 := putS_len i
    have hw : IntKind.wrap .i64 ((i : Int) + 1) = ((i + 1 : Nat) : Int) := by rw [wrap_i64 (by omega) (by omega)]; omega
    have fp := put_fn [(1, putS i), (2, l.getD i [])] (by simp) (by
      intro x hx
      simp only [List.mem_cons, List.not_mem_nil, or_false] at hx
      rcases hx with rfl | rfl
      · simp only []; omega
      · simp only []; omega)
    rw [put_two] at fp
    have hrl := recB_len (i := i) hb3
    have hpl := pack_len hrl
    have fk := pack_short (b := recB i (l.getD i [])) (by omega) (recB_isB (by omega) hlb.2 hb3)
    refine den_cal [bD (putS i)] rfl (putint_fn i (by unfold in64; omega)) (by simp only [E.den, cmpB_eql, cmpB_neq, cmpB_lss, cmpB_leq, cmpB_gtr, cmpB_geq, arI_add, arI_sub, arI_mul, arI_quo, arI_rem, D.toI, D.toB, D.toL, D.toS, D.len, D.mapL, List.map_cons, List.map_nil, List.getD_cons_zero, List.getD_cons_succ, List.cons_append, List.nil_append, flatD, List.append_nil, List.length_map, List.length_append, List.length_cons, List.length_nil, decide_eq_true_eq, decide_eq_false_iff_not, beq_iff_eq, beq_eq_false_iff_ne, bne_iff_ne, bne_eq_false_iff_eq, ne_eq, Int.toNat_natCast, gt_iff_lt, ge_iff_le, Int.not_lt, Int.not_le, Bool.not_eq_true, Bool.not_eq_false, Bool.and_eq_true, Bool.true_eq_false, Bool.false_eq_true, Bool.not_eq_eq_eq_not, Bool.not_true, Bool.not_false]) rfl ?_
    (try simp only [List.cons_append, List.nil_append])
    refine den_cal [bD (recB i (l.getD i [])), I64d 0] rfl fp (by simp only [E.den, cmpB_eql, cmpB_neq, cmpB_lss, cmpB_leq, cmpB_gtr, cmpB_geq, arI_add, arI_sub, arI_mul, arI_quo, arI_rem, D.toI, D.toB, D.toL, D.toS, D.len, D.mapL, List.map_cons, List.map_nil, List.getD_cons_zero, List.getD_cons_succ, List.cons_append, List.nil_append, flatD, List.append_nil, List.length_map, List.length_append, List.length_cons, List.length_nil, decide_eq_true_eq, decide_eq_false_iff_not, beq_iff_eq, beq_eq_false_iff_ne, bne_iff_ne, bne_eq_false_iff_eq, ne_eq, Int.toNat_natCast, gt_iff_lt, ge_iff_le, Int.not_lt, Int.not_le, Bool.not_eq_true, Bool.not_eq_false, Bool.and_eq_true, Bool.true_eq_false, Bool.false_eq_true, Bool.not_eq_eq_eq_not, Bool.not_true, Bool.not_false]; rw [hg] <;> rfl) rfl ?_
    (try simp only [List.cons_append, List.nil_append])
    refine den_f rfl ?_
    refine den_cal [bD (packS (recB i (l.getD i []))), I64d 0] rfl fk rfl rfl ?_
    (try simp only [List.cons_append, List.nil_append])
    refine den_f rfl ?_
    have hnx := strm_next l i
    refine den_ev (evs_ob (by simp only [E.den, cmpB_eql, cmpB_neq, cmpB_lss, cmpB_leq, cmpB_gtr, cmpB_geq, arI_add, arI_sub, arI_mul, arI_quo, arI_rem, D.toI, D.toB, D.toL, D.toS, D.len, D.mapL, List.map_cons, List.map_nil, List.getD_cons_zero, List.getD_cons_succ, List.cons_append, List.nil_append, flatD, List.append_nil, List.length_map, List.length_append, List.length_cons, List.length_nil, decide_eq_true_eq, decide_eq_false_iff_not, beq_iff_eq, beq_eq_false_iff_ne, bne_iff_ne, bne_eq_false_iff_eq, ne_eq, Int.toNat_natCast, gt_iff_lt, ge_iff_le, Int.not_lt, Int.not_le, Bool.not_eq_true, Bool.not_eq_false, Bool.and_eq_true, Bool.true_eq_false, Bool.false_eq_true, Bool.not_eq_eq_eq_not, Bool.not_true, Bool.not_false]; omega) (evs_nil ?_))
    refine den_back rfl ⟨q, i + 1, ?_, by omega, ?_, ?_⟩ ?_
    · simp only [E.den, cmpB_eql, cmpB_neq, cmpB_lss, cmpB_leq, cmpB_gtr, cmpB_geq, arI_add, arI_sub, arI_mul, arI_quo, arI_rem, D.toI, D.toB, D.toL, D.toS, D.len, D.mapL, List.map_cons, List.map_nil, List.getD_cons_zero, List.getD_cons_succ, List.cons_append, List.nil_append, flatD, List.append_nil, List.length_map, List.length_append, List.length_cons, List.length_nil, decide_eq_true_eq, decide_eq_false_iff_not, beq_iff_eq, beq_eq_false_iff_ne, bne_iff_ne, bne_eq_false_iff_eq, ne_eq, Int.toNat_natCast, gt_iff_lt, ge_iff_le, Int.not_lt, Int.not_le, Bool.not_eq_true, Bool.not_eq_false, Bool.and_eq_true, Bool.true_eq_false, Bool.false_eq_true, Bool.not_eq_eq_eq_not, Bool.not_true, Bool.not_false]
      rw [hw, hnx]
      simp [rec1]
    · intro j hj
      rcases Nat.lt_or_ge j i with h | h
      · exact hs3 j h
      · rw [show j = i by omega]; exact hb3
    · rw [hnx, List.length_append]
      have : (packS (rec1 l i)).length ≤ 806 := hpl
      omega
    · simp only []; simp only [E.den, cmpB_eql, cmpB_neq, cmpB_lss, cmpB_leq, cmpB_gtr, cmpB_geq, arI_add, arI_sub, arI_mul, arI_quo, arI_rem, D.toI, D.toB, D.toL, D.toS, D.len, D.mapL, List.map_cons, List.map_nil, List.getD_cons_zero, List.getD_cons_succ, List.cons_append, List.nil_append, flatD, List.append_nil, List.length_map, List.length_append, List.length_cons, List.length_nil, decide_eq_true_eq, decide_eq_false_iff_not, beq_iff_eq, beq_eq_false_iff_ne, bne_iff_ne, bne_eq_false_iff_eq, ne_eq, Int.toNat_natCast, gt_iff_lt, ge_iff_le, Int.not_lt, Int.not_le, Bool.not_eq_true, Bool.not_eq_false, Bool.and_eq_true, Bool.true_eq_false, Bool.false_eq_true, Bool.not_eq_eq_eq_not, Bool.not_true, Bool.not_false]; rw [hw]; omega
  simp only [E.den, cmpB_eql, cmpB_neq, cmpB_lss, cmpB_leq, cmpB_gtr, cmpB_geq, arI_add, arI_sub, arI_mul, arI_quo, arI_rem, D.toI, D.toB, D.toL, D.toS, D.len, D.mapL, List.map_cons, List.map_nil, List.getD_cons_zero, List.getD_cons_succ, List.cons_append, List.nil_append, flatD, List.append_nil, List.length_map, List.length_append, List.length_cons, List.length_nil, decide_eq_true_eq, decide_eq_false_iff_not, beq_iff_eq, beq_eq_false_iff_ne, bne_iff_ne, bne_eq_false_iff_eq, ne_eq, Int.toNat_natCast, gt_iff_lt, ge_iff_le, Int.not_lt, Int.not_le, Bool.not_eq_true, Bool.not_eq_false, Bool.and_eq_true, Bool.true_eq_false, Bool.false_eq_true, Bool.not_eq_eq_eq_not, Bool.not_true, Bool.not_false] at h2
  have hil : i = l.length := by omega
  subst hil
  have hall : ∀ r ∈ recs l l.length, r.length ≤ 400 := by
    intro r hr
    obtain ⟨j, hj, rfl⟩ := List.mem_map.1 hr
    exact recB_len (hs3 j (List.mem_range.1 hj))
  have hfull : ((strm l l.length).foldl scan1 (none, [])).2 = recs l l.length := by
    have := frames_all (recs l l.length) none [] hall trivial
    simpa [strm] using this
  have hshort : ∀ k, (segS (cu (strm l l.length) k).1).length ≤ 8198 := fun k => frames_short (recs l l.length) k none [] hall trivial
  have hSB : isB (strm l l.length) := by
    intro x hx
    obtain ⟨r, hr, hx⟩ := List.mem_flatMap.1 hx
    obtain ⟨j, hj, rfl⟩ := List.mem_map.1 hr
    have hj' := List.mem_range.1 hj
    exact pack_inB (recB_isB (by omega) (hl _ (mem_getD [] hj')).2 (hs3 j hj')) x hx
  have hml : (recs l l.length).length = l.length := by simp [recs]
  have hSl : (strm l l.length).length ≤ 16120 := by
    have := Nat.mul_le_mul_right 806 hm20
    omega
  have hrec : ∀ j, j < l.length → (recs l l.length).getD j [] = recB j (l.getD j []) := fun j hj => recs_get hj
  generalize strm l l.length = S at *
  generalize recs l l.length = ps at *
  have hseg : ∀ k, isB (segS (cu S k).1) := by
    intro k
    have := (fold_inB (S.take k) none [] (fun x hx => hSB x (List.mem_of_mem_take hx)) (fun s e => by cases e) (fun p hp => by cases hp)).1
    cases hc : (cu S k).1 with
    | none => intro x hx; cases hx
    | some seg => exact this seg hc
  refine den_loop (carI S l.length) carM ⟨S.map U8d, q, 0, by simp only [E.den, cmpB_eql, cmpB_neq, cmpB_lss, cmpB_leq, cmpB_gtr, cmpB_geq, arI_add, arI_sub, arI_mul, arI_quo, arI_rem, D.toI, D.toB, D.toL, D.toS, D.len, D.mapL, List.map_cons, List.map_nil, List.getD_cons_zero, List.getD_cons_succ, List.cons_append, List.nil_append, flatD, List.append_nil, List.length_map, List.length_append, List.length_cons, List.length_nil, decide_eq_true_eq, decide_eq_false_iff_not, beq_iff_eq, beq_eq_false_iff_ne, bne_iff_ne, bne_eq_false_iff_eq, ne_eq, Int.toNat_natCast, gt_iff_lt, ge_iff_le, Int.not_lt, Int.not_le, Bool.not_eq_true, Bool.not_eq_false, Bool.and_eq_true, Bool.true_eq_false, Bool.false_eq_true, Bool.not_eq_eq_eq_not, Bool.not_true, Bool.not_false]; simp [cu, segS], by omega⟩ ?_
  simp only [AllSh]
  intro z _ q2 _ _ _ _ n2 _ _ ⟨z', q2', k, he, hk⟩
  simp only [List.cons.injEq, D.int.injEq, D.lst.injEq, D.bool.injEq, true_and, and_true] at he
  obtain ⟨rfl, rfl, rfl, rfl, rfl⟩ := he
  (try simp only [List.cons_append, List.nil_append])
  have hdl : (S.drop k).length = S.length - k := List.length_drop
  refine den_ite (fun h3 => ?_) (fun h3 => ?_)
  rotate_left
  · simp only [E.den, cmpB_eql, cmpB_neq, cmpB_lss, cmpB_leq, cmpB_gtr, cmpB_geq, arI_add, arI_sub, arI_mul, arI_quo, arI_rem, D.toI, D.toB, D.toL, D.toS, D.len, D.mapL, List.map_cons, List.map_nil, List.getD_cons_zero, List.getD_cons_succ, List.cons_append, List.nil_append, flatD, List.append_nil, List.length_map, List.length_append, List.length_cons, List.length_nil, decide_eq_true_eq, decide_eq_false_iff_not, beq_iff_eq, beq_eq_false_iff_ne, bne_iff_ne, bne_eq_false_iff_eq, ne_eq, Int.toNat_natCast, gt_iff_lt, ge_iff_le, Int.not_lt, Int.not_le, Bool.not_eq_true, Bool.not_eq_false, Bool.and_eq_true, Bool.true_eq_false, Bool.false_eq_true, Bool.not_eq_eq_eq_not, Bool.not_true, Bool.not_false] at h3
    refine den_ret ?_
    have hkS : k = S.length := by omega
    have hcu : (cu S k).2 = ps := by
      rw [hkS, ← hfull]
      unfold cu
      rw [List.take_length]
    simp only [E.den, cmpB_eql, cmpB_neq, cmpB_lss, cmpB_leq, cmpB_gtr, cmpB_geq, arI_add, arI_sub, arI_mul, arI_quo, arI_rem, D.toI, D.toB, D.toL, D.toS, D.len, D.mapL, List.map_cons, List.map_nil, List.getD_cons_zero, List.getD_cons_succ, List.cons_append, List.nil_append, flatD, List.append_nil, List.length_map, List.length_append, List.length_cons, List.length_nil, decide_eq_true_eq, decide_eq_false_iff_not, beq_iff_eq, beq_eq_false_iff_ne, bne_iff_ne, bne_eq_false_iff_eq, ne_eq, Int.toNat_natCast, gt_iff_lt, ge_iff_le, Int.not_lt, Int.not_le, Bool.not_eq_true, Bool.not_eq_false, Bool.and_eq_true, Bool.true_eq_false, Bool.false_eq_true, Bool.not_eq_eq_eq_not, Bool.not_true, Bool.not_false]
    rw [hcu, hml]
    simp
  simp only [E.den, cmpB_eql, cmpB_neq, cmpB_lss, cmpB_leq, cmpB_gtr, cmpB_geq, arI_add, arI_sub, arI_mul, arI_quo, arI_rem, D.toI, D.toB, D.toL, D.toS, D.len, D.mapL, List.map_cons, List.map_nil, List.getD_cons_zero, List.getD_cons_succ, List.cons_append, List.nil_append, flatD, List.append_nil, List.length_map, List.length_append, List.length_cons, List.length_nil, decide_eq_true_eq, decide_eq_false_iff_not, beq_iff_eq, beq_eq_false_iff_ne, bne_iff_ne, bne_eq_false_iff_eq, ne_eq, Int.toNat_natCast, gt_iff_lt, ge_iff_le, Int.not_lt, Int.not_le, Bool.not_eq_true, Bool.not_eq_false, Bool.and_eq_true, Bool.true_eq_false, Bool.false_eq_true, Bool.not_eq_eq_eq_not, Bool.not_true, Bool.not_false] at h3
  obtain ⟨N, hN, hN1, hN2⟩ : ∃ N : Nat, (if p + 1 < ((S.drop k).length : Int) then p + 1 else ((S.drop k).length : Int)) = (N : Int) ∧ 1 ≤ N ∧ N ≤ (S.drop k).length := by
    split
    · exact ⟨(p + 1).toNat, by omega, by omega, by omega⟩
    · exact ⟨(S.drop k).length, rfl, by omega, by omega⟩
  have hw1 : IntKind.wrap .i64 p = p := wrap_i64 (by omega) (by omega)
  have hw2 : IntKind.wrap .i64 (p + 1) = p + 1 := wrap_i64 (by omega) (by omega)
  have hf := feed_fn (segS (cu S k).1) ((S.drop k).take N) (hseg k) (fun x hx => hSB x (List.mem_of_mem_drop (List.mem_of_mem_take hx))) (by have := hshort k; rw [List.length_take]; omega)
  rw [feed_next (hshort (k + N))] at hf
  obtain ⟨t, ht⟩ := cu_pre hfull (k + N)
  have hcn : (cu S (k + N)).2 = (cu S k).2 ++ news S k N := by rw [cu_next]; rfl
  have hlenps := congrArg List.length ht
  rw [hcn, List.length_append, List.length_append] at hlenps
  refine den_ev (evs_ob (by simp only [E.den, cmpB_eql, cmpB_neq, cmpB_lss, cmpB_leq, cmpB_gtr, cmpB_geq, arI_add, arI_sub, arI_mul, arI_quo, arI_rem, D.toI, D.toB, D.toL, D.toS, D.len, D.mapL, List.map_cons, List.map_nil, List.getD_cons_zero, List.getD_cons_succ, List.cons_append, List.nil_append, flatD, List.append_nil, List.length_map, List.length_append, List.length_cons, List.length_nil, decide_eq_true_eq, decide_eq_false_iff_not, beq_iff_eq, beq_eq_false_iff_ne, bne_iff_ne, bne_eq_false_iff_eq, ne_eq, Int.toNat_natCast, gt_iff_lt, ge_iff_le, Int.not_lt, Int.not_le, Bool.not_eq_true, Bool.not_eq_false, Bool.and_eq_true, Bool.true_eq_false, Bool.false_eq_true, Bool.not_eq_eq_eq_not, Bool.not_true, Bool.not_false]; rw [hw1, hw2, hN]; omega) (evs_ob (by simp only [E.den, cmpB_eql, cmpB_neq, cmpB_lss, cmpB_leq, cmpB_gtr, cmpB_geq, arI_add, arI_sub, arI_mul, arI_quo, arI_rem, D.toI, D.toB, D.toL, D.toS, D.len, D.mapL, List.map_cons, List.map_nil, List.getD_cons_zero, List.getD_cons_succ, List.cons_append, List.nil_append, flatD, List.append_nil, List.length_map, List.length_append, List.length_cons, List.length_nil, decide_eq_true_eq, decide_eq_false_iff_not, beq_iff_eq, beq_eq_false_iff_ne, bne_iff_ne, bne_eq_false_iff_eq, ne_eq, Int.toNat_natCast, gt_iff_lt, ge_iff_le, Int.not_lt, Int.not_le, Bool.not_eq_true, Bool.not_eq_false, Bool.and_eq_true, Bool.true_eq_false, Bool.false_eq_true, Bool.not_eq_eq_eq_not, Bool.not_true, Bool.not_false]; rw [hw1, hw2, hN]; omega) (evs_nil ?_)))
  refine den_cal [bD (segS (cu S (k + N)).1), bbD (news S k N)] rfl hf (by simp only [E.den, cmpB_eql, cmpB_neq, cmpB_lss, cmpB_leq, cmpB_gtr, cmpB_geq, arI_add, arI_sub, arI_mul, arI_quo, arI_rem, D.toI, D.toB, D.toL, D.toS, D.len, D.mapL, List.map_cons, List.map_nil, List.getD_cons_zero, List.getD_cons_succ, List.cons_append, List.nil_append, flatD, List.append_nil, List.length_map, List.length_append, List.length_cons, List.length_nil, decide_eq_true_eq, decide_eq_false_iff_not, beq_iff_eq, beq_eq_false_iff_ne, bne_iff_ne, bne_eq_false_iff_eq, ne_eq, Int.toNat_natCast, gt_iff_lt, ge_iff_le, Int.not_lt, Int.not_le, Bool.not_eq_true, Bool.not_eq_false, Bool.and_eq_true, Bool.true_eq_false, Bool.false_eq_true, Bool.not_eq_eq_eq_not, Bool.not_true, Bool.not_false]; rw [hw1, hw2, hN, Int.toNat_natCast, show (0 : Int).toNat = 0 from rfl, List.drop_zero, ← List.map_take]) rfl ?_
  (try simp only [List.cons_append, List.nil_append])
  refine den_ev (evs_ob (by simp only [E.den, cmpB_eql, cmpB_neq, cmpB_lss, cmpB_leq, cmpB_gtr, cmpB_geq, arI_add, arI_sub, arI_mul, arI_quo, arI_rem, D.toI, D.toB, D.toL, D.toS, D.len, D.mapL, List.map_cons, List.map_nil, List.getD_cons_zero, List.getD_cons_succ, List.cons_append, List.nil_append, flatD, List.append_nil, List.length_map, List.length_append, List.length_cons, List.length_nil, decide_eq_true_eq, decide_eq_false_iff_not, beq_iff_eq, beq_eq_false_iff_ne, bne_iff_ne, bne_eq_false_iff_eq, ne_eq, Int.toNat_natCast, gt_iff_lt, ge_iff_le, Int.not_lt, Int.not_le, Bool.not_eq_true, Bool.not_eq_false, Bool.and_eq_true, Bool.true_eq_false, Bool.false_eq_true, Bool.not_eq_eq_eq_not, Bool.not_true, Bool.not_false]; rw [hw1, hw2, hN]; omega) (evs_ob (by simp only [E.den, cmpB_eql, cmpB_neq, cmpB_lss, cmpB_leq, cmpB_gtr, cmpB_geq, arI_add, arI_sub, arI_mul, arI_quo, arI_rem, D.toI, D.toB, D.toL, D.toS, D.len, D.mapL, List.map_cons, List.map_nil, List.getD_cons_zero, List.getD_cons_succ, List.cons_append, List.nil_append, flatD, List.append_nil, List.length_map, List.length_append, List.length_cons, List.length_nil, decide_eq_true_eq, decide_eq_false_iff_not, beq_iff_eq, beq_eq_false_iff_ne, bne_iff_ne, bne_eq_false_iff_eq, ne_eq, Int.toNat_natCast, gt_iff_lt, ge_iff_le, Int.not_lt, Int.not_le, Bool.not_eq_true, Bool.not_eq_false, Bool.and_eq_true, Bool.true_eq_false, Bool.false_eq_true, Bool.not_eq_eq_eq_not, Bool.not_true, Bool.not_false]; rw [hw1, hw2, hN]; omega) (evs_nil ?_)))
  refine den_loop (innI (cu S k).2.length (news S k N).length) (innM (news S k N).length) ⟨q2, 0, by simp only [E.den, cmpB_eql, cmpB_neq, cmpB_lss, cmpB_leq, cmpB_gtr, cmpB_geq, arI_add, arI_sub, arI_mul, arI_quo, arI_rem, D.toI, D.toB, D.toL, D.toS, D.len, D.mapL, List.map_cons, List.map_nil, List.getD_cons_zero, List.getD_cons_succ, List.cons_append, List.nil_append, flatD, List.append_nil, List.length_map, List.length_append, List.length_cons, List.length_nil, decide_eq_true_eq, decide_eq_false_iff_not, beq_iff_eq, beq_eq_false_iff_ne, bne_iff_ne, bne_eq_false_iff_eq, ne_eq, Int.toNat_natCast, gt_iff_lt, ge_iff_le, Int.not_lt, Int.not_le, Bool.not_eq_true, Bool.not_eq_false, Bool.and_eq_true, Bool.true_eq_false, Bool.false_eq_true, Bool.not_eq_eq_eq_not, Bool.not_true, Bool.not_false]; rfl, by omega⟩ ?_
  simp only [AllSh]
  intro q3 n3 _ _ n4 _ _ ⟨q3', j, he, hj⟩
  simp only [List.cons.injEq, D.int.injEq, D.lst.injEq, D.bool.injEq, true_and, and_true] at he
  obtain ⟨rfl, rfl, rfl⟩ := he
  (try simp only [List.cons_append, List.nil_append])
  refine den_ite (fun h4 => ?_) (fun h4 => ?_)
  · simp only [E.den, cmpB_eql, cmpB_neq, cmpB_lss, cmpB_leq, cmpB_gtr, cmpB_geq, arI_add, arI_sub, arI_mul, arI_quo, arI_rem, D.toI, D.toB, D.toL, D.toS, D.len, D.mapL, List.map_cons, List.map_nil, List.getD_cons_zero, List.getD_cons_succ, List.cons_append, List.nil_append, flatD, List.append_nil, List.length_map, List.length_append, List.length_cons, List.length_nil, decide_eq_true_eq, decide_eq_false_iff_not, beq_iff_eq, beq_eq_false_iff_ne, bne_iff_ne, bne_eq_false_iff_eq, ne_eq, Int.toNat_natCast, gt_iff_lt, ge_iff_le, Int.not_lt, Int.not_le, Bool.not_eq_true, Bool.not_eq_false, Bool.and_eq_true, Bool.true_eq_false, Bool.false_eq_true, Bool.not_eq_eq_eq_not, Bool.not_true, Bool.not_false] at h4
    have hj' : j < (news S k N).length := by omega
    have hnx : (cu S k).2.length + j < l.length := by omega
    have hgj := get_B hj'
    have hgo : (news S k N).getD j [] = recB ((cu S k).2.length + j) (l.getD ((cu S k).2.length + j) []) := by
      rw [← hrec _ hnx, ht, hcn, getD_mid _ _ _ hj']
    generalize hx : (cu S k).2.length + j = x at *
    have hg := get_B hnx
    have hlb := hl _ (mem_getD [] hnx)
    have hb3 := hs3 x hnx
    generalize l.getD x [] = b at *
    have hrl := recB_len (i := x) hb3
    have hrB := recB_isB (i := x) (by omega) hlb.2 hb3
    have f1 := take_fn (recB x b) hrB (by omega)
    rw [take_two hb3] at f1
    have e2 := putS_len x
    have hsm : ∀ y ∈ ([(1, putS x), (2, b)] : List Fld), y.2.length ≤ 1000000 := by
      intro y hy
      simp only [List.mem_cons, List.not_mem_nil, or_false] at hy
      rcases hy with rfl | rfl
      · simp only []; omega
      · simp only []; omega
    have g1 : Fun Try.prog [] 29 [tF, tI] [fsD [(1, putS x), (2, b)], I64d 1] [tY, tB] (.ok [bD (putS x), .bool true]) := get_fn [(1, putS x), (2, b)] 1 (by simp) hsm
    have g2 : Fun Try.prog [] 29 [tF, tI] [fsD [(1, putS x), (2, b)], I64d 2] [tY, tB] (.ok [bD b, .bool true]) := get_fn [(1, putS x), (2, b)] 2 (by simp) hsm
    have f2 := takeint_fn (putS x) (putS_isB (by unfold in64; omega)) (by omega)
    rw [tiR, takeInt_put (by omega)] at f2
    have hwj : IntKind.wrap .i64 ((j : Int) + 1) = ((j + 1 : Nat) : Int) := by rw [wrap_i64 (by omega) (by omega)]; omega
    have hwx : IntKind.wrap .i64 ((x : Int) + 1) = ((x + 1 : Nat) : Int) := by rw [wrap_i64 (by omega) (by omega)]; omega
    refine den_ev (evs_ob (by simp only [E.den, cmpB_eql, cmpB_neq, cmpB_lss, cmpB_leq, cmpB_gtr, cmpB_geq, arI_add, arI_sub, arI_mul, arI_quo, arI_rem, D.toI, D.toB, D.toL, D.toS, D.len, D.mapL, List.map_cons, List.map_nil, List.getD_cons_zero, List.getD_cons_succ, List.cons_append, List.nil_append, flatD, List.append_nil, List.length_map, List.length_append, List.length_cons, List.length_nil, decide_eq_true_eq, decide_eq_false_iff_not, beq_iff_eq, beq_eq_false_iff_ne, bne_iff_ne, bne_eq_false_iff_eq, ne_eq, Int.toNat_natCast, gt_iff_lt, ge_iff_le, Int.not_lt, Int.not_le, Bool.not_eq_true, Bool.not_eq_false, Bool.and_eq_true, Bool.true_eq_false, Bool.false_eq_true, Bool.not_eq_eq_eq_not, Bool.not_true, Bool.not_false]; omega) (evs_ob (by simp only [E.den, cmpB_eql, cmpB_neq, cmpB_lss, cmpB_leq, cmpB_gtr, cmpB_geq, arI_add, arI_sub, arI_mul, arI_quo, arI_rem, D.toI, D.toB, D.toL, D.toS, D.len, D.mapL, List.map_cons, List.map_nil, List.getD_cons_zero, List.getD_cons_succ, List.cons_append, List.nil_append, flatD, List.append_nil, List.length_map, List.length_append, List.length_cons, List.length_nil, decide_eq_true_eq, decide_eq_false_iff_not, beq_iff_eq, beq_eq_false_iff_ne, bne_iff_ne, bne_eq_false_iff_eq, ne_eq, Int.toNat_natCast, gt_iff_lt, ge_iff_le, Int.not_lt, Int.not_le, Bool.not_eq_true, Bool.not_eq_false, Bool.and_eq_true, Bool.true_eq_false, Bool.false_eq_true, Bool.not_eq_eq_eq_not, Bool.not_true, Bool.not_false]; omega) (evs_nil ?_)))
    refine den_cal [fsD [(1, putS x), (2, b)], I64d 0] rfl f1 (by simp only [E.den, cmpB_eql, cmpB_neq, cmpB_lss, cmpB_leq, cmpB_gtr, cmpB_geq, arI_add, arI_sub, arI_mul, arI_quo, arI_rem, D.toI, D.toB, D.toL, D.toS, D.len, D.mapL, List.map_cons, List.map_nil, List.getD_cons_zero, List.getD_cons_succ, List.cons_append, List.nil_append, flatD, List.append_nil, List.length_map, List.length_append, List.length_cons, List.length_nil, decide_eq_true_eq, decide_eq_false_iff_not, beq_iff_eq, beq_eq_false_iff_ne, bne_iff_ne, bne_eq_false_iff_eq, ne_eq, Int.toNat_natCast, gt_iff_lt, ge_iff_le, Int.not_lt, Int.not_le, Bool.not_eq_true, Bool.not_eq_false, Bool.and_eq_true, Bool.true_eq_false, Bool.false_eq_true, Bool.not_eq_eq_eq_not, Bool.not_true, Bool.not_false]; rw [hgj, hgo]) rfl ?_
    (try simp only [List.cons_append, List.nil_append])
    refine den_f rfl (den_f (by simp only [E.den, cmpB_eql, cmpB_neq, cmpB_lss, cmpB_leq, cmpB_gtr, cmpB_geq, arI_add, arI_sub, arI_mul, arI_quo, arI_rem, D.toI, D.toB, D.toL, D.toS, D.len, D.mapL, List.map_cons, List.map_nil, List.getD_cons_zero, List.getD_cons_succ, List.cons_append, List.nil_append, flatD, List.append_nil, List.length_map, List.length_append, List.length_cons, List.length_nil, decide_eq_true_eq, decide_eq_false_iff_not, beq_iff_eq, beq_eq_false_iff_ne, bne_iff_ne, bne_eq_false_iff_eq, ne_eq, Int.toNat_natCast, gt_iff_lt, ge_iff_le, Int.not_lt, Int.not_le, Bool.not_eq_true, Bool.not_eq_false, Bool.and_eq_true, Bool.true_eq_false, Bool.false_eq_true, Bool.not_eq_eq_eq_not, Bool.not_true, Bool.not_false]; omega) ?_)
    refine den_cal [bD (putS x), .bool true] rfl g1 rfl rfl ?_
    (try simp only [List.cons_append, List.nil_append])
    refine den_cal [bD b, .bool true] rfl g2 rfl rfl ?_
    (try simp only [List.cons_append, List.nil_append])
    refine den_cal [I64d x, I64d 0] rfl f2 rfl rfl ?_
    (try simp only [List.cons_append, List.nil_append])
    refine den_f rfl (den_f (by simp only [E.den, cmpB_eql, cmpB_neq, cmpB_lss, cmpB_leq, cmpB_gtr, cmpB_geq, arI_add, arI_sub, arI_mul, arI_quo, arI_rem, D.toI, D.toB, D.toL, D.toS, D.len, D.mapL, List.map_cons, List.map_nil, List.getD_cons_zero, List.getD_cons_succ, List.cons_append, List.nil_append, flatD, List.append_nil, List.length_map, List.length_append, List.length_cons, List.length_nil, decide_eq_true_eq, decide_eq_false_iff_not, beq_iff_eq, beq_eq_false_iff_ne, bne_iff_ne, bne_eq_false_iff_eq, ne_eq, Int.toNat_natCast, gt_iff_lt, ge_iff_le, Int.not_lt, Int.not_le, Bool.not_eq_true, Bool.not_eq_false, Bool.and_eq_true, Bool.true_eq_false, Bool.false_eq_true, Bool.not_eq_eq_eq_not, Bool.not_true, Bool.not_false]) ?_)
    refine den_ev (evs_ob (by simp only [E.den, cmpB_eql, cmpB_neq, cmpB_lss, cmpB_leq, cmpB_gtr, cmpB_geq, arI_add, arI_sub, arI_mul, arI_quo, arI_rem, D.toI, D.toB, D.toL, D.toS, D.len, D.mapL, List.map_cons, List.map_nil, List.getD_cons_zero, List.getD_cons_succ, List.cons_append, List.nil_append, flatD, List.append_nil, List.length_map, List.length_append, List.length_cons, List.length_nil, decide_eq_true_eq, decide_eq_false_iff_not, beq_iff_eq, beq_eq_false_iff_ne, bne_iff_ne, bne_eq_false_iff_eq, ne_eq, Int.toNat_natCast, gt_iff_lt, ge_iff_le, Int.not_lt, Int.not_le, Bool.not_eq_true, Bool.not_eq_false, Bool.and_eq_true, Bool.true_eq_false, Bool.false_eq_true, Bool.not_eq_eq_eq_not, Bool.not_true, Bool.not_false]; omega) (evs_ob (by simp only [E.den, cmpB_eql, cmpB_neq, cmpB_lss, cmpB_leq, cmpB_gtr, cmpB_geq, arI_add, arI_sub, arI_mul, arI_quo, arI_rem, D.toI, D.toB, D.toL, D.toS, D.len, D.mapL, List.map_cons, List.map_nil, List.getD_cons_zero, List.getD_cons_succ, List.cons_append, List.nil_append, flatD, List.append_nil, List.length_map, List.length_append, List.length_cons, List.length_nil, decide_eq_true_eq, decide_eq_false_iff_not, beq_iff_eq, beq_eq_false_iff_ne, bne_iff_ne, bne_eq_false_iff_eq, ne_eq, Int.toNat_natCast, gt_iff_lt, ge_iff_le, Int.not_lt, Int.not_le, Bool.not_eq_true, Bool.not_eq_false, Bool.and_eq_true, Bool.true_eq_false, Bool.false_eq_true, Bool.not_eq_eq_eq_not, Bool.not_true, Bool.not_false]; omega) (evs_nil ?_)))
    refine den_t (by simp only [E.den, cmpB_eql, cmpB_neq, cmpB_lss, cmpB_leq, cmpB_gtr, cmpB_geq, arI_add, arI_sub, arI_mul, arI_quo, arI_rem, D.toI, D.toB, D.toL, D.toS, D.len, D.mapL, List.map_cons, List.map_nil, List.getD_cons_zero, List.getD_cons_succ, List.cons_append, List.nil_append, flatD, List.append_nil, List.length_map, List.length_append, List.length_cons, List.length_nil, decide_eq_true_eq, decide_eq_false_iff_not, beq_iff_eq, beq_eq_false_iff_ne, bne_iff_ne, bne_eq_false_iff_eq, ne_eq, Int.toNat_natCast, gt_iff_lt, ge_iff_le, Int.not_lt, Int.not_le, Bool.not_eq_true, Bool.not_eq_false, Bool.and_eq_true, Bool.true_eq_false, Bool.false_eq_true, Bool.not_eq_eq_eq_not, Bool.not_true, Bool.not_false]; rw [hg] <;> (try simp only [E.den, cmpB_eql, cmpB_neq, cmpB_lss, cmpB_leq, cmpB_gtr, cmpB_geq, arI_add, arI_sub, arI_mul, arI_quo, arI_rem, D.toI, D.toB, D.toL, D.toS, D.len, D.mapL, List.map_cons, List.map_nil, List.getD_cons_zero, List.getD_cons_succ, List.cons_append, List.nil_append, flatD, List.append_nil, List.length_map, List.length_append, List.length_cons, List.length_nil, decide_eq_true_eq, decide_eq_false_iff_not, beq_iff_eq, beq_eq_false_iff_ne, bne_iff_ne, bne_eq_false_iff_eq, ne_eq, Int.toNat_natCast, gt_iff_lt, ge_iff_le, Int.not_lt, Int.not_le, Bool.not_eq_true, Bool.not_eq_false, Bool.and_eq_true, Bool.true_eq_false, Bool.false_eq_true, Bool.not_eq_eq_eq_not, Bool.not_true, Bool.not_false])) ?_
    refine den_back rfl ⟨q3, j + 1, ?_, by omega⟩ ?_
    · simp only [E.den, cmpB_eql, cmpB_neq, cmpB_lss, cmpB_leq, cmpB_gtr, cmpB_geq, arI_add, arI_sub, arI_mul, arI_quo, arI_rem, D.toI, D.toB, D.toL, D.toS, D.len, D.mapL, List.map_cons, List.map_nil, List.getD_cons_zero, List.getD_cons_succ, List.cons_append, List.nil_append, flatD, List.append_nil, List.length_map, List.length_append, List.length_cons, List.length_nil, decide_eq_true_eq, decide_eq_false_iff_not, beq_iff_eq, beq_eq_false_iff_ne, bne_iff_ne, bne_eq_false_iff_eq, ne_eq, Int.toNat_natCast, gt_iff_lt, ge_iff_le, Int.not_lt, Int.not_le, Bool.not_eq_true, Bool.not_eq_false, Bool.and_eq_true, Bool.true_eq_false, Bool.false_eq_true, Bool.not_eq_eq_eq_not, Bool.not_true, Bool.not_false]
      rw [hwx, hwj, show (cu S k).2.length + (j + 1) = x + 1 by omega]
    · simp only [innM]
      simp only [E.den, cmpB_eql, cmpB_neq, cmpB_lss, cmpB_leq, cmpB_gtr, cmpB_geq, arI_add, arI_sub, arI_mul, arI_quo, arI_rem, D.toI, D.toB, D.toL, D.toS, D.len, D.mapL, List.map_cons, List.map_nil, List.getD_cons_zero, List.getD_cons_succ, List.cons_append, List.nil_append, flatD, List.append_nil, List.length_map, List.length_append, List.length_cons, List.length_nil, decide_eq_true_eq, decide_eq_false_iff_not, beq_iff_eq, beq_eq_false_iff_ne, bne_iff_ne, bne_eq_false_iff_eq, ne_eq, Int.toNat_natCast, gt_iff_lt, ge_iff_le, Int.not_lt, Int.not_le, Bool.not_eq_true, Bool.not_eq_false, Bool.and_eq_true, Bool.true_eq_false, Bool.false_eq_true, Bool.not_eq_eq_eq_not, Bool.not_true, Bool.not_false]
      rw [hwj]
      omega
  · simp only [E.den, cmpB_eql, cmpB_neq, cmpB_lss, cmpB_leq, cmpB_gtr, cmpB_geq, arI_add, arI_sub, arI_mul, arI_quo, arI_rem, D.toI, D.toB, D.toL, D.toS, D.len, D.mapL, List.map_cons, List.map_nil, List.getD_cons_zero, List.getD_cons_succ, List.cons_append, List.nil_append, flatD, List.append_nil, List.length_map, List.length_append, List.length_cons, List.length_nil, decide_eq_true_eq, decide_eq_false_iff_not, beq_iff_eq, beq_eq_false_iff_ne, bne_iff_ne, bne_eq_false_iff_eq, ne_eq, Int.toNat_natCast, gt_iff_lt, ge_iff_le, Int.not_lt, Int.not_le, Bool.not_eq_true, Bool.not_eq_false, Bool.and_eq_true, Bool.true_eq_false, Bool.false_eq_true, Bool.not_eq_eq_eq_not, Bool.not_true, Bool.not_false] at h4
    have hjl : j = (news S k N).length := by omega
    refine den_back rfl ⟨z, q3, k + N, ?_, by omega⟩ ?_
    · simp only [E.den, cmpB_eql, cmpB_neq, cmpB_lss, cmpB_leq, cmpB_gtr, cmpB_geq, arI_add, arI_sub, arI_mul, arI_quo, arI_rem, D.toI, D.toB, D.toL, D.toS, D.len, D.mapL, List.map_cons, List.map_nil, List.getD_cons_zero, List.getD_cons_succ, List.cons_append, List.nil_append, flatD, List.append_nil, List.length_map, List.length_append, List.length_cons, List.length_nil, decide_eq_true_eq, decide_eq_false_iff_not, beq_iff_eq, beq_eq_false_iff_ne, bne_iff_ne, bne_eq_false_iff_eq, ne_eq, Int.toNat_natCast, gt_iff_lt, ge_iff_le, Int.not_lt, Int.not_le, Bool.not_eq_true, Bool.not_eq_false, Bool.and_eq_true, Bool.true_eq_false, Bool.false_eq_true, Bool.not_eq_eq_eq_not, Bool.not_true, Bool.not_false]
      rw [hw1, hw2, hN, Int.toNat_natCast, sub_row, List.take_of_length_le (Nat.le_refl _), List.drop_drop, hcn, List.length_append, hjl]
    · simp only [carM]
      simp only [E.den, cmpB_eql, cmpB_neq, cmpB_lss, cmpB_leq, cmpB_gtr, cmpB_geq, arI_add, arI_sub, arI_mul, arI_quo, arI_rem, D.toI, D.toB, D.toL, D.toS, D.len, D.mapL, List.map_cons, List.map_nil, List.getD_cons_zero, List.getD_cons_succ, List.cons_append, List.nil_append, flatD, List.append_nil, List.length_map, List.length_append, List.length_cons, List.length_nil, decide_eq_true_eq, decide_eq_false_iff_not, beq_iff_eq, beq_eq_false_iff_ne, bne_iff_ne, bne_eq_false_iff_eq, ne_eq, Int.toNat_natCast, gt_iff_lt, ge_iff_le, Int.not_lt, Int.not_le, Bool.not_eq_true, Bool.not_eq_false, Bool.and_eq_true, Bool.true_eq_false, Bool.false_eq_true, Bool.not_eq_eq_eq_not, Bool.not_true, Bool.not_false]
      rw [hw1, hw2, hN, Int.toNat_natCast]
      simp
      omega
end Go.Proofs.Ytfpmdfpnbegnhaa.L7
namespace Go.Proofs.Ytfpmdfpnbegnhaa
open Go.Proofs.Ytfpmdfpnbegnhaa.Sy Go.RowKit Go.WideShapes Go.ChangeShapes Go.ChangeAt

set_option maxRecDepth 100000 in
theorem framesCarry_lifted (os : Os) (started : os.Started) (H : Type) (enc : TypeId × Value → H) :
    ReturnsInHanded {} Try.checked os 11 .any (Rows.framesCarrySpec.pre6 enc Try.prog Try.f11 Rows.framesCarryRow.domain false) (Rows.framesCarrySpec.post enc Try.prog Try.f11 false true false false) := by
  refine returnsInHanded_of_change (C := Try.checked) own started (by kernel_rfl) Try.func11
    (ChangeSpec.witness6 (enc := enc) (C := Try.checked) false ⟨#[], #[.slice none 0 0, .int .u8 0], []⟩ 8 (by kernel_rfl) (by kernel_rfl) (by kernel_rfl) (by kernel_rfl)) ?_
  intro W base args ds gs before hval0 hW hcnd _
  have hval : ∀ (j : Nat) t v, Try.f11.params[j]? = some t → args[j]? = some v → Value.okWide Try.prog W .any base t v := hval0
  obtain ⟨q, q', hA0, _, _, _, _⟩ := id hW
  have hA : DataW.TrodAll enc Try.prog W 0 (fun _ => true) true Try.f11.params.toList args.toList ds q := hA0
  have walk := law_walk (P := Try.prog) (f := 11) (fn := Try.f11) (fun p hp => by cases hp) (Ts := [tYY, .c (.int .u8)]) (by kernel_rfl) L7.law_all hval hA
  rw [Try.params11] at hA
  obtain ⟨v0, vs0, d0, ds0, p0, q0, hargs0, rfl, rfl, h0, r0⟩ := trodAll_cons hA
  obtain ⟨v1, vs1, d1, ds1, p1, q1, hargs1, rfl, rfl, h1, r1⟩ := trodAll_cons r0
  subst hargs1
  obtain ⟨rfl, rfl, rfl⟩ := trodAll_nil r1
  refine walk.mono fun e W' ⟨he, hb⟩ => ?_
  subst he
  exact ⟨_, rfl, law_post (tb := 4) laidOut rfl (by kernel_rfl) rfl Try.underlying4 hW rfl hb⟩

theorem framesCarry_holds : Rows.FramesCarrySaid :=
  OpenClaim.holds_of_wide 11 Try.f11 rfl rfl rfl rfl rfl rfl rfl ⟨rfl, rfl, rfl, rfl, rfl⟩ rfl rfl rfl rfl rfl (by kernel_rfl) Try.func11 (by kernel_rfl)
    (of_decide_eq_true (by kernel_rfl)) (by unfold Func.isWrapper; first | (rw [if_pos (by decide +kernel)]; kernel_rfl) | (rw [if_neg (by decide +kernel)]; exact ⟨rfl, rfl⟩))
    (fun os started H enc _ => framesCarry_lifted os started H enc)
#print axioms framesCarry_holds
end Go.Proofs.Ytfpmdfpnbegnhaa
