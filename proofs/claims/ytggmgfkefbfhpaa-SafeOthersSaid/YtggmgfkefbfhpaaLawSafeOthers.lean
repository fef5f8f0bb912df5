/-
  SafeOthers: its walk and its row.
-/
import Derived.Test.YtggmgfkefbfhpaaSy33d
set_option maxRecDepth 100000
set_option linter.unusedSimpArgs false
set_option linter.unusedVariables false
namespace Go.Proofs.Ytggmgfkefbfhpaa
open Go.Proofs.Ytggmgfkefbfhpaa.Sy Go.RowKit Go.WideShapes Go.ChangeShapes Go.ChangeAt
def vcLaw : VC := (.ite (.cmp .gtr (.len (.v 3)) (.ki .i64 1000))
 (.cal 10 [] [] [(.c .bool)] 8
  (.ret [(.v 8)]))
 (.cal 11 [(.g [(.int .i64), (.int .i64), (.int .i64), (.lst [(.int .i64)])])] [(.rc (.cons (.v 0) (.cons (.v 1) (.cons (.v 2) (.cons (.v 3) .nil)))))] [(.c (.int .i64))] 8
  (.ite (.cmp .neq (.v 8) (.ki .i64 0))
   (.cal 10 [] [] [(.c .bool)] 9
    (.ret [(.v 9)]))
   (.cal 20 [(.g [(.int .i64), (.int .i64), (.int .i64), (.lst [(.int .i64)])]), (.c (.int .i64)), (.c (.int .i64)), (.c (.int .i64))] [(.rc (.cons (.v 0) (.cons (.v 1) (.cons (.v 2) (.cons (.v 3) .nil))))), (.v 4), (.v 5), (.v 6)] [(.g [(.int .i64), (.int .i64), (.int .i64), (.lst [(.int .i64)])]), (.c .bool)] 9
    (.ite (.cmp .neq (.len (.v 12)) (.len (.v 3)))
     (.ret [(.kb false)])
     (.ite (.cmp .neq (.v 9) (.v 0))
      (.ret [(.kb false)])
      (.ite (.cmp .neq (.v 10) (.v 1))
       (.ret [(.kb false)])
       (.ite (.cmp .neq (.v 11) (.v 2))
        (.ret [(.kb false)])
        (.cal 11 [(.g [(.int .i64), (.int .i64), (.int .i64), (.lst [(.int .i64)])])] [(.rc (.cons (.v 9) (.cons (.v 10) (.cons (.v 11) (.cons (.v 12) .nil)))))] [(.c (.int .i64))] 14
         (.ite (.cmp .neq (.v 14) (.ki .i64 0))
          (.ret [(.kb false)])
          (.loop [.bool, (.int .i64)] [(.kb false), (.ki .i64 0)]
           (.ite (.cmp .lss (.v 16) (.len (.v 3)))
            (.ite (.cmp .neq (.v 16) (.ar .sub .i64 (.v 4) (.ki .i64 1)))
             (.ev [(.ob (.cmp .geq (.v 16) (.ki .i64 0))), (.ob (.cmp .lss (.v 16) (.len (.v 12)))), (.ob (.cmp .geq (.v 16) (.ki .i64 0))), (.ob (.cmp .lss (.v 16) (.len (.v 3))))]
              (.ite (.cmp .neq (.get (.v 12) (.v 16)) (.get (.v 3) (.v 16)))
               (.ret [(.kb false)])
               (.back 0 [(.v 15), (.ar .add .i64 (.v 16) (.ki .i64 1))])))
             (.back 0 [(.v 15), (.ar .add .i64 (.v 16) (.ki .i64 1))]))
            (.cal 18 [(.g [(.int .i64), (.int .i64), (.int .i64), (.lst [(.int .i64)])]), (.c (.int .i64)), (.c (.int .i64))] [(.rc (.cons (.v 0) (.cons (.v 1) (.cons (.v 2) (.cons (.v 3) .nil))))), (.v 7), (.v 6)] [(.c (.int .i64))] 17
             (.ite (.cmp .gtr (.v 17) (.v 6))
              (.ret [(.kb false)])
              (.ite (.cmp .eql (.v 1) (.ki .i64 0))
               (.ite (.cmp .neq (.v 17) (.v 6))
                (.ret [(.kb false)])
                (.cal 10 [] [] [(.c .bool)] 18
                 (.ret [(.v 18)])))
               (.ite (.cmp .lss (.v 7) (.ar .add .i64 (.v 0) (.v 1)))
                (.ite (.cmp .neq (.v 17) (.v 6))
                 (.ret [(.kb false)])
                 (.cal 10 [] [] [(.c .bool)] 18
                  (.ret [(.v 18)])))
                (.cal 10 [] [] [(.c .bool)] 18
                 (.ret [(.v 18)]))))))))))))))))))
set_option maxHeartbeats 4000000 in
theorem law_all (xs : List D) (h : TypTs [tSf, tMn, tI] xs) : Fun Try.prog [] 9 [tSf, tMn, tI] xs [.c .bool] (.ok [.bool true]) := by
  obtain ⟨d, _, rfl, h1, _, _, rfl, h2, _, _, rfl, h3, rfl⟩ := h
  obtain ⟨c, t, f, L, rfl, hc, ht, hf, hx⟩ := typ_sf h1
  obtain ⟨k, m, l, rfl, _, _, hl⟩ := typ_mn h2
  obtain ⟨now, rfl, hn⟩ := typ_int h3
  refine fun_of_gen hP Try.func9 rfl (by decide) (sg := sgs) (v := vcLaw) (by kernel_rfl) ?_
  unfold vcLaw
  refine den_ite (fun h => ex_end (den_ret rfl)) (fun h => ?_)
  have hL : L.length ≤ 1000 := by simp only [sf] at h; (try simp only [E.den, cmpB, arI, D.toI, D.toB, D.toL, D.len, D.mapL, D.cells, List.map_cons, List.map_nil, List.getD_cons_zero, List.getD_cons_succ, List.cons_append, List.nil_append, flatD, List.length_map, List.length_set, gt_iff_lt, ge_iff_le, beq_iff_eq, bne_iff_ne, ne_eq, decide_eq_true_eq, decide_eq_false_iff_not, Bool.not_eq_true, Bool.not_eq_false, beq_eq_false_iff_ne, Int.not_lt, Int.not_le, Decidable.not_not, Bool.false_eq_true, Bool.true_eq_false, bne_eq_false_iff_eq] at *); omega
  clear h
  refine den_cal [.int .i64 _] rfl (valid_fn c t f L (by omega)) rfl rfl ?_
  refine den_ite (fun h => ex_end (den_ret rfl)) (fun h => ?_)
  have ho : okSf c t f L := by simp only [sf] at h; (try simp only [E.den, cmpB, arI, D.toI, D.toB, D.toL, D.len, D.mapL, D.cells, List.map_cons, List.map_nil, List.getD_cons_zero, List.getD_cons_succ, List.cons_append, List.nil_append, flatD, List.length_map, List.length_set, gt_iff_lt, ge_iff_le, beq_iff_eq, bne_iff_ne, ne_eq, decide_eq_true_eq, decide_eq_false_iff_not, Bool.not_eq_true, Bool.not_eq_false, beq_eq_false_iff_ne, Int.not_lt, Int.not_le, Decidable.not_not, Bool.false_eq_true, Bool.true_eq_false, bne_eq_false_iff_eq] at *); exact sfE0.1 h
  clear h
  refine den_cal [I64d c, I64d t, I64d f, .lst ((wL c t f L k m l).map I64d), .bool _] rfl (watch_fn c t f L k m l (by omega)) rfl rfl ?_
  have hlen := wL_length c t f L k m l
  refine den_ite (fun h => ?_) (fun h => ?_)
  · exfalso; simp only [sf] at h; (try simp only [E.den, cmpB, arI, D.toI, D.toB, D.toL, D.len, D.mapL, D.cells, List.map_cons, List.map_nil, List.getD_cons_zero, List.getD_cons_succ, List.cons_append, List.nil_append, flatD, List.length_map, List.length_set, gt_iff_lt, ge_iff_le, beq_iff_eq, bne_iff_ne, ne_eq, decide_eq_true_eq, decide_eq_false_iff_not, Bool.not_eq_true, Bool.not_eq_false, beq_eq_false_iff_ne, Int.not_lt, Int.not_le, Decidable.not_not, Bool.false_eq_true, Bool.true_eq_false, bne_eq_false_iff_eq] at *); simp [hlen] at h
  refine den_ite (fun h => ?_) (fun h => ?_)
  · exfalso; simp only [sf] at h; (try simp only [E.den, cmpB, arI, D.toI, D.toB, D.toL, D.len, D.mapL, D.cells, List.map_cons, List.map_nil, List.getD_cons_zero, List.getD_cons_succ, List.cons_append, List.nil_append, flatD, List.length_map, List.length_set, gt_iff_lt, ge_iff_le, beq_iff_eq, bne_iff_ne, ne_eq, decide_eq_true_eq, decide_eq_false_iff_not, Bool.not_eq_true, Bool.not_eq_false, beq_eq_false_iff_ne, Int.not_lt, Int.not_le, Decidable.not_not, Bool.false_eq_true, Bool.true_eq_false, bne_eq_false_iff_eq] at *); first | exact h rfl | exact h trivial | exact h
  refine den_ite (fun h => ?_) (fun h => ?_)
  · exfalso; simp only [sf] at h; (try simp only [E.den, cmpB, arI, D.toI, D.toB, D.toL, D.len, D.mapL, D.cells, List.map_cons, List.map_nil, List.getD_cons_zero, List.getD_cons_succ, List.cons_append, List.nil_append, flatD, List.length_map, List.length_set, gt_iff_lt, ge_iff_le, beq_iff_eq, bne_iff_ne, ne_eq, decide_eq_true_eq, decide_eq_false_iff_not, Bool.not_eq_true, Bool.not_eq_false, beq_eq_false_iff_ne, Int.not_lt, Int.not_le, Decidable.not_not, Bool.false_eq_true, Bool.true_eq_false, bne_eq_false_iff_eq] at *); first | exact h rfl | exact h trivial | exact h
  refine den_ite (fun h => ?_) (fun h => ?_)
  · exfalso; simp only [sf] at h; (try simp only [E.den, cmpB, arI, D.toI, D.toB, D.toL, D.len, D.mapL, D.cells, List.map_cons, List.map_nil, List.getD_cons_zero, List.getD_cons_succ, List.cons_append, List.nil_append, flatD, List.length_map, List.length_set, gt_iff_lt, ge_iff_le, beq_iff_eq, bne_iff_ne, ne_eq, decide_eq_true_eq, decide_eq_false_iff_not, Bool.not_eq_true, Bool.not_eq_false, beq_eq_false_iff_ne, Int.not_lt, Int.not_le, Decidable.not_not, Bool.false_eq_true, Bool.true_eq_false, bne_eq_false_iff_eq] at *); first | exact h rfl | exact h trivial | exact h
  clear h
  have hv := valid_fn c t f (wL c t f L k m l) (by rw [hlen]; omega)
  have e : sfE c t f (wL c t f L k m l) = 0 := sfE0.2 (wL_ok ho)
  rw [e] at hv
  refine den_cal [.int .i64 0] rfl hv rfl rfl ?_
  refine den_ite (fun h => ?_) (fun h => ?_)
  · exfalso; simp only [sf] at h; (try simp only [E.den, cmpB, arI, D.toI, D.toB, D.toL, D.len, D.mapL, D.cells, List.map_cons, List.map_nil, List.getD_cons_zero, List.getD_cons_succ, List.cons_append, List.nil_append, flatD, List.length_map, List.length_set, gt_iff_lt, ge_iff_le, beq_iff_eq, bne_iff_ne, ne_eq, decide_eq_true_eq, decide_eq_false_iff_not, Bool.not_eq_true, Bool.not_eq_false, beq_eq_false_iff_ne, Int.not_lt, Int.not_le, Decidable.not_not, Bool.false_eq_true, Bool.true_eq_false, bne_eq_false_iff_eq] at *); first | exact h rfl | exact h trivial | exact h
  clear h
  have hW : ∀ i : Int, 0 ≤ i → i < L.length → ((wL c t f L k m l).map I64d).getD i.toNat default = I64d ((wL c t f L k m l).getD i.toNat 0) := fun i h0 h1 => get_I h0 (by rw [hlen]; exact h1)
  have hWg : ∀ i : Int, 0 ≤ i → i < L.length → i ≠ k - 1 → (wL c t f L k m l).getD i.toNat 0 = L.getD i.toNat 0 := fun i h0 h1 h2 => wL_get h0 h1 h2
  generalize wL c t f L k m l = M at *
  generalize wB c t f L k m l = b at *
  simp only [sf]
  (try simp only [List.cons_append, List.nil_append])
  refine den_loop (stS L.length) (stVm L.length) ⟨false, 0, rfl, by omega, by omega⟩ ?_
  simp only [AllSh]
  intro a i _ _ ⟨a', i', he, hi0, hi1⟩
  simp only [List.cons.injEq, D.int.injEq, D.bool.injEq, true_and, and_true] at he
  obtain ⟨rfl, rfl⟩ := he
  (try simp only [E.den, cmpB, arI, D.toI, D.toB, D.toL, D.len, D.mapL, D.cells, List.map_cons, List.map_nil, List.getD_cons_zero, List.getD_cons_succ, List.cons_append, List.nil_append, flatD, List.length_map, List.length_set, gt_iff_lt, ge_iff_le, beq_iff_eq, bne_iff_ne, ne_eq, decide_eq_true_eq, decide_eq_false_iff_not, Bool.not_eq_true, Bool.not_eq_false, beq_eq_false_iff_ne, Int.not_lt, Int.not_le, Decidable.not_not, Bool.false_eq_true, Bool.true_eq_false, bne_eq_false_iff_eq] at *)
  refine den_ite (fun h => ?_) (fun h => ?_)
  · have hi2 : i < L.length := by (try simp only [E.den, cmpB, arI, D.toI, D.toB, D.toL, D.len, D.mapL, D.cells, List.map_cons, List.map_nil, List.getD_cons_zero, List.getD_cons_succ, List.cons_append, List.nil_append, flatD, List.length_map, List.length_set, gt_iff_lt, ge_iff_le, beq_iff_eq, bne_iff_ne, ne_eq, decide_eq_true_eq, decide_eq_false_iff_not, Bool.not_eq_true, Bool.not_eq_false, beq_eq_false_iff_ne, Int.not_lt, Int.not_le, Decidable.not_not, Bool.false_eq_true, Bool.true_eq_false, bne_eq_false_iff_eq] at *); exact h
    have hw : IntKind.wrap .i64 (i + 1) = i + 1 := wrap_i64 (by omega) (by omega)
    have hb : ∀ c' ρ, VC.den Try.prog [] (fun r' => r' = .ok [.bool true]) (.back 0 [.v 15, .ar .add .i64 (.v 16) (.ki .i64 1)]) [⟨stS L.length, stVm L.length, stVm L.length [.bool a, I64d i]⟩] (I64d c :: I64d t :: I64d f :: .lst (L.map I64d) :: I64d k :: I64d m :: I64d l :: I64d now :: I64d c' :: ρ :: I64d t :: I64d f :: .lst (M.map I64d) :: .bool b :: I64d 0 :: .bool a :: I64d i :: []) := by
      intro c' ρ
      refine den_back rfl ⟨a, i + 1, ?_, by omega, by omega⟩ ?_
      · (try simp only [E.den, cmpB, arI, D.toI, D.toB, D.toL, D.len, D.mapL, D.cells, List.map_cons, List.map_nil, List.getD_cons_zero, List.getD_cons_succ, List.cons_append, List.nil_append, flatD, List.length_map, List.length_set, gt_iff_lt, ge_iff_le, beq_iff_eq, bne_iff_ne, ne_eq, decide_eq_true_eq, decide_eq_false_iff_not, Bool.not_eq_true, Bool.not_eq_false, beq_eq_false_iff_ne, Int.not_lt, Int.not_le, Decidable.not_not, Bool.false_eq_true, Bool.true_eq_false, bne_eq_false_iff_eq]); simp [hw]
      · simp only [stVm]; (try simp only [E.den, cmpB, arI, D.toI, D.toB, D.toL, D.len, D.mapL, D.cells, List.map_cons, List.map_nil, List.getD_cons_zero, List.getD_cons_succ, List.cons_append, List.nil_append, flatD, List.length_map, List.length_set, gt_iff_lt, ge_iff_le, beq_iff_eq, bne_iff_ne, ne_eq, decide_eq_true_eq, decide_eq_false_iff_not, Bool.not_eq_true, Bool.not_eq_false, beq_eq_false_iff_ne, Int.not_lt, Int.not_le, Decidable.not_not, Bool.false_eq_true, Bool.true_eq_false, bne_eq_false_iff_eq]); simp [hw]; omega
    refine den_ite (fun h => ?_) (fun h => hb _ _)
    (try simp only [E.den, cmpB, arI, D.toI, D.toB, D.toL, D.len, D.mapL, D.cells, List.map_cons, List.map_nil, List.getD_cons_zero, List.getD_cons_succ, List.cons_append, List.nil_append, flatD, List.length_map, List.length_set, gt_iff_lt, ge_iff_le, beq_iff_eq, bne_iff_ne, ne_eq, decide_eq_true_eq, decide_eq_false_iff_not, Bool.not_eq_true, Bool.not_eq_false, beq_eq_false_iff_ne, Int.not_lt, Int.not_le, Decidable.not_not, Bool.false_eq_true, Bool.true_eq_false, bne_eq_false_iff_eq] at *)
    refine den_ev (evs_ob (by (try simp only [E.den, cmpB, arI, D.toI, D.toB, D.toL, D.len, D.mapL, D.cells, List.map_cons, List.map_nil, List.getD_cons_zero, List.getD_cons_succ, List.cons_append, List.nil_append, flatD, List.length_map, List.length_set, gt_iff_lt, ge_iff_le, beq_iff_eq, bne_iff_ne, ne_eq, decide_eq_true_eq, decide_eq_false_iff_not, Bool.not_eq_true, Bool.not_eq_false, beq_eq_false_iff_ne, Int.not_lt, Int.not_le, Decidable.not_not, Bool.false_eq_true, Bool.true_eq_false, bne_eq_false_iff_eq]); exact hi0) (evs_ob (by (try simp only [E.den, cmpB, arI, D.toI, D.toB, D.toL, D.len, D.mapL, D.cells, List.map_cons, List.map_nil, List.getD_cons_zero, List.getD_cons_succ, List.cons_append, List.nil_append, flatD, List.length_map, List.length_set, gt_iff_lt, ge_iff_le, beq_iff_eq, bne_iff_ne, ne_eq, decide_eq_true_eq, decide_eq_false_iff_not, Bool.not_eq_true, Bool.not_eq_false, beq_eq_false_iff_ne, Int.not_lt, Int.not_le, Decidable.not_not, Bool.false_eq_true, Bool.true_eq_false, bne_eq_false_iff_eq]); simp only [hlen]; exact hi2) (evs_ob (by (try simp only [E.den, cmpB, arI, D.toI, D.toB, D.toL, D.len, D.mapL, D.cells, List.map_cons, List.map_nil, List.getD_cons_zero, List.getD_cons_succ, List.cons_append, List.nil_append, flatD, List.length_map, List.length_set, gt_iff_lt, ge_iff_le, beq_iff_eq, bne_iff_ne, ne_eq, decide_eq_true_eq, decide_eq_false_iff_not, Bool.not_eq_true, Bool.not_eq_false, beq_eq_false_iff_ne, Int.not_lt, Int.not_le, Decidable.not_not, Bool.false_eq_true, Bool.true_eq_false, bne_eq_false_iff_eq]); exact hi0) (evs_ob (by (try simp only [E.den, cmpB, arI, D.toI, D.toB, D.toL, D.len, D.mapL, D.cells, List.map_cons, List.map_nil, List.getD_cons_zero, List.getD_cons_succ, List.cons_append, List.nil_append, flatD, List.length_map, List.length_set, gt_iff_lt, ge_iff_le, beq_iff_eq, bne_iff_ne, ne_eq, decide_eq_true_eq, decide_eq_false_iff_not, Bool.not_eq_true, Bool.not_eq_false, beq_eq_false_iff_ne, Int.not_lt, Int.not_le, Decidable.not_not, Bool.false_eq_true, Bool.true_eq_false, bne_eq_false_iff_eq]); exact hi2) (evs_nil ?_)))))
    refine den_ite (fun h2 => ?_) (fun h2 => hb _ _)
    exfalso
    by_cases hk : i = k - 1
    · have hwk : IntKind.wrap .i64 (k - 1) = k - 1 := wrap_i64 (by omega) (by omega)
      rw [hwk] at h
      exact h hk
    have e1 := hW i hi0 hi2
    have e2 := hWg i hi0 hi2 hk
    have e3 := get_I hi0 hi2
    (try simp only [E.den, cmpB, arI, D.toI, D.toB, D.toL, D.len, D.mapL, D.cells, List.map_cons, List.map_nil, List.getD_cons_zero, List.getD_cons_succ, List.cons_append, List.nil_append, flatD, List.length_map, List.length_set, gt_iff_lt, ge_iff_le, beq_iff_eq, bne_iff_ne, ne_eq, decide_eq_true_eq, decide_eq_false_iff_not, Bool.not_eq_true, Bool.not_eq_false, beq_eq_false_iff_ne, Int.not_lt, Int.not_le, Decidable.not_not, Bool.false_eq_true, Bool.true_eq_false, bne_eq_false_iff_eq] at *)
    rw [e1, e2, e3] at h2
    exact h2 rfl
  · clear hW hWg hlen hv h
    have hwt : IntKind.wrap .i64 (c + t) = c + t := by have := ho; unfold okSf at this; exact wrap_i64 (by omega) (by omega)
    have q1 : (if t ≠ 0 ∧ c + t ≤ now then min l f else l) ≤ l := by split <;> omega
    have q2 : (t = 0 ∨ now < c + t) → (if t ≠ 0 ∧ c + t ≤ now then min l f else l) = l := by intro h; split <;> omega
    have hc := limit_fn c t f L now l ho hn
    generalize (if t ≠ 0 ∧ c + t ≤ now then min l f else l) = q at *
    refine den_cal [.int .i64 _] rfl hc rfl rfl ?_
    (try simp only [List.cons_append, List.nil_append])
    clear hc
    refine den_ite (fun h => ?_) (fun h => ?_)
    · exfalso; simp only [E.den, cmpB, D.toI, D.toB, List.getD_cons_zero, List.getD_cons_succ, decide_eq_true_eq] at h; omega
    clear h
    refine den_ite (fun h => den_ite (fun h2 => ?_) (fun h2 => ex_end (den_ret rfl))) (fun h => den_ite (fun h2 => den_ite (fun h3 => ?_) (fun h3 => ex_end (den_ret rfl))) (fun h2 => ex_end (den_ret rfl)))
    · exfalso
      simp only [E.den, cmpB, D.toI, D.toB, List.getD_cons_zero, List.getD_cons_succ, beq_iff_eq, bne_iff_ne] at h h2
      exact h2 (q2 (.inl h))
    · exfalso
      simp only [E.den, cmpB, arI, D.toI, D.toB, List.getD_cons_zero, List.getD_cons_succ, decide_eq_true_eq, bne_iff_ne, hwt] at h2 h3
      exact h3 (q2 (.inr h2))

set_option maxRecDepth 100000 in
theorem safeOthers_lifted (os : Os) (started : os.Started) (H : Type) (enc : TypeId × Value → H) :
    ReturnsInHanded {} Try.checked os 9 .any (Rows.safeOthersSpec.pre6 enc Try.prog Try.f9 Rows.safeOthersRow.domain false) (Rows.safeOthersSpec.post enc Try.prog Try.f9 false true false false) := by
  refine returnsInHanded_of_change (C := Try.checked) own started (by kernel_rfl) Try.func9
    (ChangeSpec.witness6 (enc := enc) (C := Try.checked) false ⟨#[], #[.agg #[.int .i64 0, .int .i64 0, .int .i64 0, .slice none 0 0], .agg #[.int .i64 0, .int .i64 0, .int .i64 0], .int .i64 0], []⟩ 8 (by kernel_rfl) (by kernel_rfl) (by kernel_rfl) (by kernel_rfl)) ?_
  intro W base args ds gs before hval0 hW hcnd _
  have hval : ∀ (j : Nat) t v, Try.f9.params[j]? = some t → args[j]? = some v → Value.okWide Try.prog W .any base t v := hval0
  obtain ⟨q, q', hA0, _, _, _, _⟩ := id hW
  have hA : DataW.TrodAll enc Try.prog W 0 (fun _ => true) true Try.f9.params.toList args.toList ds q := hA0
  have walk := law_walk (P := Try.prog) (f := 9) (fn := Try.f9) (fun p hp => by cases hp) (Ts := [tSf, tMn, tI]) (by kernel_rfl) law_all hval hA
  rw [Try.params9] at hA
  obtain ⟨v0, vs0, d0, ds0, p0, q0, hargs0, rfl, rfl, h0, r0⟩ := trodAll_cons hA
  obtain ⟨v1, vs1, d1, ds1, p1, q1, hargs1, rfl, rfl, h1, r1⟩ := trodAll_cons r0
  subst hargs1
  obtain ⟨v2, vs2, d2, ds2, p2, q2, hargs2, rfl, rfl, h2, r2⟩ := trodAll_cons r1
  subst hargs2
  obtain ⟨rfl, rfl, rfl⟩ := trodAll_nil r2
  refine walk.mono fun e W' ⟨he, hb⟩ => ?_
  subst he
  exact ⟨_, rfl, law_post (tb := 4) laidOut rfl (by kernel_rfl) rfl Try.underlying4 hW rfl hb⟩

theorem safeOthers_holds : Rows.SafeOthersSaid :=
  OpenClaim.holds_of_wide 9 Try.f9 rfl rfl rfl rfl rfl rfl rfl ⟨rfl, rfl, rfl, rfl, rfl⟩ rfl rfl rfl rfl rfl (by kernel_rfl) Try.func9 (by kernel_rfl)
    (of_decide_eq_true (by kernel_rfl)) (by unfold Func.isWrapper; first | (rw [if_pos (by decide +kernel)]; kernel_rfl) | (rw [if_neg (by decide +kernel)]; exact ⟨rfl, rfl⟩))
    (fun os started H enc _ => safeOthers_lifted os started H enc)
#print axioms safeOthers_holds
end Go.Proofs.Ytggmgfkefbfhpaa
