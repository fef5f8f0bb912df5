/-
  SafeWatches: its walk and its row.
-/
import Derived.Test.YtggmgfkefbfhpaaSy33d
set_option maxRecDepth 100000
set_option linter.unusedSimpArgs false
set_option linter.unusedVariables false
namespace Go.Proofs.Ytggmgfkefbfhpaa
open Go.Proofs.Ytggmgfkefbfhpaa.Sy Go.RowKit Go.WideShapes Go.ChangeShapes Go.ChangeAt
def vcLaw : VC := (.ite (.cmp .gtr (.len (.v 3)) (.ki .i64 1000))
 (.cal 10 [] [] [(.c .bool)] 7
  (.ret [(.v 7)]))
 (.cal 20 [(.g [(.int .i64), (.int .i64), (.int .i64), (.lst [(.int .i64)])]), (.c (.int .i64)), (.c (.int .i64)), (.c (.int .i64))] [(.rc (.cons (.v 0) (.cons (.v 1) (.cons (.v 2) (.cons (.v 3) .nil))))), (.v 4), (.v 5), (.v 6)] [(.g [(.int .i64), (.int .i64), (.int .i64), (.lst [(.int .i64)])]), (.c .bool)] 7
  (.cal 21 [(.g [(.int .i64), (.int .i64), (.int .i64), (.lst [(.int .i64)])]), (.c (.int .i64)), (.c (.int .i64)), (.c (.int .i64))] [(.rc (.cons (.v 0) (.cons (.v 1) (.cons (.v 2) (.cons (.v 3) .nil))))), (.v 4), (.v 5), (.v 6)] [(.g [(.int .i64), (.int .i64), (.int .i64), (.lst [(.int .i64)])]), (.c .bool)] 12
   (.ite (.beq (.v 11) (.v 16))
    (.cal 15 [(.g [(.int .i64), (.int .i64), (.int .i64), (.lst [(.int .i64)])]), (.g [(.int .i64), (.int .i64), (.int .i64), (.lst [(.int .i64)])])] [(.rc (.cons (.v 7) (.cons (.v 8) (.cons (.v 9) (.cons (.v 10) .nil))))), (.rc (.cons (.v 12) (.cons (.v 13) (.cons (.v 14) (.cons (.v 15) .nil)))))] [(.c .bool)] 17
     (.ite (.v 17)
      (.cal 10 [] [] [(.c .bool)] 18
       (.ret [(.v 18)]))
      (.ret [(.kb false)])))
    (.ret [(.kb false)])))))
theorem law_all (xs : List D) (h : TypTs [tSf, tMn] xs) : Fun Try.prog [] 7 [tSf, tMn] xs [.c .bool] (.ok [.bool true]) := by
  obtain ⟨d, _, rfl, h1, _, _, rfl, h2, rfl⟩ := h
  obtain ⟨c, t, f, L, rfl, hc, ht, hf, hx⟩ := typ_sf h1
  obtain ⟨k, m, l, rfl, _⟩ := typ_mn h2
  refine fun_of_gen hP Try.func7 rfl (by decide) (sg := sgs) (v := vcLaw) (by kernel_rfl) ?_
  unfold vcLaw
  refine den_ite (fun h => ex_end (den_ret rfl)) (fun h => ?_)
  have hL : L.length ≤ 1000 := by simp only [sf] at h; (try simp only [E.den, cmpB, arI, D.toI, D.toB, D.toL, D.len, D.mapL, D.cells, List.map_cons, List.map_nil, List.getD_cons_zero, List.getD_cons_succ, List.cons_append, List.nil_append, flatD, List.length_map, List.length_set, gt_iff_lt, ge_iff_le, beq_iff_eq, bne_iff_ne, ne_eq, decide_eq_true_eq, decide_eq_false_iff_not, Bool.not_eq_true, Bool.not_eq_false, beq_eq_false_iff_ne, Int.not_lt, Int.not_le, Decidable.not_not, Bool.false_eq_true, Bool.true_eq_false, bne_eq_false_iff_eq] at *); omega
  clear h
  refine den_cal [I64d c, I64d t, I64d f, .lst ((wL c t f L k m l).map I64d), .bool _] rfl (watch_fn c t f L k m l (by omega)) rfl rfl ?_
  refine den_cal [I64d c, I64d t, I64d f, .lst ((wL c t f L k m l).map I64d), .bool _] rfl (rwatch_fn c t f L k m l (by omega)) rfl rfl ?_
  refine den_ite (fun h => ?_) (fun h => ?_)
  · refine den_cal [.bool true] rfl (same_fn c t f (wL c t f L k m l) (by rw [wL_length]; omega)) rfl rfl ?_
    exact den_ite (fun h => ex_end (den_ret rfl)) (fun h => by cases h)
  · exfalso
    simp only [sf] at h
    (try simp only [E.den, cmpB, arI, D.toI, D.toB, D.toL, D.len, D.mapL, D.cells, List.map_cons, List.map_nil, List.getD_cons_zero, List.getD_cons_succ, List.cons_append, List.nil_append, flatD, List.length_map, List.length_set, gt_iff_lt, ge_iff_le, beq_iff_eq, bne_iff_ne, ne_eq, decide_eq_true_eq, decide_eq_false_iff_not, Bool.not_eq_true, Bool.not_eq_false, beq_eq_false_iff_ne, Int.not_lt, Int.not_le, Decidable.not_not, Bool.false_eq_true, Bool.true_eq_false, bne_eq_false_iff_eq] at *)
    first | exact h rfl | exact h trivial | exact h

set_option maxRecDepth 100000 in
theorem safeWatches_lifted (os : Os) (started : os.Started) (H : Type) (enc : TypeId × Value → H) :
    ReturnsInHanded {} Try.checked os 7 .any (Rows.safeWatchesSpec.pre6 enc Try.prog Try.f7 Rows.safeWatchesRow.domain false) (Rows.safeWatchesSpec.post enc Try.prog Try.f7 false true false false) := by
  refine returnsInHanded_of_change (C := Try.checked) own started (by kernel_rfl) Try.func7
    (ChangeSpec.witness6 (enc := enc) (C := Try.checked) false ⟨#[], #[.agg #[.int .i64 0, .int .i64 0, .int .i64 0, .slice none 0 0], .agg #[.int .i64 0, .int .i64 0, .int .i64 0]], []⟩ 8 (by kernel_rfl) (by kernel_rfl) (by kernel_rfl) (by kernel_rfl)) ?_
  intro W base args ds gs before hval0 hW hcnd _
  have hval : ∀ (j : Nat) t v, Try.f7.params[j]? = some t → args[j]? = some v → Value.okWide Try.prog W .any base t v := hval0
  obtain ⟨q, q', hA0, _, _, _, _⟩ := id hW
  have hA : DataW.TrodAll enc Try.prog W 0 (fun _ => true) true Try.f7.params.toList args.toList ds q := hA0
  have walk := law_walk (P := Try.prog) (f := 7) (fn := Try.f7) (fun p hp => by cases hp) (Ts := [tSf, tMn]) (by kernel_rfl) law_all hval hA
  rw [Try.params7] at hA
  obtain ⟨v0, vs0, d0, ds0, p0, q0, hargs0, rfl, rfl, h0, r0⟩ := trodAll_cons hA
  obtain ⟨v1, vs1, d1, ds1, p1, q1, hargs1, rfl, rfl, h1, r1⟩ := trodAll_cons r0
  subst hargs1
  obtain ⟨rfl, rfl, rfl⟩ := trodAll_nil r1
  refine walk.mono fun e W' ⟨he, hb⟩ => ?_
  subst he
  exact ⟨_, rfl, law_post (tb := 4) laidOut rfl (by kernel_rfl) rfl Try.underlying4 hW rfl hb⟩

theorem safeWatches_holds : Rows.SafeWatchesSaid :=
  OpenClaim.holds_of_wide 7 Try.f7 rfl rfl rfl rfl rfl rfl rfl ⟨rfl, rfl, rfl, rfl, rfl⟩ rfl rfl rfl rfl rfl (by kernel_rfl) Try.func7 (by kernel_rfl)
    (of_decide_eq_true (by kernel_rfl)) (by unfold Func.isWrapper; first | (rw [if_pos (by decide +kernel)]; kernel_rfl) | (rw [if_neg (by decide +kernel)]; exact ⟨rfl, rfl⟩))
    (fun os started H enc _ => safeWatches_lifted os started H enc)
#print axioms safeWatches_holds
end Go.Proofs.Ytggmgfkefbfhpaa
