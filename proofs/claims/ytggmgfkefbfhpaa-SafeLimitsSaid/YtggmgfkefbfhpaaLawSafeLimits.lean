/-
  SafeLimits: its walk and its row.
-/
import Derived.Test.YtggmgfkefbfhpaaSy33c
set_option maxRecDepth 100000
set_option linter.unusedSimpArgs false
set_option linter.unusedVariables false
namespace Go.Proofs.Ytggmgfkefbfhpaa
open Go.Proofs.Ytggmgfkefbfhpaa.Sy Go.RowKit Go.WideShapes Go.ChangeShapes Go.ChangeAt
def vcLaw : VC := (.ite (.cmp .gtr (.len (.v 3)) (.ki .i64 1000))
 (.cal 10 [] [] [(.c .bool)] 6
  (.ret [(.v 6)]))
 (.cal 12 [(.g [(.int .i64), (.int .i64), (.int .i64), (.lst [(.int .i64)])])] [(.rc (.cons (.v 0) (.cons (.v 1) (.cons (.v 2) (.cons (.v 3) .nil)))))] [(.c (.int .i64))] 6
  (.ite (.cmp .neq (.v 6) (.ki .i64 0))
   (.cal 10 [] [] [(.c .bool)] 7
    (.ret [(.v 7)]))
   (.ev [(.call 18 [(.g [(.int .i64), (.int .i64), (.int .i64), (.lst [(.int .i64)])]), (.c (.int .i64)), (.c (.int .i64))] [(.rc (.cons (.v 0) (.cons (.v 1) (.cons (.v 2) (.cons (.v 3) .nil))))), (.v 4), (.v 5)] [(.c (.int .i64))] 7), (.call 19 [(.g [(.int .i64), (.int .i64), (.int .i64), (.lst [(.int .i64)])]), (.c (.int .i64)), (.c (.int .i64))] [(.rc (.cons (.v 0) (.cons (.v 1) (.cons (.v 2) (.cons (.v 3) .nil))))), (.v 4), (.v 5)] [(.c (.int .i64))] 8)]
    (.ite (.cmp .eql (.v 7) (.v 8))
     (.ev [(.call 10 [] [] [(.c .bool)] 9)]
      (.ret [(.v 9)]))
     (.ret [(.kb false)]))))))
theorem law_all (xs : List D) (h : TypTs [tSf, tI, tI] xs) : Fun Try.prog [] 6 [tSf, tI, tI] xs [.c .bool] (.ok [.bool true]) := by
  obtain ⟨d, _, rfl, h1, _, _, rfl, h2, _, _, rfl, h3, rfl⟩ := h
  obtain ⟨c, t, f, L, rfl, hc, ht, hf, hx⟩ := typ_sf h1
  obtain ⟨now, rfl, hn⟩ := typ_int h2
  obtain ⟨l, rfl, _⟩ := typ_int h3
  refine fun_of_gen hP Try.func6 rfl (by decide) (sg := sgs) (v := vcLaw) (by kernel_rfl) ?_
  unfold vcLaw
  refine den_ite (fun h => ex_end (den_ret rfl)) (fun h => ?_)
  have hL : L.length ≤ 1000 := by simp only [sf] at h; (try simp only [E.den, cmpB, arI, D.toI, D.toB, D.toL, D.len, D.mapL, D.cells, List.map_cons, List.map_nil, List.getD_cons_zero, List.getD_cons_succ, List.cons_append, List.nil_append, flatD, List.length_map, List.length_set, gt_iff_lt, ge_iff_le, beq_iff_eq, bne_iff_ne, ne_eq, decide_eq_true_eq, decide_eq_false_iff_not, Bool.not_eq_true, Bool.not_eq_false, beq_eq_false_iff_ne, Int.not_lt, Int.not_le, Decidable.not_not, Bool.false_eq_true, Bool.true_eq_false, bne_eq_false_iff_eq] at *); omega
  clear h
  refine den_cal [.int .i64 _] rfl (rvalid_fn c t f L (by omega)) rfl rfl ?_
  refine den_ite (fun h => ex_end (den_ret rfl)) (fun h => ?_)
  have ho : okSf c t f L := by simp only [sf] at h; (try simp only [E.den, cmpB, arI, D.toI, D.toB, D.toL, D.len, D.mapL, D.cells, List.map_cons, List.map_nil, List.getD_cons_zero, List.getD_cons_succ, List.cons_append, List.nil_append, flatD, List.length_map, List.length_set, gt_iff_lt, ge_iff_le, beq_iff_eq, bne_iff_ne, ne_eq, decide_eq_true_eq, decide_eq_false_iff_not, Bool.not_eq_true, Bool.not_eq_false, beq_eq_false_iff_ne, Int.not_lt, Int.not_le, Decidable.not_not, Bool.false_eq_true, Bool.true_eq_false, bne_eq_false_iff_eq] at *); exact sfE0.1 h
  clear h
  refine den_ev (evs_call [.int .i64 _] rfl (limit_fn c t f L now l ho hn) rfl rfl (evs_call [.int .i64 _] rfl (limit0_fn c t f L now l ho) rfl rfl (evs_nil ?_)))
  refine den_ite (fun h => den_ev (ex_evs (evs_nil (den_ret rfl)))) (fun h => ?_)
  exfalso
  simp only [sf] at h
  (try simp only [E.den, cmpB, arI, D.toI, D.toB, D.toL, D.len, D.mapL, D.cells, List.map_cons, List.map_nil, List.getD_cons_zero, List.getD_cons_succ, List.cons_append, List.nil_append, flatD, List.length_map, List.length_set, gt_iff_lt, ge_iff_le, beq_iff_eq, bne_iff_ne, ne_eq, decide_eq_true_eq, decide_eq_false_iff_not, Bool.not_eq_true, Bool.not_eq_false, beq_eq_false_iff_ne, Int.not_lt, Int.not_le, Decidable.not_not, Bool.false_eq_true, Bool.true_eq_false, bne_eq_false_iff_eq] at *)
  first | exact h rfl | exact h trivial | exact h

set_option maxRecDepth 100000 in
theorem safeLimits_lifted (os : Os) (started : os.Started) (H : Type) (enc : TypeId × Value → H) :
    ReturnsInHanded {} Try.checked os 6 .any (Rows.safeLimitsSpec.pre6 enc Try.prog Try.f6 Rows.safeLimitsRow.domain false) (Rows.safeLimitsSpec.post enc Try.prog Try.f6 false true false false) := by
  refine returnsInHanded_of_change (C := Try.checked) own started (by kernel_rfl) Try.func6
    (ChangeSpec.witness6 (enc := enc) (C := Try.checked) false ⟨#[], #[.agg #[.int .i64 0, .int .i64 0, .int .i64 0, .slice none 0 0], .int .i64 0, .int .i64 0], []⟩ 8 (by kernel_rfl) (by kernel_rfl) (by kernel_rfl) (by kernel_rfl)) ?_
  intro W base args ds gs before hval0 hW hcnd _
  have hval : ∀ (j : Nat) t v, Try.f6.params[j]? = some t → args[j]? = some v → Value.okWide Try.prog W .any base t v := hval0
  obtain ⟨q, q', hA0, _, _, _, _⟩ := id hW
  have hA : DataW.TrodAll enc Try.prog W 0 (fun _ => true) true Try.f6.params.toList args.toList ds q := hA0
  have walk := law_walk (P := Try.prog) (f := 6) (fn := Try.f6) (fun p hp => by cases hp) (Ts := [tSf, tI, tI]) (by kernel_rfl) law_all hval hA
  rw [Try.params6] at hA
  obtain ⟨v0, vs0, d0, ds0, p0, q0, hargs0, rfl, rfl, h0, r0⟩ := trodAll_cons hA
  obtain ⟨v1, vs1, d1, ds1, p1, q1, hargs1, rfl, rfl, h1, r1⟩ := trodAll_cons r0
  subst hargs1
  obtain ⟨v2, vs2, d2, ds2, p2, q2, hargs2, rfl, rfl, h2, r2⟩ := trodAll_cons r1
  subst hargs2
  obtain ⟨rfl, rfl, rfl⟩ := trodAll_nil r2
  refine walk.mono fun e W' ⟨he, hb⟩ => ?_
  subst he
  exact ⟨_, rfl, law_post (tb := 4) laidOut rfl (by kernel_rfl) rfl Try.underlying4 hW rfl hb⟩

theorem safeLimits_holds : Rows.SafeLimitsSaid :=
  OpenClaim.holds_of_wide 6 Try.f6 rfl rfl rfl rfl rfl rfl rfl ⟨rfl, rfl, rfl, rfl, rfl⟩ rfl rfl rfl rfl rfl (by kernel_rfl) Try.func6 (by kernel_rfl)
    (of_decide_eq_true (by kernel_rfl)) (by unfold Func.isWrapper; first | (rw [if_pos (by decide +kernel)]; kernel_rfl) | (rw [if_neg (by decide +kernel)]; exact ⟨rfl, rfl⟩))
    (fun os started H enc _ => safeLimits_lifted os started H enc)
#print axioms safeLimits_holds
end Go.Proofs.Ytggmgfkefbfhpaa
