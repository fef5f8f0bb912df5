/-
  SafeNew: its walk and its row.
-/
import Derived.Test.YtggmgfkefbfhpaaSy33c
set_option maxRecDepth 100000
set_option linter.unusedSimpArgs false
set_option linter.unusedVariables false
namespace Go.Proofs.Ytggmgfkefbfhpaa
open Go.Proofs.Ytggmgfkefbfhpaa.Sy Go.RowKit Go.WideShapes Go.ChangeShapes Go.ChangeAt
def vcLaw : VC := (.cal 13 [(.c (.int .i64)), (.c (.int .i64)), (.c (.int .i64))] [(.v 0), (.v 1), (.v 2)] [(.g [(.int .i64), (.int .i64), (.int .i64), (.lst [(.int .i64)])]), (.c (.int .i64))] 3
 (.cal 14 [(.c (.int .i64)), (.c (.int .i64)), (.c (.int .i64))] [(.v 0), (.v 1), (.v 2)] [(.g [(.int .i64), (.int .i64), (.int .i64), (.lst [(.int .i64)])]), (.c (.int .i64))] 8
  (.ite (.cmp .eql (.v 7) (.v 12))
   (.cal 15 [(.g [(.int .i64), (.int .i64), (.int .i64), (.lst [(.int .i64)])]), (.g [(.int .i64), (.int .i64), (.int .i64), (.lst [(.int .i64)])])] [(.rc (.cons (.v 3) (.cons (.v 4) (.cons (.v 5) (.cons (.v 6) .nil))))), (.rc (.cons (.v 8) (.cons (.v 9) (.cons (.v 10) (.cons (.v 11) .nil)))))] [(.c .bool)] 13
    (.ite (.v 13)
     (.cal 10 [] [] [(.c .bool)] 14
      (.ret [(.v 14)]))
     (.ret [(.kb false)])))
   (.ret [(.kb false)]))))
theorem law_all (xs : List D) (h : TypTs [tI, tI, tI] xs) : Fun Try.prog [] 4 [tI, tI, tI] xs [.c .bool] (.ok [.bool true]) := by
  obtain ⟨_, _, rfl, h1, _, _, rfl, h2, _, _, rfl, h3, rfl⟩ := h
  obtain ⟨n, rfl, _⟩ := typ_int h1
  obtain ⟨t, rfl, _⟩ := typ_int h2
  obtain ⟨f, rfl, _⟩ := typ_int h3
  refine fun_of_gen hP Try.func4 rfl (by decide) (sg := sgs) (v := vcLaw) (by kernel_rfl) ?_
  unfold vcLaw
  have hS : ∃ t' f' L', nwS n t f = sf 0 t' f' L' ∧ L'.length ≤ 4294967296 := by
    unfold nwS
    split
    · rename_i ho
      unfold nwOk at ho
      exact ⟨t, f, _, rfl, by simp; omega⟩
    · exact ⟨0, 0, [], rfl, by simp⟩
  obtain ⟨t', f', L', hS, hL⟩ := hS
  have h1 := new_fn n t f
  have h2 := rnew_fn n t f
  rw [hS] at h1 h2
  refine den_cal [I64d 0, I64d t', I64d f', .lst (L'.map I64d), .int .i64 _] rfl h1 rfl rfl ?_
  refine den_cal [I64d 0, I64d t', I64d f', .lst (L'.map I64d), .int .i64 _] rfl h2 rfl rfl ?_
  refine den_ite (fun h => ?_) (fun h => ?_)
  · refine den_cal [.bool true] rfl (same_fn 0 t' f' L' hL) rfl rfl ?_
    exact den_ite (fun h => ex_end (den_ret rfl)) (fun h => by cases h)
  · exfalso
    (try simp only [E.den, cmpB, arI, D.toI, D.toB, D.toL, D.len, D.mapL, D.cells, List.map_cons, List.map_nil, List.getD_cons_zero, List.getD_cons_succ, List.cons_append, List.nil_append, flatD, List.length_map, List.length_set, gt_iff_lt, ge_iff_le, beq_iff_eq, bne_iff_ne, ne_eq, decide_eq_true_eq, decide_eq_false_iff_not, Bool.not_eq_true, Bool.not_eq_false, beq_eq_false_iff_ne, Int.not_lt, Int.not_le, Decidable.not_not, Bool.false_eq_true, Bool.true_eq_false, bne_eq_false_iff_eq] at *)
    first | exact h rfl | exact h trivial | exact h

set_option maxRecDepth 100000 in
theorem safeNew_lifted (os : Os) (started : os.Started) (H : Type) (enc : TypeId × Value → H) :
    ReturnsInHanded {} Try.checked os 4 .any (Rows.safeNewSpec.pre6 enc Try.prog Try.f4 Rows.safeNewRow.domain false) (Rows.safeNewSpec.post enc Try.prog Try.f4 false true false false) := by
  refine returnsInHanded_of_change (C := Try.checked) own started (by kernel_rfl) Try.func4
    (ChangeSpec.witness6 (enc := enc) (C := Try.checked) false ⟨#[], #[.int .i64 0, .int .i64 0, .int .i64 0], []⟩ 8 (by kernel_rfl) (by kernel_rfl) (by kernel_rfl) (by kernel_rfl)) ?_
  intro W base args ds gs before hval0 hW hcnd _
  have hval : ∀ (j : Nat) t v, Try.f4.params[j]? = some t → args[j]? = some v → Value.okWide Try.prog W .any base t v := hval0
  obtain ⟨q, q', hA0, _, _, _, _⟩ := id hW
  have hA : DataW.TrodAll enc Try.prog W 0 (fun _ => true) true Try.f4.params.toList args.toList ds q := hA0
  have walk := law_walk (P := Try.prog) (f := 4) (fn := Try.f4) (fun p hp => by cases hp) (Ts := [tI, tI, tI]) (by kernel_rfl) law_all hval hA
  rw [Try.params4] at hA
  obtain ⟨v0, vs0, d0, ds0, p0, q0, hargs0, rfl, rfl, h0, r0⟩ := trodAll_cons hA
  obtain ⟨v1, vs1, d1, ds1, p1, q1, hargs1, rfl, rfl, h1, r1⟩ := trodAll_cons r0
  subst hargs1
  obtain ⟨v2, vs2, d2, ds2, p2, q2, hargs2, rfl, rfl, h2, r2⟩ := trodAll_cons r1
  subst hargs2
  obtain ⟨rfl, rfl, rfl⟩ := trodAll_nil r2
  refine walk.mono fun e W' ⟨he, hb⟩ => ?_
  subst he
  exact ⟨_, rfl, law_post (tb := 4) laidOut rfl (by kernel_rfl) rfl Try.underlying4 hW rfl hb⟩

theorem safeNew_holds : Rows.SafeNewSaid :=
  OpenClaim.holds_of_wide 4 Try.f4 rfl rfl rfl rfl rfl rfl rfl ⟨rfl, rfl, rfl, rfl, rfl⟩ rfl rfl rfl rfl rfl (by kernel_rfl) Try.func4 (by kernel_rfl)
    (of_decide_eq_true (by kernel_rfl)) (by unfold Func.isWrapper; first | (rw [if_pos (by decide +kernel)]; kernel_rfl) | (rw [if_neg (by decide +kernel)]; exact ⟨rfl, rfl⟩))
    (fun os started H enc _ => safeNew_lifted os started H enc)
#print axioms safeNew_holds
end Go.Proofs.Ytggmgfkefbfhpaa
