/-
  SafeContacts: its walk and its row.
-/
import Derived.Test.YtggmgfkefbfhpaaSy33c
set_option maxRecDepth 100000
set_option linter.unusedSimpArgs false
set_option linter.unusedVariables false
namespace Go.Proofs.Ytggmgfkefbfhpaa
open Go.Proofs.Ytggmgfkefbfhpaa.Sy Go.RowKit Go.WideShapes Go.ChangeShapes Go.ChangeAt
def vcLaw : VC := (.ite (.cmp .gtr (.len (.v 3)) (.ki .i64 1000))
 (.cal 10 [] [] [(.c .bool)] 5
  (.ret [(.v 5)]))
 (.cal 16 [(.g [(.int .i64), (.int .i64), (.int .i64), (.lst [(.int .i64)])]), (.c (.int .i64))] [(.rc (.cons (.v 0) (.cons (.v 1) (.cons (.v 2) (.cons (.v 3) .nil))))), (.v 4)] [(.g [(.int .i64), (.int .i64), (.int .i64), (.lst [(.int .i64)])]), (.c (.int .i64))] 5
  (.cal 17 [(.g [(.int .i64), (.int .i64), (.int .i64), (.lst [(.int .i64)])]), (.c (.int .i64))] [(.rc (.cons (.v 0) (.cons (.v 1) (.cons (.v 2) (.cons (.v 3) .nil))))), (.v 4)] [(.g [(.int .i64), (.int .i64), (.int .i64), (.lst [(.int .i64)])]), (.c (.int .i64))] 10
   (.ite (.cmp .eql (.v 9) (.v 14))
    (.cal 15 [(.g [(.int .i64), (.int .i64), (.int .i64), (.lst [(.int .i64)])]), (.g [(.int .i64), (.int .i64), (.int .i64), (.lst [(.int .i64)])])] [(.rc (.cons (.v 5) (.cons (.v 6) (.cons (.v 7) (.cons (.v 8) .nil))))), (.rc (.cons (.v 10) (.cons (.v 11) (.cons (.v 12) (.cons (.v 13) .nil)))))] [(.c .bool)] 15
     (.ite (.v 15)
      (.cal 10 [] [] [(.c .bool)] 16
       (.ret [(.v 16)]))
      (.ret [(.kb false)])))
    (.ret [(.kb false)])))))
theorem law_all (xs : List D) (h : TypTs [tSf, tI] xs) : Fun Try.prog [] 5 [tSf, tI] xs [.c .bool] (.ok [.bool true]) := by
  obtain ⟨d, _, rfl, h1, _, _, rfl, h2, rfl⟩ := h
  obtain ⟨c, t, f, L, rfl, hc, ht, hf, hx⟩ := typ_sf h1
  obtain ⟨now, rfl, _⟩ := typ_int h2
  refine fun_of_gen hP Try.func5 rfl (by decide) (sg := sgs) (v := vcLaw) (by kernel_rfl) ?_
  unfold vcLaw
  refine den_ite (fun h => ex_end (den_ret rfl)) (fun h => ?_)
  have hL : L.length ≤ 1000 := by simp only [sf] at h; (try simp only [E.den, cmpB, arI, D.toI, D.toB, D.toL, D.len, D.mapL, D.cells, List.map_cons, List.map_nil, List.getD_cons_zero, List.getD_cons_succ, List.cons_append, List.nil_append, flatD, List.length_map, List.length_set, gt_iff_lt, ge_iff_le, beq_iff_eq, bne_iff_ne, ne_eq, decide_eq_true_eq, decide_eq_false_iff_not, Bool.not_eq_true, Bool.not_eq_false, beq_eq_false_iff_ne, Int.not_lt, Int.not_le, Decidable.not_not, Bool.false_eq_true, Bool.true_eq_false, bne_eq_false_iff_eq] at *); omega
  clear h
  refine den_cal [I64d (ctC c t f L now), I64d t, I64d f, .lst (L.map I64d), .int .i64 _] rfl (contact_fn c t f L now (by omega)) rfl rfl ?_
  refine den_cal [I64d (ctC c t f L now), I64d t, I64d f, .lst (L.map I64d), .int .i64 _] rfl (rcontact_fn c t f L now (by omega)) rfl rfl ?_
  refine den_ite (fun h => ?_) (fun h => ?_)
  · refine den_cal [.bool true] rfl (same_fn (ctC c t f L now) t f L (by omega)) rfl rfl ?_
    exact den_ite (fun h => ex_end (den_ret rfl)) (fun h => by cases h)
  · exfalso
    simp only [sf] at h
    (try simp only [E.den, cmpB, arI, D.toI, D.toB, D.toL, D.len, D.mapL, D.cells, List.map_cons, List.map_nil, List.getD_cons_zero, List.getD_cons_succ, List.cons_append, List.nil_append, flatD, List.length_map, List.length_set, gt_iff_lt, ge_iff_le, beq_iff_eq, bne_iff_ne, ne_eq, decide_eq_true_eq, decide_eq_false_iff_not, Bool.not_eq_true, Bool.not_eq_false, beq_eq_false_iff_ne, Int.not_lt, Int.not_le, Decidable.not_not, Bool.false_eq_true, Bool.true_eq_false, bne_eq_false_iff_eq] at *)
    first | exact h rfl | exact h trivial | exact h

set_option maxRecDepth 100000 in
theorem safeContacts_lifted (os : Os) (started : os.Started) (H : Type) (enc : TypeId × Value → H) :
    ReturnsInHanded {} Try.checked os 5 .any (Rows.safeContactsSpec.pre6 enc Try.prog Try.f5 Rows.safeContactsRow.domain false) (Rows.safeContactsSpec.post enc Try.prog Try.f5 false true false false) := by
  refine returnsInHanded_of_change (C := Try.checked) own started (by kernel_rfl) Try.func5
    (ChangeSpec.witness6 (enc := enc) (C := Try.checked) false ⟨#[], #[.agg #[.int .i64 0, .int .i64 0, .int .i64 0, .slice none 0 0], .int .i64 0], []⟩ 8 (by kernel_rfl) (by kernel_rfl) (by kernel_rfl) (by kernel_rfl)) ?_
  intro W base args ds gs before hval0 hW hcnd _
  have hval : ∀ (j : Nat) t v, Try.f5.params[j]? = some t → args[j]? = some v → Value.okWide Try.prog W .any base t v := hval0
  obtain ⟨q, q', hA0, _, _, _, _⟩ := id hW
  have hA : DataW.TrodAll enc Try.prog W 0 (fun _ => true) true Try.f5.params.toList args.toList ds q := hA0
  have walk := law_walk (P := Try.prog) (f := 5) (fn := Try.f5) (fun p hp => by cases hp) (Ts := [tSf, tI]) (by kernel_rfl) law_all hval hA
  rw [Try.params5] at hA
  obtain ⟨v0, vs0, d0, ds0, p0, q0, hargs0, rfl, rfl, h0, r0⟩ := trodAll_cons hA
  obtain ⟨v1, vs1, d1, ds1, p1, q1, hargs1, rfl, rfl, h1, r1⟩ := trodAll_cons r0
  subst hargs1
  obtain ⟨rfl, rfl, rfl⟩ := trodAll_nil r1
  refine walk.mono fun e W' ⟨he, hb⟩ => ?_
  subst he
  exact ⟨_, rfl, law_post (tb := 4) laidOut rfl (by kernel_rfl) rfl Try.underlying4 hW rfl hb⟩

theorem safeContacts_holds : Rows.SafeContactsSaid :=
  OpenClaim.holds_of_wide 5 Try.f5 rfl rfl rfl rfl rfl rfl rfl ⟨rfl, rfl, rfl, rfl, rfl⟩ rfl rfl rfl rfl rfl (by kernel_rfl) Try.func5 (by kernel_rfl)
    (of_decide_eq_true (by kernel_rfl)) (by unfold Func.isWrapper; first | (rw [if_pos (by decide +kernel)]; kernel_rfl) | (rw [if_neg (by decide +kernel)]; exact ⟨rfl, rfl⟩))
    (fun os started H enc _ => safeContacts_lifted os started H enc)
#print axioms safeContacts_holds
end Go.Proofs.Ytggmgfkefbfhpaa
