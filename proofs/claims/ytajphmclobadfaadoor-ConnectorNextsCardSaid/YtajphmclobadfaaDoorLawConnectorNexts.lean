/-
  ConnectorNexts: its walk, its row and its card.
-/
import Derived.Test.YtajphmclobadfaaDoorSy28d
set_option maxRecDepth 100000
set_option linter.unusedSimpArgs false
set_option linter.unusedVariables false
namespace Go.Proofs.YtajphmclobadfaaDoor
open Go.Proofs.YtajphmclobadfaaDoor.Sy Go.RowKit Go.WideShapes Go.ChangeShapes Go.ChangeAt
def vcLaw : VC := (.cal 8 [(.g [(.int .i64), .bool, .bool, .bool, (.int .i64)]), (.c (.int .i64))] [(.rc (.cons (.v 0) (.cons (.v 1) (.cons (.v 2) (.cons (.v 3) (.cons (.v 4) .nil)))))), (.v 5)] [(.g [(.int .i64), .bool, .bool, .bool, (.int .i64)]), (.c (.int .i64))] 6
 (.cal 9 [(.g [(.int .i64), .bool, .bool, .bool, (.int .i64)]), (.c (.int .i64))] [(.rc (.cons (.v 0) (.cons (.v 1) (.cons (.v 2) (.cons (.v 3) (.cons (.v 4) .nil)))))), (.v 5)] [(.g [(.int .i64), .bool, .bool, .bool, (.int .i64)]), (.c (.int .i64))] 12
  (.ite (.cmp .eql (.v 11) (.v 17))
   (.ret [(.and (.cmp .eql (.v 6) (.v 12)) (.and (.beq (.v 7) (.v 13)) (.and (.beq (.v 8) (.v 14)) (.and (.beq (.v 9) (.v 15)) (.and (.cmp .eql (.v 10) (.v 16)) (.kb true))))))])
   (.ret [(.kb false)]))))
set_option maxHeartbeats 4000000 in
theorem law_all (xs : List D) (h : TypTs [tCn, tI] xs) : Fun Tryd.prog gls 3 [tCn, tI] xs [.c .bool] (.ok [.bool true]) := by
  obtain ⟨_, _, rfl, h1, _, _, rfl, h2, rfl⟩ := h
  obtain ⟨c, rfl⟩ := typ_cn h1
  obtain ⟨i, rfl, _⟩ := typ_int h2
  refine fun_of_gen hP Tryd.func3 rfl (by decide) (sg := sgs) (v := vcLaw) (by kernel_rfl) ?_
  unfold vcLaw
  refine next_call c i rfl (rnext_call c i rfl (den_ite (fun h => den_ret ?_) (fun h => ?_)))
  · simp only [cnD]; (try simp only [E.den, cmpB, arI, D.toI, D.toB, D.toL, D.len, D.mapL, D.cells, List.map_cons, List.map_nil, List.getD_cons_zero, List.getD_cons_succ, List.cons_append, List.nil_append, flatD, List.length_map, List.length_set, gt_iff_lt, ge_iff_le, beq_iff_eq, bne_iff_ne, ne_eq, decide_eq_true_eq, decide_eq_false_iff_not, Bool.not_eq_true, Bool.not_eq_false, beq_eq_false_iff_ne, Int.not_lt, Int.not_le, Decidable.not_not, Bool.false_eq_true, Bool.true_eq_false, bne_eq_false_iff_eq]); simp
  · exfalso; simp only [cnD] at h; (try simp only [E.den, cmpB, arI, D.toI, D.toB, D.toL, D.len, D.mapL, D.cells, List.map_cons, List.map_nil, List.getD_cons_zero, List.getD_cons_succ, List.cons_append, List.nil_append, flatD, List.length_map, List.length_set, gt_iff_lt, ge_iff_le, beq_iff_eq, bne_iff_ne, ne_eq, decide_eq_true_eq, decide_eq_false_iff_not, Bool.not_eq_true, Bool.not_eq_false, beq_eq_false_iff_ne, Int.not_lt, Int.not_le, Decidable.not_not, Bool.false_eq_true, Bool.true_eq_false, bne_eq_false_iff_eq] at *); first | exact h rfl | exact h trivial | exact h

theorem contract (H : Type) (enc : TypeId × Value → H) (W : World) (base : Nat) (args : Array Value) (ds gs : List (DataW H)) (before : List MemPlace)
    (hval0 : ∀ (j : Nat) t v, Tryd.f3.params[j]? = some t → args[j]? = some v → Value.okWide Tryd.prog W .any base t v)
    (hW : DataW.Whole enc Tryd.prog Tryd.f3.params.toList Rows.connectorNextsSpec.vars false W args.toList ds gs before) (hL : laidMetH Tryd.prog Rows.connectorNextsRow.laid W) :
    Calls Tryd.prog 3 args W fun e W' => ∃ v, e = .returned v ∧ Rows.connectorNextsSpec.post enc Tryd.prog Tryd.f3 false true false false W args v W' := by
  have hval := hval0
  obtain ⟨q, q', hA0, _, _, _, _⟩ := id hW
  have hA : DataW.TrodAll enc Tryd.prog W 0 (fun _ => true) true Tryd.f3.params.toList args.toList ds q := hA0
  have walk := law_walk (P := Tryd.prog) (f := 3) (fn := Tryd.f3) (tab_ok hL) (Ts := [tCn, tI]) (by kernel_rfl) law_all hval hA
  rw [Tryd.params3] at hA
  obtain ⟨v0, vs0, d0, ds0, p0, q0, hargs0, rfl, rfl, h0, r0⟩ := trodAll_cons hA
  obtain ⟨v1, vs1, d1, ds1, p1, q1, hargs1, rfl, rfl, h1, r1⟩ := trodAll_cons r0
  subst hargs1
  obtain ⟨rfl, rfl, rfl⟩ := trodAll_nil r1
  refine walk.mono fun e W' ⟨he, hb⟩ => ?_
  subst he
  exact ⟨_, rfl, law_post (tb := 4) laidOut rfl (by kernel_rfl) rfl Tryd.underlying4 hW rfl hb⟩
theorem laid_met (os : Os) : laidMet Tryd.prog Rows.connectorNextsRow.laid ((laidWorld os).forCall (fun _ _ => 0) ⟨#[], #[.agg #[.int .i64 0, .bool false, .bool false, .bool false, .int .i64 0], .int .i64 0], []⟩).memory :=
  laidMet_of_run' 8 (by kernel_rfl) (by kernel_rfl)
theorem reads (os : Os) {H : Type} (enc : TypeId × Value → H) : ∃ places, DataW.whole enc Tryd.prog ((laidWorld os).forCall (fun _ _ => 0) ⟨#[], #[.agg #[.int .i64 0, .bool false, .bool false, .bool false, .int .i64 0], .int .i64 0], []⟩).memory Tryd.f3.params.toList Rows.connectorNextsSpec.vars false (#[.agg #[.int .i64 0, .bool false, .bool false, .bool false, .int .i64 0], .int .i64 0] : Array Value).toList 8 = some ([.agg [.lit (.int .i64 0), .lit (.bool false), .lit (.bool false), .lit (.bool false), .lit (.int .i64 0)], .lit (.int .i64 0)], [], places) :=
  ⟨[], by kernel_rfl⟩
set_option maxRecDepth 100000 in
theorem connectorNexts_lifted (os : Os) (started : os.Started) (H : Type) (enc : TypeId × Value → H) (F : Stop.Interp) :
    ReturnsInHanded {} Tryd.checked os 3 .any ((OpenSpec.ofChange Rows.connectorNextsSpec).preRow enc Tryd.prog Tryd.f3 Rows.connectorNextsRow.domain false Rows.connectorNextsRow.laid) (((OpenSpec.ofChange Rows.connectorNextsSpec).at F).post enc Tryd.prog Tryd.f3 false true false false) := by
  obtain ⟨places, hx⟩ := reads os enc
  refine returnsInHanded_of_row (C := Tryd.checked) (s := OpenSpec.ofChange Rows.connectorNextsSpec) own started (by kernel_rfl) Tryd.func3
    (witness_row_at (enc := enc) (C := Tryd.checked) false (laidWorld os) #[.agg #[.int .i64 0, .bool false, .bool false, .bool false, .int .i64 0], .int .i64 0] rfl (by kernel_rfl) (by kernel_rfl) (by kernel_rfl)
      (OpenSpec.preRow_of_cond 8 hx (by kernel_rfl) (fun k hk => by cases hk) (by kernel_rfl) (laid_met os))) ?_
  intro W base args ds gs before hval hW _ _ _ hL _ _
  exact contract H enc W base args ds gs before hval hW hL
theorem connectorNexts_said : Rows.ConnectorNextsSaid :=
  OpenClaim.holds_of_cond 3 Tryd.f3 rfl rfl rfl rfl rfl rfl rfl ⟨rfl, rfl, rfl, rfl, rfl⟩ rfl rfl rfl rfl rfl (by kernel_rfl) Tryd.func3 (by kernel_rfl)
    (of_decide_eq_true (by kernel_rfl)) (by unfold Func.isWrapper; first | (rw [if_pos (by decide +kernel)]; kernel_rfl) | (rw [if_neg (by decide +kernel)]; exact ⟨rfl, rfl⟩))
    (fun os started H enc _ F => by rw [OpenClaim.pre_eq_preRow]; exact connectorNexts_lifted os started H enc F)
theorem plain (f : FuncId) (fn : Func) (hf : Tryd.pinned.checked.prog.funcNamed Rows.connectorNextsRow.func = some f) (hfn : Tryd.pinned.checked.prog.funcs[f]? = some fn) :
    false = Tryd.pinned.checked.prog.looks [] ∧ ∀ (j : Nat) t, fn.params[j]? = some t → Tryd.pinned.checked.prog.wantsStandIn t = false := by
  obtain rfl : f = 3 := Option.some.inj ((show Tryd.prog.funcNamed Rows.connectorNextsRow.func = some 3 by kernel_rfl).symm.trans hf) |>.symm
  obtain rfl : fn = Tryd.f3 := (Option.some.inj (Tryd.func3.symm.trans hfn)).symm
  refine ⟨by kernel_rfl, fun j t ht => ?_⟩
  have h : (Tryd.f3.params.toList.all fun t => !(Tryd.prog.wantsStandIn t)) = true := by kernel_rfl
  have := List.all_eq_true.1 h t (by have := Array.mem_of_getElem? ht; simpa using this)
  have h2 : Tryd.prog.wantsStandIn t = false := by simpa using this
  exact h2
theorem connectorNexts_card : Rows.ConnectorNextsCardSaid :=
  Claim7.holds_tied_plain_at .later [] _ _ _ _ connectorNexts_said (fun _ h => by cases h) (by kernel_rfl) (fun _ h => by cases h) connectorNexts_row_tie rfl ⟨rfl, rfl⟩ (by kernel_rfl) rfl plain (by kernel_rfl)
#print axioms connectorNexts_card
end Go.Proofs.YtajphmclobadfaaDoor
