/-
  ConnectorCharges: its walk, its row and its card.
-/
import Derived.Test.YtajphmclobadfaaDoorSy28e
set_option maxRecDepth 100000
set_option linter.unusedSimpArgs false
set_option linter.unusedVariables false
namespace Go.Proofs.YtajphmclobadfaaDoor
open Go.Proofs.YtajphmclobadfaaDoor.Sy Go.RowKit Go.WideShapes Go.ChangeShapes Go.ChangeAt
def vcLaw : VC := (.cal 8 [(.g [(.int .i64), .bool, .bool, .bool, (.int .i64)]), (.c (.int .i64))] [(.rc (.cons (.v 0) (.cons (.v 1) (.cons (.v 2) (.cons (.v 3) (.cons (.v 4) .nil)))))), (.v 5)] [(.g [(.int .i64), .bool, .bool, .bool, (.int .i64)]), (.c (.int .i64))] 6
 (.ite (.cmp .neq (.v 11) (.ki .i64 0))
  (.ret [(.and (.cmp .eql (.v 6) (.v 0)) (.and (.beq (.v 7) (.v 1)) (.and (.beq (.v 8) (.v 2)) (.and (.beq (.v 9) (.v 3)) (.and (.cmp .eql (.v 10) (.v 4)) (.kb true))))))])
  (.cal 13 [(.g [(.int .i64), .bool, .bool, .bool, (.int .i64)])] [(.rc (.cons (.v 6) (.cons (.v 7) (.cons (.v 8) (.cons (.v 9) (.cons (.v 10) .nil))))))] [(.c .bool)] 12
   (.ite (.v 12)
    (.cal 13 [(.g [(.int .i64), .bool, .bool, .bool, (.int .i64)])] [(.rc (.cons (.v 0) (.cons (.v 1) (.cons (.v 2) (.cons (.v 3) (.cons (.v 4) .nil))))))] [(.c .bool)] 13
     (.ite (.v 13)
      (.cal 13 [(.g [(.int .i64), .bool, .bool, .bool, (.int .i64)])] [(.rc (.cons (.ki .i64 3) (.cons (.kb true) (.cons (.kb false) (.cons (.kb false) (.cons (.ki .i64 0) .nil))))))] [(.c .bool)] 14
       (.ret [(.v 14)]))
      (.ite (.cmp .eql (.v 5) (.ki .i64 3))
       (.ite (.cmp .eql (.v 0) (.ki .i64 2))
        (.ret [(.kb true)])
        (.ite (.cmp .eql (.v 5) (.ki .i64 6))
         (.ret [(.cmp .eql (.v 0) (.ki .i64 4))])
         (.ret [(.kb false)])))
       (.ite (.cmp .eql (.v 5) (.ki .i64 6))
        (.ret [(.cmp .eql (.v 0) (.ki .i64 4))])
        (.ret [(.kb false)])))))
    (.cal 13 [(.g [(.int .i64), .bool, .bool, .bool, (.int .i64)])] [(.rc (.cons (.ki .i64 3) (.cons (.kb true) (.cons (.kb false) (.cons (.kb false) (.cons (.ki .i64 0) .nil))))))] [(.c .bool)] 13
     (.ret [(.v 13)]))))))
theorem cl_call {K : FR → Prop} {Λ : List Lp} {ρ : List D} {es : List E} {m : Nat} {k : VC} (c : Cn) (ha : es.map (·.den ρ) = [cnD c]) (hk : k.den Tryd.prog gls K Λ (ρ ++ [.bool (c.s == 3)])) : (VC.cal 13 [tCn] es [tB] m k).den Tryd.prog gls K Λ ρ :=
  den_cal [.bool _] rfl (charges_fn c) ha rfl hk
theorem bs_self (c : Cn) : (c.s == c.s && (c.p == c.p && (c.r == c.r && (c.d == c.d && (c.n == c.n && true))))) = true := by simp
set_option maxHeartbeats 4000000 in
theorem law_all (xs : List D) (h : TypTs [tCn, tI] xs) : Fun Tryd.prog gls 7 [tCn, tI] xs [.c .bool] (.ok [.bool true]) := by
  obtain ⟨_, _, rfl, h1, _, _, rfl, h2, rfl⟩ := h
  obtain ⟨c, rfl⟩ := typ_cn h1
  obtain ⟨i, rfl, _⟩ := typ_int h2
  refine fun_of_gen hP Tryd.func7 rfl (by decide) (sg := sgs) (v := vcLaw) (by kernel_rfl) ?_
  unfold vcLaw
  refine next_call c i rfl (den_ite (fun h => den_ret ?_) (fun h => ?_))
  · have he : nxE c i ≠ 0 := bne_iff_ne.1 h
    rw [nxC_err he]
    exact congrArg (fun b => FR.ok [D.bool b]) (bs_self c)
  have he : nxE c i = 0 := by by_cases h' : nxE c i = 0; exact h'; exact absurd (h.symm.trans (bne_iff_ne.2 h')) Bool.false_ne_true
  have cf := charge_facts c i he
  refine cl_call (nxC c i) rfl (den_ite (fun h1 => ?_) (fun h1 => ?_))
  rotate_left
  · exact cl_call ⟨3, true, false, false, 0⟩ rfl (den_ret rfl)
  have hx : (nxC c i).s = 3 := beq_iff_eq.1 h1
  refine cl_call c rfl (den_ite (fun h2 => ?_) (fun h2 => ?_))
  · exact cl_call ⟨3, true, false, false, 0⟩ rfl (den_ret rfl)
  have hc : c.s ≠ 3 := beq_eq_false_iff_ne.1 h2
  have hcc := cf hx hc
  refine den_ite (fun h3 => den_ite (fun h4 => den_ret rfl) (fun h4 => ?_)) (fun h3 => ?_)
  · have e3 : i = 3 := beq_iff_eq.1 h3
    have e4 : c.s ≠ 2 := beq_eq_false_iff_ne.1 h4
    exfalso; omega
  · have e3 : i ≠ 3 := beq_eq_false_iff_ne.1 h3
    have hcc : i = 6 ∧ c.s = 4 := by omega
    refine den_ite (fun h4 => den_ret ?_) (fun h4 => ?_)
    · have : (c.s == 4) = true := by rw [hcc.2]; rfl
      exact congrArg (fun b => FR.ok [D.bool b]) this
    · have e4 : i ≠ 6 := beq_eq_false_iff_ne.1 h4
      exact absurd hcc.1 e4

theorem contract (H : Type) (enc : TypeId × Value → H) (W : World) (base : Nat) (args : Array Value) (ds gs : List (DataW H)) (before : List MemPlace)
    (hval0 : ∀ (j : Nat) t v, Tryd.f7.params[j]? = some t → args[j]? = some v → Value.okWide Tryd.prog W .any base t v)
    (hW : DataW.Whole enc Tryd.prog Tryd.f7.params.toList Rows.connectorChargesSpec.vars false W args.toList ds gs before) (hL : laidMetH Tryd.prog Rows.connectorChargesRow.laid W) :
    Calls Tryd.prog 7 args W fun e W' => ∃ v, e = .returned v ∧ Rows.connectorChargesSpec.post enc Tryd.prog Tryd.f7 false true false false W args v W' := by
  have hval := hval0
  obtain ⟨q, q', hA0, _, _, _, _⟩ := id hW
  have hA : DataW.TrodAll enc Tryd.prog W 0 (fun _ => true) true Tryd.f7.params.toList args.toList ds q := hA0
  have walk := law_walk (P := Tryd.prog) (f := 7) (fn := Tryd.f7) (tab_ok hL) (Ts := [tCn, tI]) (by kernel_rfl) law_all hval hA
  rw [Tryd.params7] at hA
  obtain ⟨v0, vs0, d0, ds0, p0, q0, hargs0, rfl, rfl, h0, r0⟩ := trodAll_cons hA
  obtain ⟨v1, vs1, d1, ds1, p1, q1, hargs1, rfl, rfl, h1, r1⟩ := trodAll_cons r0
  subst hargs1
  obtain ⟨rfl, rfl, rfl⟩ := trodAll_nil r1
  refine walk.mono fun e W' ⟨he, hb⟩ => ?_
  subst he
  exact ⟨_, rfl, law_post (tb := 4) laidOut rfl (by kernel_rfl) rfl Tryd.underlying4 hW rfl hb⟩
theorem laid_met (os : Os) : laidMet Tryd.prog Rows.connectorChargesRow.laid ((laidWorld os).forCall (fun _ _ => 0) ⟨#[], #[.agg #[.int .i64 0, .bool false, .bool false, .bool false, .int .i64 0], .int .i64 0], []⟩).memory :=
  laidMet_of_run' 8 (by kernel_rfl) (by kernel_rfl)
theorem reads (os : Os) {H : Type} (enc : TypeId × Value → H) : ∃ places, DataW.whole enc Tryd.prog ((laidWorld os).forCall (fun _ _ => 0) ⟨#[], #[.agg #[.int .i64 0, .bool false, .bool false, .bool false, .int .i64 0], .int .i64 0], []⟩).memory Tryd.f7.params.toList Rows.connectorChargesSpec.vars false (#[.agg #[.int .i64 0, .bool false, .bool false, .bool false, .int .i64 0], .int .i64 0] : Array Value).toList 8 = some ([.agg [.lit (.int .i64 0), .lit (.bool false), .lit (.bool false), .lit (.bool false), .lit (.int .i64 0)], .lit (.int .i64 0)], [], places) :=
  ⟨[], by kernel_rfl⟩
set_option maxRecDepth 100000 in
theorem connectorCharges_lifted (os : Os) (started : os.Started) (H : Type) (enc : TypeId × Value → H) (F : Stop.Interp) :
    ReturnsInHanded {} Tryd.checked os 7 .any ((OpenSpec.ofChange Rows.connectorChargesSpec).preRow enc Tryd.prog Tryd.f7 Rows.connectorChargesRow.domain false Rows.connectorChargesRow.laid) (((OpenSpec.ofChange Rows.connectorChargesSpec).at F).post enc Tryd.prog Tryd.f7 false true false false) := by
  obtain ⟨places, hx⟩ := reads os enc
  refine returnsInHanded_of_row (C := Tryd.checked) (s := OpenSpec.ofChange Rows.connectorChargesSpec) own started (by kernel_rfl) Tryd.func7
    (witness_row_at (enc := enc) (C := Tryd.checked) false (laidWorld os) #[.agg #[.int .i64 0, .bool false, .bool false, .bool false, .int .i64 0], .int .i64 0] rfl (by kernel_rfl) (by kernel_rfl) (by kernel_rfl)
      (OpenSpec.preRow_of_cond 8 hx (by kernel_rfl) (fun k hk => by cases hk) (by kernel_rfl) (laid_met os))) ?_
  intro W base args ds gs before hval hW _ _ _ hL _ _
  exact contract H enc W base args ds gs before hval hW hL
theorem connectorCharges_said : Rows.ConnectorChargesSaid :=
  OpenClaim.holds_of_cond 7 Tryd.f7 rfl rfl rfl rfl rfl rfl rfl ⟨rfl, rfl, rfl, rfl, rfl⟩ rfl rfl rfl rfl rfl (by kernel_rfl) Tryd.func7 (by kernel_rfl)
    (of_decide_eq_true (by kernel_rfl)) (by unfold Func.isWrapper; first | (rw [if_pos (by decide +kernel)]; kernel_rfl) | (rw [if_neg (by decide +kernel)]; exact ⟨rfl, rfl⟩))
    (fun os started H enc _ F => by rw [OpenClaim.pre_eq_preRow]; exact connectorCharges_lifted os started H enc F)
theorem plain (f : FuncId) (fn : Func) (hf : Tryd.pinned.checked.prog.funcNamed Rows.connectorChargesRow.func = some f) (hfn : Tryd.pinned.checked.prog.funcs[f]? = some fn) :
    false = Tryd.pinned.checked.prog.looks [] ∧ ∀ (j : Nat) t, fn.params[j]? = some t → Tryd.pinned.checked.prog.wantsStandIn t = false := by
  obtain rfl : f = 7 := Option.some.inj ((show Tryd.prog.funcNamed Rows.connectorChargesRow.func = some 7 by kernel_rfl).symm.trans hf) |>.symm
  obtain rfl : fn = Tryd.f7 := (Option.some.inj (Tryd.func7.symm.trans hfn)).symm
  refine ⟨by kernel_rfl, fun j t ht => ?_⟩
  have h : (Tryd.f7.params.toList.all fun t => !(Tryd.prog.wantsStandIn t)) = true := by kernel_rfl
  have := List.all_eq_true.1 h t (by have := Array.mem_of_getElem? ht; simpa using this)
  have h2 : Tryd.prog.wantsStandIn t = false := by simpa using this
  exact h2
theorem connectorCharges_card : Rows.ConnectorChargesCardSaid :=
  Claim7.holds_tied_plain_at .later [] _ _ _ _ connectorCharges_said (fun _ h => by cases h) (by kernel_rfl) (fun _ h => by cases h) connectorCharges_row_tie rfl ⟨rfl, rfl⟩ (by kernel_rfl) rfl plain (by kernel_rfl)
#print axioms connectorCharges_card
end Go.Proofs.YtajphmclobadfaaDoor
