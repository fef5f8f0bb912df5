/-
  ConnectorFrees: its walk, its row and its card.
-/
import Derived.Test.YtajphmclobadfaaDoorSy28e
set_option maxRecDepth 100000
set_option linter.unusedSimpArgs false
set_option linter.unusedVariables false
namespace Go.Proofs.YtajphmclobadfaaDoor
open Go.Proofs.YtajphmclobadfaaDoor.Sy Go.RowKit Go.WideShapes Go.ChangeShapes Go.ChangeAt
def vcLaw : VC := (.cal 10 [(.g [(.int .i64), .bool, .bool, .bool, (.int .i64)])] [(.rc (.cons (.v 0) (.cons (.v 1) (.cons (.v 2) (.cons (.v 3) (.cons (.v 4) .nil))))))] [(.c (.int .i64))] 5
 (.ite (.cmp .neq (.v 5) (.ki .i64 0))
  (.cal 11 [(.g [(.int .i64), .bool, .bool, .bool, (.int .i64)])] [(.rc (.cons (.v 0) (.cons (.v 1) (.cons (.v 2) (.cons (.v 3) (.cons (.v 4) .nil))))))] [(.c (.int .i64))] 6
   (.ret [(.cmp .neq (.v 6) (.ki .i64 0))]))
  (.loop [(.int .i64), .bool, .bool, .bool, (.int .i64), (.int .i64)] [(.v 0), (.v 1), (.v 2), (.v 3), (.v 4), (.ki .i64 0)]
   (.ite (.cmp .lss (.v 11) (.ki .i64 4))
    (.ev [(.ob (.cmp .geq (.v 11) (.ki .i64 0))), (.ob (.cmp .lss (.v 11) (.ki .i64 4)))]
     (.ev [(.ob (.cmp .lss (.v 11) (.ki .i64 4)))]
      (.cal 8 [(.g [(.int .i64), .bool, .bool, .bool, (.int .i64)]), (.c (.int .i64))] [(.rc (.cons (.v 6) (.cons (.v 7) (.cons (.v 8) (.cons (.v 9) (.cons (.v 10) .nil)))))), (.get (.cons (.ki .i64 2) (.cons (.ki .i64 8) (.cons (.ki .i64 12) (.cons (.ki .i64 10) .nil)))) (.v 11))] [(.g [(.int .i64), .bool, .bool, .bool, (.int .i64)]), (.c (.int .i64))] 12
       (.ite (.cmp .eql (.v 17) (.ki .i64 0))
        (.back 0 [(.v 12), (.v 13), (.v 14), (.v 15), (.v 16), (.ar .add .i64 (.v 11) (.ki .i64 1))])
        (.back 0 [(.v 6), (.v 7), (.v 8), (.v 9), (.v 10), (.ar .add .i64 (.v 11) (.ki .i64 1))])))))
    (.ret [(.and (.cmp .eql (.v 6) (.ki .i64 1)) (.and (.beq (.v 7) (.kb false)) (.and (.beq (.v 8) (.kb false)) (.and (.beq (.v 9) (.kb false)) (.and (.cmp .eql (.v 10) (.ki .i64 0)) (.kb true))))))])))))
theorem va_call {K : FR → Prop} {Λ : List Lp} {ρ : List D} {es : List E} {m : Nat} {k : VC} (c : Cn) (ha : es.map (·.den ρ) = [cnD c]) (hk : k.den Tryd.prog gls K Λ (ρ ++ [I64d (cvI c)])) : (VC.cal 10 [tCn] es [tI] m k).den Tryd.prog gls K Λ ρ :=
  den_cal [I64d _] rfl (valid_fn c) ha rfl hk
theorem bs_self (c : Cn) : (c.s == c.s && (c.p == c.p && (c.r == c.r && (c.d == c.d && (c.n == c.n && true))))) = true := by simp
def frI (xs : List D) : Prop := ∃ (c : Cn) (i : Int), xs = [I64d c.s, .bool c.p, .bool c.r, .bool c.d, I64d c.n, I64d i] ∧ 0 ≤ i ∧ i ≤ 4 ∧ cvI c = 0 ∧ (1 ≤ i → c.p = false) ∧ (2 ≤ i → c.n = 0) ∧ (3 ≤ i → c.d = false) ∧ (4 ≤ i → c.r = false)
def frM (xs : List D) : Nat := 4 - (xs.getD 5 default).toI.toNat
set_option maxHeartbeats 4000000 in
theorem law_all (xs : List D) (h : TypTs [tCn] xs) : Fun Tryd.prog gls 5 [tCn] xs [.c .bool] (.ok [.bool true]) := by
  obtain ⟨_, _, rfl, h1, rfl⟩ := h
  obtain ⟨c0, rfl⟩ := typ_cn h1
  refine fun_of_gen hP Tryd.func5 rfl (by decide) (sg := sgs) (v := vcLaw) (by kernel_rfl) ?_
  unfold vcLaw
  refine va_call c0 rfl (den_ite (fun h => ?_) (fun h => ?_))
  · have he : cvI c0 ≠ 0 := bne_iff_ne.1 h
    refine den_cal [I64d _] rfl (rvalid_fn c0) rfl rfl (den_ret ?_)
    have : (cvI c0 != 0) = true := bne_iff_ne.2 he
    exact congrArg (fun b => FR.ok [D.bool b]) this
  have hv0 : cvI c0 = 0 := by by_cases h' : cvI c0 = 0; exact h'; exact absurd (h.symm.trans (bne_iff_ne.2 h')) Bool.false_ne_true
  clear h
  refine den_loop frI frM ⟨c0, 0, rfl, by omega, by omega, hv0, by omega, by omega, by omega, by omega⟩ ?_
  simp only [AllSh]
  intro a1 _ _ a2 a3 a4 a5 _ _ i _ _ ⟨c, i', he, hi0, hi1, hv, hp, hn, hd, hr⟩
  simp only [List.cons.injEq, D.int.injEq, D.bool.injEq, true_and, and_true] at he
  obtain ⟨rfl, rfl, rfl, rfl, rfl, rfl⟩ := he
  simp only [flatD, cnD, List.cons_append, List.nil_append]
  refine den_ite (fun h => ?_) (fun h => den_ret ?_)
  rotate_left
  · have h4 : i = 4 := by simp only [E.den, cmpB, arI, D.toI, D.toB, D.toL, D.len, D.mapL, List.map_cons, List.map_nil, List.getD_cons_zero, List.getD_cons_succ, List.length_map, List.length_set, decide_eq_false_iff_not] at h; omega
    have gp := hp (by omega)
    have gn := hn (by omega)
    have gd := hd (by omega)
    have gr := hr (by omega)
    clear hp hn hd hr h
    obtain ⟨s, p, r, d, n⟩ := c
    simp only at gp gn gd gr
    subst gp gn gd gr
    have hs : ssB s = false := by
      cases hs : ssB s
      · rfl
      · exact absurd (cv_sess hv hs).1 Bool.false_ne_true
    have hb : s = 1 := cv_base hv hs
    subst hb
    rfl
  have hi2 : i < 4 := by simp only [E.den, cmpB, arI, D.toI, D.toB, D.toL, D.len, D.mapL, List.map_cons, List.map_nil, List.getD_cons_zero, List.getD_cons_succ, List.length_map, List.length_set, decide_eq_true_eq] at h; exact h
  clear h
  have hw : IntKind.wrap .i64 (i + 1) = i + 1 := wrap_i64 (by omega) (by omega)
  refine den_ev (evs_ob (by simp only [E.den, cmpB, arI, D.toI, D.toB, D.toL, D.len, D.mapL, List.map_cons, List.map_nil, List.getD_cons_zero, List.getD_cons_succ, List.length_map, List.length_set, decide_eq_true_eq, ge_iff_le]; exact hi0) (evs_ob (by simp only [E.den, cmpB, arI, D.toI, D.toB, D.toL, D.len, D.mapL, List.map_cons, List.map_nil, List.getD_cons_zero, List.getD_cons_succ, List.length_map, List.length_set, decide_eq_true_eq]; exact hi2) (evs_nil (den_ev (evs_ob (by simp only [E.den, cmpB, arI, D.toI, D.toB, D.toL, D.len, D.mapL, List.map_cons, List.map_nil, List.getD_cons_zero, List.getD_cons_succ, List.length_map, List.length_set, decide_eq_true_eq]; exact hi2) (evs_nil ?_))))))
  have key : ∀ y : Int, (i = 0 ∧ y = 2) ∨ (i = 1 ∧ y = 8) ∨ (i = 2 ∧ y = 12) ∨ (i = 3 ∧ y = 10) → cvI (nxC c y) = 0 ∧ (1 ≤ i + 1 → (nxC c y).p = false) ∧ (2 ≤ i + 1 → (nxC c y).n = 0) ∧ (3 ≤ i + 1 → (nxC c y).d = false) ∧ (4 ≤ i + 1 → (nxC c y).r = false) := by
    rintro y (⟨rfl, rfl⟩ | ⟨rfl, rfl⟩ | ⟨rfl, rfl⟩ | ⟨rfl, rfl⟩)
    · obtain ⟨q1, q2, q3, q4⟩ := nx_p2 c hv
      exact ⟨nx_valid c _ hv, fun _ => q1, fun h => by omega, fun h => by omega, fun h => by omega⟩
    · obtain ⟨q1, q2, q3, q4⟩ := nx_n8 c hv
      exact ⟨nx_valid c _ hv, fun _ => by rw [q2]; exact hp (by omega), fun h => q1, fun h => by omega, fun h => by omega⟩
    · obtain ⟨q1, q2, q3, q4⟩ := nx_d12 c hv
      exact ⟨nx_valid c _ hv, fun _ => by rw [q2]; exact hp (by omega), fun h => by rw [q3]; exact hn (by omega), fun h => q1, fun h => by omega⟩
    · obtain ⟨q1, q2, q3, q4⟩ := nx_r10 c hv
      exact ⟨nx_valid c _ hv, fun _ => by rw [q2]; exact hp (by omega), fun h => by rw [q3]; exact hn (by omega), fun h => by rw [q4]; exact hd (by omega), fun h => q1⟩
  obtain ⟨y, hy, hg⟩ : ∃ y : Int, ((i = 0 ∧ y = 2) ∨ (i = 1 ∧ y = 8) ∨ (i = 2 ∧ y = 12) ∨ (i = 3 ∧ y = 10)) ∧ [I64d 2, I64d 8, I64d 12, I64d 10].getD i.toNat default = I64d y := by
    have : i = 0 ∨ i = 1 ∨ i = 2 ∨ i = 3 := by omega
    rcases this with rfl | rfl | rfl | rfl
    · exact ⟨2, by omega, rfl⟩
    · exact ⟨8, by omega, rfl⟩
    · exact ⟨12, by omega, rfl⟩
    · exact ⟨10, by omega, rfl⟩
  obtain ⟨k1, k2, k3, k4, k5⟩ := key y hy
  refine next_call c y (by simp only [E.den, cmpB, arI, D.toI, D.toB, D.toL, D.len, D.mapL, List.map_cons, List.map_nil, List.getD_cons_zero, List.getD_cons_succ, List.length_map, List.length_set, hg]; rfl) ?_
  simp only [List.cons_append, List.nil_append]
  refine den_ite (fun h => ?_) (fun h => ?_)
  · refine den_back rfl ⟨nxC c y, i + 1, ?_, by omega, by omega, k1, k2, k3, k4, k5⟩ ?_
    · simp only [E.den, cmpB, arI, D.toI, D.toB, D.toL, D.len, D.mapL, List.map_cons, List.map_nil, List.getD_cons_zero, List.getD_cons_succ, List.length_map, List.length_set, hw]
    · simp only [frM, E.den, cmpB, arI, D.toI, D.toB, D.toL, D.len, D.mapL, List.map_cons, List.map_nil, List.getD_cons_zero, List.getD_cons_succ, List.length_map, List.length_set, hw]; omega
  · have he : nxE c y ≠ 0 := beq_eq_false_iff_ne.1 h
    rw [nxC_err he] at k1 k2 k3 k4 k5
    refine den_back rfl ⟨c, i + 1, ?_, by omega, by omega, k1, k2, k3, k4, k5⟩ ?_
    · simp only [E.den, cmpB, arI, D.toI, D.toB, D.toL, D.len, D.mapL, List.map_cons, List.map_nil, List.getD_cons_zero, List.getD_cons_succ, List.length_map, List.length_set, hw]
    · simp only [frM, E.den, cmpB, arI, D.toI, D.toB, D.toL, D.len, D.mapL, List.map_cons, List.map_nil, List.getD_cons_zero, List.getD_cons_succ, List.length_map, List.length_set, hw]; omega

theorem contract (H : Type) (enc : TypeId × Value → H) (W : World) (base : Nat) (args : Array Value) (ds gs : List (DataW H)) (before : List MemPlace)
    (hval0 : ∀ (j : Nat) t v, Tryd.f5.params[j]? = some t → args[j]? = some v → Value.okWide Tryd.prog W .any base t v)
    (hW : DataW.Whole enc Tryd.prog Tryd.f5.params.toList Rows.connectorFreesSpec.vars false W args.toList ds gs before) (hL : laidMetH Tryd.prog Rows.connectorFreesRow.laid W) :
    Calls Tryd.prog 5 args W fun e W' => ∃ v, e = .returned v ∧ Rows.connectorFreesSpec.post enc Tryd.prog Tryd.f5 false true false false W args v W' := by
  have hval := hval0
  obtain ⟨q, q', hA0, _, _, _, _⟩ := id hW
  have hA : DataW.TrodAll enc Tryd.prog W 0 (fun _ => true) true Tryd.f5.params.toList args.toList ds q := hA0
  have walk := law_walk (P := Tryd.prog) (f := 5) (fn := Tryd.f5) (tab_ok hL) (Ts := [tCn]) (by kernel_rfl) law_all hval hA
  rw [Tryd.params5] at hA
  obtain ⟨v0, vs0, d0, ds0, p0, q0, hargs0, rfl, rfl, h0, r0⟩ := trodAll_cons hA
  obtain ⟨rfl, rfl, rfl⟩ := trodAll_nil r0
  refine walk.mono fun e W' ⟨he, hb⟩ => ?_
  subst he
  exact ⟨_, rfl, law_post (tb := 4) laidOut rfl (by kernel_rfl) rfl Tryd.underlying4 hW rfl hb⟩
theorem laid_met (os : Os) : laidMet Tryd.prog Rows.connectorFreesRow.laid ((laidWorld os).forCall (fun _ _ => 0) ⟨#[], #[.agg #[.int .i64 0, .bool false, .bool false, .bool false, .int .i64 0]], []⟩).memory :=
  laidMet_of_run' 8 (by kernel_rfl) (by kernel_rfl)
theorem reads (os : Os) {H : Type} (enc : TypeId × Value → H) : ∃ places, DataW.whole enc Tryd.prog ((laidWorld os).forCall (fun _ _ => 0) ⟨#[], #[.agg #[.int .i64 0, .bool false, .bool false, .bool false, .int .i64 0]], []⟩).memory Tryd.f5.params.toList Rows.connectorFreesSpec.vars false (#[.agg #[.int .i64 0, .bool false, .bool false, .bool false, .int .i64 0]] : Array Value).toList 8 = some ([.agg [.lit (.int .i64 0), .lit (.bool false), .lit (.bool false), .lit (.bool false), .lit (.int .i64 0)]], [], places) :=
  ⟨[], by kernel_rfl⟩
set_option maxRecDepth 100000 in
theorem connectorFrees_lifted (os : Os) (started : os.Started) (H : Type) (enc : TypeId × Value → H) (F : Stop.Interp) :
    ReturnsInHanded {} Tryd.checked os 5 .any ((OpenSpec.ofChange Rows.connectorFreesSpec).preRow enc Tryd.prog Tryd.f5 Rows.connectorFreesRow.domain false Rows.connectorFreesRow.laid) (((OpenSpec.ofChange Rows.connectorFreesSpec).at F).post enc Tryd.prog Tryd.f5 false true false false) := by
  obtain ⟨places, hx⟩ := reads os enc
  refine returnsInHanded_of_row (C := Tryd.checked) (s := OpenSpec.ofChange Rows.connectorFreesSpec) own started (by kernel_rfl) Tryd.func5
    (witness_row_at (enc := enc) (C := Tryd.checked) false (laidWorld os) #[.agg #[.int .i64 0, .bool false, .bool false, .bool false, .int .i64 0]] rfl (by kernel_rfl) (by kernel_rfl) (by kernel_rfl)
      (OpenSpec.preRow_of_cond 8 hx (by kernel_rfl) (fun k hk => by cases hk) (by kernel_rfl) (laid_met os))) ?_
  intro W base args ds gs before hval hW _ _ _ hL _ _
  exact contract H enc W base args ds gs before hval hW hL
theorem connectorFrees_said : Rows.ConnectorFreesSaid :=
  OpenClaim.holds_of_cond 5 Tryd.f5 rfl rfl rfl rfl rfl rfl rfl ⟨rfl, rfl, rfl, rfl, rfl⟩ rfl rfl rfl rfl rfl (by kernel_rfl) Tryd.func5 (by kernel_rfl)
    (of_decide_eq_true (by kernel_rfl)) (by unfold Func.isWrapper; first | (rw [if_pos (by decide +kernel)]; kernel_rfl) | (rw [if_neg (by decide +kernel)]; exact ⟨rfl, rfl⟩))
    (fun os started H enc _ F => by rw [OpenClaim.pre_eq_preRow]; exact connectorFrees_lifted os started H enc F)
theorem plain (f : FuncId) (fn : Func) (hf : Tryd.pinned.checked.prog.funcNamed Rows.connectorFreesRow.func = some f) (hfn : Tryd.pinned.checked.prog.funcs[f]? = some fn) :
    false = Tryd.pinned.checked.prog.looks [] ∧ ∀ (j : Nat) t, fn.params[j]? = some t → Tryd.pinned.checked.prog.wantsStandIn t = false := by
  obtain rfl : f = 5 := Option.some.inj ((show Tryd.prog.funcNamed Rows.connectorFreesRow.func = some 5 by kernel_rfl).symm.trans hf) |>.symm
  obtain rfl : fn = Tryd.f5 := (Option.some.inj (Tryd.func5.symm.trans hfn)).symm
  refine ⟨by kernel_rfl, fun j t ht => ?_⟩
  have h : (Tryd.f5.params.toList.all fun t => !(Tryd.prog.wantsStandIn t)) = true := by kernel_rfl
  have := List.all_eq_true.1 h t (by have := Array.mem_of_getElem? ht; simpa using this)
  have h2 : Tryd.prog.wantsStandIn t = false := by simpa using this
  exact h2
theorem connectorFrees_card : Rows.ConnectorFreesCardSaid :=
  Claim7.holds_tied_plain_at .later [] _ _ _ _ connectorFrees_said (fun _ h => by cases h) (by kernel_rfl) (fun _ h => by cases h) connectorFrees_row_tie rfl ⟨rfl, rfl⟩ (by kernel_rfl) rfl plain (by kernel_rfl)
#print axioms connectorFrees_card
end Go.Proofs.YtajphmclobadfaaDoor
