/-
  ConnectorRuns: its walk, its row and its card.
-/
import Derived.Test.YtajphmclobadfaaDoorSy28e
set_option maxRecDepth 100000
set_option linter.unusedSimpArgs false
set_option linter.unusedVariables false
namespace Go.Proofs.YtajphmclobadfaaDoor
open Go.Proofs.YtajphmclobadfaaDoor.Sy Go.RowKit Go.WideShapes Go.ChangeShapes Go.ChangeAt
def vcLaw : VC := (.loop [(.int .i64), .bool, .bool, .bool, (.int .i64), (.int .i64), .bool, .bool, .bool, (.int .i64), .bool, (.int .i64)] [(.ki .i64 1), (.kb false), (.kb false), (.kb false), (.ki .i64 0), (.ki .i64 1), (.kb false), (.kb false), (.kb false), (.ki .i64 0), (.kb false), (.ki .i64 0)]
 (.ite (.cmp .lss (.v 12) (.len (.v 0)))
  (.ev [(.ob (.cmp .geq (.v 12) (.ki .i64 0))), (.ob (.cmp .lss (.v 12) (.len (.v 0))))]
   (.ite (.cmp .geq (.v 12) (.ki .i64 200))
    (.ret [(.kb true)])
    (.cal 8 [(.g [(.int .i64), .bool, .bool, .bool, (.int .i64)]), (.c (.int .i64))] [(.rc (.cons (.v 1) (.cons (.v 2) (.cons (.v 3) (.cons (.v 4) (.cons (.v 5) .nil)))))), (.get (.v 0) (.v 12))] [(.g [(.int .i64), .bool, .bool, .bool, (.int .i64)]), (.c (.int .i64))] 13
     (.cal 9 [(.g [(.int .i64), .bool, .bool, .bool, (.int .i64)]), (.c (.int .i64))] [(.rc (.cons (.v 6) (.cons (.v 7) (.cons (.v 8) (.cons (.v 9) (.cons (.v 10) .nil)))))), (.get (.v 0) (.v 12))] [(.g [(.int .i64), .bool, .bool, .bool, (.int .i64)]), (.c (.int .i64))] 19
      (.ite (.cmp .neq (.v 18) (.v 24))
       (.ret [(.kb false)])
       (.ite (.and (.cmp .eql (.v 13) (.v 19)) (.and (.beq (.v 14) (.v 20)) (.and (.beq (.v 15) (.v 21)) (.and (.beq (.v 16) (.v 22)) (.and (.cmp .eql (.v 17) (.v 23)) (.kb true))))))
        (.cal 10 [(.g [(.int .i64), .bool, .bool, .bool, (.int .i64)])] [(.rc (.cons (.v 13) (.cons (.v 14) (.cons (.v 15) (.cons (.v 16) (.cons (.v 17) .nil))))))] [(.c (.int .i64))] 25
         (.ite (.cmp .neq (.v 25) (.ki .i64 0))
          (.ret [(.kb false)])
          (.back 0 [(.v 13), (.v 14), (.v 15), (.v 16), (.v 17), (.v 19), (.v 20), (.v 21), (.v 22), (.v 23), (.v 11), (.ar .add .i64 (.v 12) (.ki .i64 1))])))
        (.ret [(.kb false)])))))))
  (.ret [(.kb true)])))
theorem va_call {K : FR → Prop} {Λ : List Lp} {ρ : List D} {es : List E} {m : Nat} {k : VC} (c : Cn) (ha : es.map (·.den ρ) = [cnD c]) (hk : k.den Tryd.prog gls K Λ (ρ ++ [I64d (cvI c)])) : (VC.cal 10 [tCn] es [tI] m k).den Tryd.prog gls K Λ ρ :=
  den_cal [I64d _] rfl (valid_fn c) ha rfl hk
theorem bs_self (c : Cn) : (c.s == c.s && (c.p == c.p && (c.r == c.r && (c.d == c.d && (c.n == c.n && true))))) = true := by simp
def rnI (n : Nat) (xs : List D) : Prop := ∃ (c : Cn) (a : Bool) (i : Int), xs = [I64d c.s, .bool c.p, .bool c.r, .bool c.d, I64d c.n, I64d c.s, .bool c.p, .bool c.r, .bool c.d, I64d c.n, .bool a, I64d i] ∧ 0 ≤ i ∧ i ≤ n ∧ cvI c = 0
def rnM (n : Nat) (xs : List D) : Nat := n - (xs.getD 11 default).toI.toNat
set_option maxHeartbeats 4000000 in
theorem law_all (xs : List D) (h : TypTs [tL] xs) : Fun Tryd.prog gls 4 [tL] xs [.c .bool] (.ok [.bool true]) := by
  obtain ⟨_, _, rfl, h1, rfl⟩ := h
  obtain ⟨L, rfl, _⟩ := typ_ints h1
  refine fun_of_gen hP Tryd.func4 rfl (by decide) (sg := sgs) (v := vcLaw) (by kernel_rfl) ?_
  unfold vcLaw
  refine den_loop (rnI L.length) (rnM L.length) ⟨⟨1, false, false, false, 0⟩, false, 0, rfl, by omega, by omega, rfl⟩ ?_
  simp only [AllSh]
  intro a1 _ _ a2 a3 a4 a5 _ _ b1 _ _ b2 b3 b4 b5 _ _ a i _ _ ⟨c, a', i', he, hi0, hi1, hv⟩
  simp only [List.cons.injEq, D.int.injEq, D.bool.injEq, true_and, and_true] at he
  obtain ⟨rfl, rfl, rfl, rfl, rfl, rfl, rfl, rfl, rfl, rfl, rfl, rfl⟩ := he
  simp only [flatD, List.cons_append, List.nil_append]
  refine den_ite (fun h => ?_) (fun h => den_ret rfl)
  have hi2 : i < L.length := by simp only [E.den, cmpB, arI, D.toI, D.toB, D.toL, D.len, D.mapL, List.map_cons, List.map_nil, List.getD_cons_zero, List.getD_cons_succ, List.length_map, List.length_set, decide_eq_true_eq] at h; exact h
  clear h
  have hw : IntKind.wrap .i64 (i + 1) = i + 1 ∨ 200 ≤ i := by by_cases hh : 200 ≤ i; exact .inr hh; exact .inl (wrap_i64 (by omega) (by omega))
  have hg : (L.map I64d).getD i.toNat default = I64d (L.getD i.toNat 0) := get_map 0 hi0 hi2
  generalize L.getD i.toNat 0 = y at hg
  refine den_ev (evs_ob (by simp only [E.den, cmpB, arI, D.toI, D.toB, D.toL, D.len, D.mapL, List.map_cons, List.map_nil, List.getD_cons_zero, List.getD_cons_succ, List.length_map, List.length_set, decide_eq_true_eq, ge_iff_le]; exact hi0) (evs_ob (by simp only [E.den, cmpB, arI, D.toI, D.toB, D.toL, D.len, D.mapL, List.map_cons, List.map_nil, List.getD_cons_zero, List.getD_cons_succ, List.length_map, List.length_set, decide_eq_true_eq]; exact hi2) (evs_nil ?_)))
  refine den_ite (fun h => den_ret rfl) (fun h => ?_)
  have hi3 : i < 200 := by simp only [E.den, cmpB, arI, D.toI, D.toB, D.toL, D.len, D.mapL, List.map_cons, List.map_nil, List.getD_cons_zero, List.getD_cons_succ, List.length_map, List.length_set, decide_eq_false_iff_not, ge_iff_le, Int.not_le] at h; exact h
  have hw : IntKind.wrap .i64 (i + 1) = i + 1 := wrap_i64 (by omega) (by omega)
  clear h
  refine next_call c y (by simp only [E.den, cmpB, arI, D.toI, D.toB, D.toL, D.len, D.mapL, List.map_cons, List.map_nil, List.getD_cons_zero, List.getD_cons_succ, List.length_map, List.length_set, hg]; rfl) ?_
  refine rnext_call c y (by simp only [E.den, cmpB, arI, D.toI, D.toB, D.toL, D.len, D.mapL, List.map_cons, List.map_nil, List.getD_cons_zero, List.getD_cons_succ, List.length_map, List.length_set, List.cons_append, List.nil_append, hg]; rfl) ?_
  simp only [List.cons_append, List.nil_append]
  refine den_ite (fun h => ?_) (fun h => ?_)
  · exact absurd h (by simp [E.den, cmpB, D.toI, D.toB])
  refine den_ite (fun h => ?_) (fun h => ?_)
  rotate_left
  · exact absurd h (by simp [E.den, cmpB, D.toI, D.toB])
  have hv' := nx_valid c y hv
  refine va_call (nxC c y) rfl ?_
  simp only [List.cons_append, List.nil_append]
  rw [hv']
  refine den_ite (fun h => ?_) (fun h => ?_)
  · exact absurd h (by simp [E.den, cmpB, D.toI, D.toB])
  refine den_back rfl ⟨nxC c y, a, i + 1, ?_, by omega, by omega, hv'⟩ ?_
  · simp only [E.den, cmpB, arI, D.toI, D.toB, D.toL, D.len, D.mapL, List.map_cons, List.map_nil, List.getD_cons_zero, List.getD_cons_succ, List.length_map, List.length_set, hw]
  · simp only [rnM, E.den, cmpB, arI, D.toI, D.toB, D.toL, D.len, D.mapL, List.map_cons, List.map_nil, List.getD_cons_zero, List.getD_cons_succ, List.length_map, List.length_set, hw]; omega

theorem contract (H : Type) (enc : TypeId × Value → H) (W : World) (base : Nat) (args : Array Value) (ds gs : List (DataW H)) (before : List MemPlace)
    (hval0 : ∀ (j : Nat) t v, Tryd.f4.params[j]? = some t → args[j]? = some v → Value.okWide Tryd.prog W .any base t v)
    (hW : DataW.Whole enc Tryd.prog Tryd.f4.params.toList Rows.connectorRunsSpec.vars false W args.toList ds gs before) (hL : laidMetH Tryd.prog Rows.connectorRunsRow.laid W) :
    Calls Tryd.prog 4 args W fun e W' => ∃ v, e = .returned v ∧ Rows.connectorRunsSpec.post enc Tryd.prog Tryd.f4 false true false false W args v W' := by
  have hval := hval0
  obtain ⟨q, q', hA0, _, _, _, _⟩ := id hW
  have hA : DataW.TrodAll enc Tryd.prog W 0 (fun _ => true) true Tryd.f4.params.toList args.toList ds q := hA0
  have walk := law_walk (P := Tryd.prog) (f := 4) (fn := Tryd.f4) (tab_ok hL) (Ts := [tL]) (by kernel_rfl) law_all hval hA
  rw [Tryd.params4] at hA
  obtain ⟨v0, vs0, d0, ds0, p0, q0, hargs0, rfl, rfl, h0, r0⟩ := trodAll_cons hA
  obtain ⟨rfl, rfl, rfl⟩ := trodAll_nil r0
  refine walk.mono fun e W' ⟨he, hb⟩ => ?_
  subst he
  exact ⟨_, rfl, law_post (tb := 4) laidOut rfl (by kernel_rfl) rfl Tryd.underlying4 hW rfl hb⟩
theorem laid_met (os : Os) : laidMet Tryd.prog Rows.connectorRunsRow.laid ((laidWorld os).forCall (fun _ _ => 0) ⟨#[], #[.slice none 0 0], []⟩).memory :=
  laidMet_of_run' 8 (by kernel_rfl) (by kernel_rfl)
theorem reads (os : Os) {H : Type} (enc : TypeId × Value → H) : ∃ places, DataW.whole enc Tryd.prog ((laidWorld os).forCall (fun _ _ => 0) ⟨#[], #[.slice none 0 0], []⟩).memory Tryd.f4.params.toList Rows.connectorRunsSpec.vars false (#[.slice none 0 0] : Array Value).toList 8 = some ([.nil], [], places) :=
  ⟨[], by kernel_rfl⟩
set_option maxRecDepth 100000 in
theorem connectorRuns_lifted (os : Os) (started : os.Started) (H : Type) (enc : TypeId × Value → H) (F : Stop.Interp) :
    ReturnsInHanded {} Tryd.checked os 4 .any ((OpenSpec.ofChange Rows.connectorRunsSpec).preRow enc Tryd.prog Tryd.f4 Rows.connectorRunsRow.domain false Rows.connectorRunsRow.laid) (((OpenSpec.ofChange Rows.connectorRunsSpec).at F).post enc Tryd.prog Tryd.f4 false true false false) := by
  obtain ⟨places, hx⟩ := reads os enc
  refine returnsInHanded_of_row (C := Tryd.checked) (s := OpenSpec.ofChange Rows.connectorRunsSpec) own started (by kernel_rfl) Tryd.func4
    (witness_row_at (enc := enc) (C := Tryd.checked) false (laidWorld os) #[.slice none 0 0] rfl (by kernel_rfl) (by kernel_rfl) (by kernel_rfl)
      (OpenSpec.preRow_of_cond 8 hx (by kernel_rfl) (fun k hk => by cases hk) (by kernel_rfl) (laid_met os))) ?_
  intro W base args ds gs before hval hW _ _ _ hL _ _
  exact contract H enc W base args ds gs before hval hW hL
theorem connectorRuns_said : Rows.ConnectorRunsSaid :=
  OpenClaim.holds_of_cond 4 Tryd.f4 rfl rfl rfl rfl rfl rfl rfl ⟨rfl, rfl, rfl, rfl, rfl⟩ rfl rfl rfl rfl rfl (by kernel_rfl) Tryd.func4 (by kernel_rfl)
    (of_decide_eq_true (by kernel_rfl)) (by unfold Func.isWrapper; first | (rw [if_pos (by decide +kernel)]; kernel_rfl) | (rw [if_neg (by decide +kernel)]; exact ⟨rfl, rfl⟩))
    (fun os started H enc _ F => by rw [OpenClaim.pre_eq_preRow]; exact connectorRuns_lifted os started H enc F)
theorem plain (f : FuncId) (fn : Func) (hf : Tryd.pinned.checked.prog.funcNamed Rows.connectorRunsRow.func = some f) (hfn : Tryd.pinned.checked.prog.funcs[f]? = some fn) :
    false = Tryd.pinned.checked.prog.looks [] ∧ ∀ (j : Nat) t, fn.params[j]? = some t → Tryd.pinned.checked.prog.wantsStandIn t = false := by
  obtain rfl : f = 4 := Option.some.inj ((show Tryd.prog.funcNamed Rows.connectorRunsRow.func = some 4 by kernel_rfl).symm.trans hf) |>.symm
  obtain rfl : fn = Tryd.f4 := (Option.some.inj (Tryd.func4.symm.trans hfn)).symm
  refine ⟨by kernel_rfl, fun j t ht => ?_⟩
  have h : (Tryd.f4.params.toList.all fun t => !(Tryd.prog.wantsStandIn t)) = true := by kernel_rfl
  have := List.all_eq_true.1 h t (by have := Array.mem_of_getElem? ht; simpa using this)
  have h2 : Tryd.prog.wantsStandIn t = false := by simpa using this
  exact h2
theorem connectorRuns_card : Rows.ConnectorRunsCardSaid :=
  Claim7.holds_tied_plain_at .later [] _ _ _ _ connectorRuns_said (fun _ h => by cases h) (by kernel_rfl) (fun _ h => by cases h) connectorRuns_row_tie rfl ⟨rfl, rfl⟩ (by kernel_rfl) rfl plain (by kernel_rfl)
#print axioms connectorRuns_card
end Go.Proofs.YtajphmclobadfaaDoor
