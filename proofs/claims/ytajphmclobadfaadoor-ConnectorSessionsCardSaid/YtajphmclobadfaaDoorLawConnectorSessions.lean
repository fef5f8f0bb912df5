/-
  ConnectorSessions: its walk, its row and its card.
-/
import Derived.Test.YtajphmclobadfaaDoorSy28e
set_option maxRecDepth 100000
set_option linter.unusedSimpArgs false
set_option linter.unusedVariables false
namespace Go.Proofs.YtajphmclobadfaaDoor
open Go.Proofs.YtajphmclobadfaaDoor.Sy Go.RowKit Go.WideShapes Go.ChangeShapes Go.ChangeAt
def vcLaw : VC := (.ev [(.ob (.cmp .geq (.ar .rem .u8 (.v 1) (.ki .u8 3)) (.ki .i64 0))), (.ob (.cmp .lss (.ar .rem .u8 (.v 1) (.ki .u8 3)) (.ki .i64 3)))]
 (.ev [(.ob (.cmp .lss (.ar .rem .u8 (.v 1) (.ki .u8 3)) (.ki .i64 3)))]
  (.cal 8 [(.g [(.int .i64), .bool, .bool, .bool, (.int .i64)]), (.c (.int .i64))] [(.rc (.cons (.get (.cons (.ki .i64 3) (.cons (.ki .i64 4) (.cons (.ki .i64 5) .nil))) (.ar .rem .u8 (.v 1) (.ki .u8 3))) (.cons (.kb true) (.cons (.kb false) (.cons (.v 0) (.cons (.ki .i64 0) .nil)))))), (.v 2)] [(.g [(.int .i64), .bool, .bool, .bool, (.int .i64)]), (.c (.int .i64))] 3
   (.ite (.cmp .neq (.v 8) (.ki .i64 0))
    (.ret [(.and (.cmp .eql (.v 3) (.get (.cons (.ki .i64 3) (.cons (.ki .i64 4) (.cons (.ki .i64 5) .nil))) (.ar .rem .u8 (.v 1) (.ki .u8 3)))) (.and (.beq (.v 4) (.kb true)) (.and (.beq (.v 5) (.kb false)) (.and (.beq (.v 6) (.v 0)) (.and (.cmp .eql (.v 7) (.ki .i64 0)) (.kb true))))))])
    (.ite (.cmp .neq (.v 2) (.ki .i64 2))
     (.ite (.cmp .neq (.v 2) (.ki .i64 7))
      (.cal 12 [(.c (.int .i64))] [(.v 3)] [(.c .bool)] 9
       (.ite (.v 9)
        (.ite (.v 4)
         (.ite (.beq (.v 6) (.v 0))
          (.ret [(.kb true)])
          (.ite (.cmp .eql (.v 2) (.ki .i64 11))
           (.ret [(.kb true)])
           (.ret [(.cmp .eql (.v 2) (.ki .i64 12))])))
         (.ret [(.kb false)]))
        (.ret [(.kb false)])))
      (.cal 12 [(.c (.int .i64))] [(.v 3)] [(.c .bool)] 9
       (.ite (.v 9)
        (.ret [(.kb false)])
        (.ite (.beq (.v 6) (.v 0))
         (.ret [(.beq (.v 4) (.cmp .eql (.v 2) (.ki .i64 7)))])
         (.ret [(.kb false)])))))
     (.cal 12 [(.c (.int .i64))] [(.v 3)] [(.c .bool)] 9
      (.ite (.v 9)
       (.ret [(.kb false)])
       (.ite (.beq (.v 6) (.v 0))
        (.ret [(.beq (.v 4) (.cmp .eql (.v 2) (.ki .i64 7)))])
        (.ret [(.kb false)])))))))))
theorem se_call {K : FR → Prop} {Λ : List Lp} {ρ : List D} {es : List E} {m : Nat} {k : VC} (s : Int) (ha : es.map (·.den ρ) = [I64d s]) (hk : k.den Tryd.prog gls K Λ (ρ ++ [.bool (ssB s)])) : (VC.cal 12 [tI] es [tB] m k).den Tryd.prog gls K Λ ρ :=
  den_cal [.bool _] rfl (lsess_fn s) ha rfl hk
def vcEnd (G : E) : VC := (.ite (.cmp .neq (.v 8) (.ki .i64 0))
    (.ret [(.and (.cmp .eql (.v 3) G) (.and (.beq (.v 4) (.kb true)) (.and (.beq (.v 5) (.kb false)) (.and (.beq (.v 6) (.v 0)) (.and (.cmp .eql (.v 7) (.ki .i64 0)) (.kb true))))))])
    (.ite (.cmp .neq (.v 2) (.ki .i64 2))
     (.ite (.cmp .neq (.v 2) (.ki .i64 7))
      (.cal 12 [(.c (.int .i64))] [(.v 3)] [(.c .bool)] 9
       (.ite (.v 9)
        (.ite (.v 4)
         (.ite (.beq (.v 6) (.v 0))
          (.ret [(.kb true)])
          (.ite (.cmp .eql (.v 2) (.ki .i64 11))
           (.ret [(.kb true)])
           (.ret [(.cmp .eql (.v 2) (.ki .i64 12))])))
         (.ret [(.kb false)]))
        (.ret [(.kb false)])))
      (.cal 12 [(.c (.int .i64))] [(.v 3)] [(.c .bool)] 9
       (.ite (.v 9)
        (.ret [(.kb false)])
        (.ite (.beq (.v 6) (.v 0))
         (.ret [(.beq (.v 4) (.cmp .eql (.v 2) (.ki .i64 7)))])
         (.ret [(.kb false)])))))
     (.cal 12 [(.c (.int .i64))] [(.v 3)] [(.c .bool)] 9
      (.ite (.v 9)
       (.ret [(.kb false)])
       (.ite (.beq (.v 6) (.v 0))
        (.ret [(.beq (.v 4) (.cmp .eql (.v 2) (.ki .i64 7)))])
        (.ret [(.kb false)]))))))
theorem ses_end {i st : Int} {d : Bool} (s : Int) (hs : s = 3 ∨ s = 4 ∨ s = 5) (G : E) (hG : (E.den ([.bool d, .int .u8 st, I64d i] ++ [I64d (nxC ⟨s, true, false, d, 0⟩ i).s, .bool (nxC ⟨s, true, false, d, 0⟩ i).p, .bool (nxC ⟨s, true, false, d, 0⟩ i).r, .bool (nxC ⟨s, true, false, d, 0⟩ i).d, I64d (nxC ⟨s, true, false, d, 0⟩ i).n, I64d (nxE ⟨s, true, false, d, 0⟩ i)]) G).toI = s) : (vcEnd G).den Tryd.prog gls (fun r' => r' = .ok [.bool true]) [] ([.bool d, .int .u8 st, I64d i] ++ [I64d (nxC ⟨s, true, false, d, 0⟩ i).s, .bool (nxC ⟨s, true, false, d, 0⟩ i).p, .bool (nxC ⟨s, true, false, d, 0⟩ i).r, .bool (nxC ⟨s, true, false, d, 0⟩ i).d, I64d (nxC ⟨s, true, false, d, 0⟩ i).n, I64d (nxE ⟨s, true, false, d, 0⟩ i)]) := by
  have F := ses_facts d s i hs
  have E0 := @nxC_err ⟨s, true, false, d, 0⟩ i
  generalize nxE ⟨s, true, false, d, 0⟩ i = e at *
  generalize nxC ⟨s, true, false, d, 0⟩ i = x at *
  obtain ⟨xs, xp, xr, xd, xn⟩ := x
  simp only [List.cons_append, List.nil_append] at *
  unfold vcEnd
  refine den_ite (fun h => den_ret ?_) (fun h => ?_)
  · have he : e ≠ 0 := bne_iff_ne.1 h
    have := E0 he
    simp only [Cn.mk.injEq] at this
    obtain ⟨rfl, rfl, rfl, rfl, rfl⟩ := this
    simp only [E.den, cmpB, arI, D.toI, D.toB, D.toL, D.len, D.mapL, List.map_cons, List.map_nil, List.getD_cons_zero, List.getD_cons_succ, List.length_map, List.length_set, hG]
    simp
    exact hG.symm
  have he : e = 0 := by by_cases h' : e = 0; exact h'; exact absurd (h.symm.trans (bne_iff_ne.2 h')) Bool.false_ne_true
  obtain ⟨F1, F2⟩ := F he
  clear F E0 h hG
  refine den_ite (fun h1 => den_ite (fun h2 => ?_) (fun h2 => ?_)) (fun h1 => ?_)
  · have a1 : i ≠ 2 := bne_iff_ne.1 h1
    have a2 : i ≠ 7 := bne_iff_ne.1 h2
    obtain ⟨b1, b2, b3⟩ := F1 ⟨a1, a2⟩
    refine se_call xs rfl (den_ite (fun h3 => ?_) (fun h3 => ?_))
    rotate_left
    · exact absurd (h3.symm.trans b1) Bool.false_ne_true
    refine den_ite (fun h4 => ?_) (fun h4 => ?_)
    rotate_left
    · exact absurd (h4.symm.trans b2) Bool.false_ne_true
    refine den_ite (fun h5 => den_ret rfl) (fun h5 => ?_)
    refine den_ite (fun h6 => den_ret rfl) (fun h6 => den_ret ?_)
    have c1 : ¬ xd = d := fun e => absurd (h5.symm.trans (beq_iff_eq.2 e)) Bool.false_ne_true
    have c2 : i ≠ 11 := beq_eq_false_iff_ne.1 h6
    have c3 : i = 12 := by rcases b3 with b | b | b; exact absurd b c1; exact absurd b c2; exact b
    subst c3
    rfl
  all_goals (
    have a : i = 2 ∨ i = 7 := by
      by_cases q1 : i = 2
      · exact .inl q1
      · by_cases q2 : i = 7
        · exact .inr q2
        · first
          | exact absurd (h2.symm.trans (bne_iff_ne.2 q2)) Bool.false_ne_true
          | exact absurd (h1.symm.trans (bne_iff_ne.2 q1)) Bool.false_ne_true
    obtain ⟨b1, b2, b3⟩ := F2 a
    refine se_call xs rfl (den_ite (fun h3 => ?_) (fun h3 => ?_))
    · exact absurd (b1.symm.trans h3) Bool.false_ne_true
    refine den_ite (fun h5 => den_ret ?_) (fun h5 => ?_)
    · have : (xp == (i == 7)) = true := by
        (try simp only at b3)
        rw [b3]
        by_cases q : i = 7 <;> simp [q]
      exact congrArg (fun b => FR.ok [D.bool b]) this
    · exact absurd (h5.symm.trans (beq_iff_eq.2 b2)) Bool.false_ne_true)
set_option maxHeartbeats 4000000 in
theorem law_all (xs : List D) (h : TypTs [tB, .c (.int .u8), tI] xs) : Fun Tryd.prog gls 6 [tB, .c (.int .u8), tI] xs [.c .bool] (.ok [.bool true]) := by
  obtain ⟨_, _, rfl, h1, _, _, rfl, h2, _, _, rfl, h3, rfl⟩ := h
  obtain ⟨d, rfl⟩ := typ_bool h1
  obtain ⟨i, rfl, _⟩ := typ_int h3
  obtain ⟨st, rfl, hs1, hs2⟩ : ∃ n, _ = D.int .u8 n ∧ IntKind.min .u8 ≤ n ∧ n ≤ IntKind.max .u8 := by
    have h' := h2
    change Typ (.int .u8) _ at h'
    unfold Typ at h'
    exact h'
  rw [min_u8] at hs1
  rw [max_u8] at hs2
  refine fun_of_gen hP Tryd.func6 rfl (by decide) (sg := sgs) (v := vcLaw) (by kernel_rfl) ?_
  unfold vcLaw
  show VC.den _ _ _ _ _ [.bool d, .int .u8 st, I64d i]
  have fin := fun s hs G hG => ses_end (i := i) (d := d) (st := st) s hs G hG
  have : st.tmod 3 = 0 ∨ st.tmod 3 = 1 ∨ st.tmod 3 = 2 := by rw [Int.tmod_eq_emod_of_nonneg hs1]; omega
  rcases this with hz | hz | hz
  · refine den_ev (evs_ob (by simp only [E.den, cmpB, arI, D.toI, D.toB, D.toL, D.len, D.mapL, List.map_cons, List.map_nil, List.getD_cons_zero, List.getD_cons_succ, List.length_map, List.length_set, hz, decide_eq_true_eq, ge_iff_le]; decide) (evs_ob (by simp only [E.den, cmpB, arI, D.toI, D.toB, D.toL, D.len, D.mapL, List.map_cons, List.map_nil, List.getD_cons_zero, List.getD_cons_succ, List.length_map, List.length_set, hz, decide_eq_true_eq, ge_iff_le]; decide) (evs_nil (den_ev (evs_ob (by simp only [E.den, cmpB, arI, D.toI, D.toB, D.toL, D.len, D.mapL, List.map_cons, List.map_nil, List.getD_cons_zero, List.getD_cons_succ, List.length_map, List.length_set, hz, decide_eq_true_eq, ge_iff_le]; decide) (evs_nil ?_))))))
    refine next_call ⟨3, true, false, d, 0⟩ i (by simp only [E.den, cmpB, arI, D.toI, D.toB, D.toL, D.len, D.mapL, List.map_cons, List.map_nil, List.getD_cons_zero, List.getD_cons_succ, List.length_map, List.length_set, hz]; rfl) ?_
    exact fin 3 (by decide) _ (by simp only [E.den, cmpB, arI, D.toI, D.toB, D.toL, D.len, D.mapL, List.map_cons, List.map_nil, List.getD_cons_zero, List.getD_cons_succ, List.length_map, List.length_set, List.cons_append, List.nil_append, hz]; rfl)
  · refine den_ev (evs_ob (by simp only [E.den, cmpB, arI, D.toI, D.toB, D.toL, D.len, D.mapL, List.map_cons, List.map_nil, List.getD_cons_zero, List.getD_cons_succ, List.length_map, List.length_set, hz, decide_eq_true_eq, ge_iff_le]; decide) (evs_ob (by simp only [E.den, cmpB, arI, D.toI, D.toB, D.toL, D.len, D.mapL, List.map_cons, List.map_nil, List.getD_cons_zero, List.getD_cons_succ, List.length_map, List.length_set, hz, decide_eq_true_eq, ge_iff_le]; decide) (evs_nil (den_ev (evs_ob (by simp only [E.den, cmpB, arI, D.toI, D.toB, D.toL, D.len, D.mapL, List.map_cons, List.map_nil, List.getD_cons_zero, List.getD_cons_succ, List.length_map, List.length_set, hz, decide_eq_true_eq, ge_iff_le]; decide) (evs_nil ?_))))))
    refine next_call ⟨4, true, false, d, 0⟩ i (by simp only [E.den, cmpB, arI, D.toI, D.toB, D.toL, D.len, D.mapL, List.map_cons, List.map_nil, List.getD_cons_zero, List.getD_cons_succ, List.length_map, List.length_set, hz]; rfl) ?_
    exact fin 4 (by decide) _ (by simp only [E.den, cmpB, arI, D.toI, D.toB, D.toL, D.len, D.mapL, List.map_cons, List.map_nil, List.getD_cons_zero, List.getD_cons_succ, List.length_map, List.length_set, List.cons_append, List.nil_append, hz]; rfl)
  · refine den_ev (evs_ob (by simp only [E.den, cmpB, arI, D.toI, D.toB, D.toL, D.len, D.mapL, List.map_cons, List.map_nil, List.getD_cons_zero, List.getD_cons_succ, List.length_map, List.length_set, hz, decide_eq_true_eq, ge_iff_le]; decide) (evs_ob (by simp only [E.den, cmpB, arI, D.toI, D.toB, D.toL, D.len, D.mapL, List.map_cons, List.map_nil, List.getD_cons_zero, List.getD_cons_succ, List.length_map, List.length_set, hz, decide_eq_true_eq, ge_iff_le]; decide) (evs_nil (den_ev (evs_ob (by simp only [E.den, cmpB, arI, D.toI, D.toB, D.toL, D.len, D.mapL, List.map_cons, List.map_nil, List.getD_cons_zero, List.getD_cons_succ, List.length_map, List.length_set, hz, decide_eq_true_eq, ge_iff_le]; decide) (evs_nil ?_))))))
    refine next_call ⟨5, true, false, d, 0⟩ i (by simp only [E.den, cmpB, arI, D.toI, D.toB, D.toL, D.len, D.mapL, List.map_cons, List.map_nil, List.getD_cons_zero, List.getD_cons_succ, List.length_map, List.length_set, hz]; rfl) ?_
    exact fin 5 (by decide) _ (by simp only [E.den, cmpB, arI, D.toI, D.toB, D.toL, D.len, D.mapL, List.map_cons, List.map_nil, List.getD_cons_zero, List.getD_cons_succ, List.length_map, List.length_set, List.cons_append, List.nil_append, hz]; rfl)

theorem contract (H : Type) (enc : TypeId × Value → H) (W : World) (base : Nat) (args : Array Value) (ds gs : List (DataW H)) (before : List MemPlace)
    (hval0 : ∀ (j : Nat) t v, Tryd.f6.params[j]? = some t → args[j]? = some v → Value.okWide Tryd.prog W .any base t v)
    (hW : DataW.Whole enc Tryd.prog Tryd.f6.params.toList Rows.connectorSessionsSpec.vars false W args.toList ds gs before) (hL : laidMetH Tryd.prog Rows.connectorSessionsRow.laid W) :
    Calls Tryd.prog 6 args W fun e W' => ∃ v, e = .returned v ∧ Rows.connectorSessionsSpec.post enc Tryd.prog Tryd.f6 false true false false W args v W' := by
  have hval := hval0
  obtain ⟨q, q', hA0, _, _, _, _⟩ := id hW
  have hA : DataW.TrodAll enc Tryd.prog W 0 (fun _ => true) true Tryd.f6.params.toList args.toList ds q := hA0
  have walk := law_walk (P := Tryd.prog) (f := 6) (fn := Tryd.f6) (tab_ok hL) (Ts := [tB, .c (.int .u8), tI]) (by kernel_rfl) law_all hval hA
  rw [Tryd.params6] at hA
  obtain ⟨v0, vs0, d0, ds0, p0, q0, hargs0, rfl, rfl, h0, r0⟩ := trodAll_cons hA
  obtain ⟨v1, vs1, d1, ds1, p1, q1, hargs1, rfl, rfl, h1, r1⟩ := trodAll_cons r0
  subst hargs1
  obtain ⟨v2, vs2, d2, ds2, p2, q2, hargs2, rfl, rfl, h2, r2⟩ := trodAll_cons r1
  subst hargs2
  obtain ⟨rfl, rfl, rfl⟩ := trodAll_nil r2
  refine walk.mono fun e W' ⟨he, hb⟩ => ?_
  subst he
  exact ⟨_, rfl, law_post (tb := 4) laidOut rfl (by kernel_rfl) rfl Tryd.underlying4 hW rfl hb⟩
theorem laid_met (os : Os) : laidMet Tryd.prog Rows.connectorSessionsRow.laid ((laidWorld os).forCall (fun _ _ => 0) ⟨#[], #[.bool false, .int .u8 0, .int .i64 0], []⟩).memory :=
  laidMet_of_run' 8 (by kernel_rfl) (by kernel_rfl)
theorem reads (os : Os) {H : Type} (enc : TypeId × Value → H) : ∃ places, DataW.whole enc Tryd.prog ((laidWorld os).forCall (fun _ _ => 0) ⟨#[], #[.bool false, .int .u8 0, .int .i64 0], []⟩).memory Tryd.f6.params.toList Rows.connectorSessionsSpec.vars false (#[.bool false, .int .u8 0, .int .i64 0] : Array Value).toList 8 = some ([.lit (.bool false), .lit (.int .u8 0), .lit (.int .i64 0)], [], places) :=
  ⟨[], by kernel_rfl⟩
set_option maxRecDepth 100000 in
theorem connectorSessions_lifted (os : Os) (started : os.Started) (H : Type) (enc : TypeId × Value → H) (F : Stop.Interp) :
    ReturnsInHanded {} Tryd.checked os 6 .any ((OpenSpec.ofChange Rows.connectorSessionsSpec).preRow enc Tryd.prog Tryd.f6 Rows.connectorSessionsRow.domain false Rows.connectorSessionsRow.laid) (((OpenSpec.ofChange Rows.connectorSessionsSpec).at F).post enc Tryd.prog Tryd.f6 false true false false) := by
  obtain ⟨places, hx⟩ := reads os enc
  refine returnsInHanded_of_row (C := Tryd.checked) (s := OpenSpec.ofChange Rows.connectorSessionsSpec) own started (by kernel_rfl) Tryd.func6
    (witness_row_at (enc := enc) (C := Tryd.checked) false (laidWorld os) #[.bool false, .int .u8 0, .int .i64 0] rfl (by kernel_rfl) (by kernel_rfl) (by kernel_rfl)
      (OpenSpec.preRow_of_cond 8 hx (by kernel_rfl) (fun k hk => by cases hk) (by kernel_rfl) (laid_met os))) ?_
  intro W base args ds gs before hval hW _ _ _ hL _ _
  exact contract H enc W base args ds gs before hval hW hL
theorem connectorSessions_said : Rows.ConnectorSessionsSaid :=
  OpenClaim.holds_of_cond 6 Tryd.f6 rfl rfl rfl rfl rfl rfl rfl ⟨rfl, rfl, rfl, rfl, rfl⟩ rfl rfl rfl rfl rfl (by kernel_rfl) Tryd.func6 (by kernel_rfl)
    (of_decide_eq_true (by kernel_rfl)) (by unfold Func.isWrapper; first | (rw [if_pos (by decide +kernel)]; kernel_rfl) | (rw [if_neg (by decide +kernel)]; exact ⟨rfl, rfl⟩))
    (fun os started H enc _ F => by rw [OpenClaim.pre_eq_preRow]; exact connectorSessions_lifted os started H enc F)
theorem plain (f : FuncId) (fn : Func) (hf : Tryd.pinned.checked.prog.funcNamed Rows.connectorSessionsRow.func = some f) (hfn : Tryd.pinned.checked.prog.funcs[f]? = some fn) :
    false = Tryd.pinned.checked.prog.looks [] ∧ ∀ (j : Nat) t, fn.params[j]? = some t → Tryd.pinned.checked.prog.wantsStandIn t = false := by
  obtain rfl : f = 6 := Option.some.inj ((show Tryd.prog.funcNamed Rows.connectorSessionsRow.func = some 6 by kernel_rfl).symm.trans hf) |>.symm
  obtain rfl : fn = Tryd.f6 := (Option.some.inj (Tryd.func6.symm.trans hfn)).symm
  refine ⟨by kernel_rfl, fun j t ht => ?_⟩
  have h : (Tryd.f6.params.toList.all fun t => !(Tryd.prog.wantsStandIn t)) = true := by kernel_rfl
  have := List.all_eq_true.1 h t (by have := Array.mem_of_getElem? ht; simpa using this)
  have h2 : Tryd.prog.wantsStandIn t = false := by simpa using this
  exact h2
theorem connectorSessions_card : Rows.ConnectorSessionsCardSaid :=
  Claim7.holds_tied_plain_at .later [] _ _ _ _ connectorSessions_said (fun _ h => by cases h) (by kernel_rfl) (fun _ h => by cases h) connectorSessions_row_tie rfl ⟨rfl, rfl⟩ (by kernel_rfl) rfl plain (by kernel_rfl)
#print axioms connectorSessions_card
end Go.Proofs.YtajphmclobadfaaDoor
