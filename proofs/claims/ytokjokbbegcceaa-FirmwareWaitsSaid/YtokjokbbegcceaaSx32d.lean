/-
  FirmwareWaits: its walk and its row.
-/
import Derived.Test.YtokjokbbegcceaaSx32b
import Derived.Test.YtokjokbbegcceaaSxO2
set_option maxRecDepth 100000
set_option linter.unusedSimpArgs false
set_option linter.unusedVariables false
namespace Go.Proofs.Ytokjokbbegcceaa
open Go.Proofs.Ytokjokbbegcceaa.Sx Go.RowKit Go.WideShapes Go.ChangeShapes Go.ChangeAt
theorem typ_fw {d : D} (h : TypT tF d) : ∃ f : Fw, d = fwD f := by
  obtain ⟨ds, rfl, h⟩ := h
  simp only [Typs, Typ] at h
  obtain ⟨_, _, rfl, ⟨s, rfl, _⟩, _, _, rfl, ⟨v, rfl, _⟩, _, _, rfl, ⟨t, rfl, _⟩, _, _, rfl, ⟨dd, rfl, _⟩, _, _, rfl, ⟨tr, rfl, _⟩, rfl⟩ := h
  exact ⟨⟨s, v, t, dd, tr⟩, rfl⟩
abbrev tIs : TS := .c (.lst [.int .i64])
abbrev tBs : TS := .c (.lst [.bool])
theorem typ_ints {d : D} (h : TypT tIs d) : ∃ L : List Int, d = .lst (L.map I64d) := by
  have h' : Typ (.lst [.int .i64]) d := h
  unfold Typ at h'
  obtain ⟨l, rfl, hl, hx⟩ := h'
  clear h hl
  induction l with
  | nil => exact ⟨[], rfl⟩
  | cons x l ih =>
    obtain ⟨L, hL⟩ := ih fun y hy => hx y (by simp [hy])
    cases hL
    have h1 : Typs [.int .i64] [x] := hx x (by simp)
    simp only [Typs, Typ] at h1
    obtain ⟨_, _, he, ⟨n, rfl, _⟩, rfl⟩ := h1
    cases he
    exact ⟨n :: L, rfl⟩
theorem typ_bools {d : D} (h : TypT tBs d) : ∃ L : List Bool, d = .lst (L.map D.bool) := by
  have h' : Typ (.lst [.bool]) d := h
  unfold Typ at h'
  obtain ⟨l, rfl, hl, hx⟩ := h'
  clear h hl
  induction l with
  | nil => exact ⟨[], rfl⟩
  | cons x l ih =>
    obtain ⟨L, hL⟩ := ih fun y hy => hx y (by simp [hy])
    cases hL
    have h1 : Typs [.bool] [x] := hx x (by simp)
    simp only [Typs, Typ] at h1
    obtain ⟨_, _, he, ⟨n, rfl⟩, rfl⟩ := h1
    cases he
    exact ⟨n :: L, rfl⟩
theorem get_map {α : Type} {F : α → D} {L : List α} {i : Int} (h0 : 0 ≤ i) (h1 : i < L.length) : ∃ x, ((L.map F).getD i.toNat default) = F x := by
  refine ⟨L[i.toNat]'(by omega), ?_⟩
  rw [List.getD_eq_getElem?_getD, List.getElem?_map, List.getElem?_eq_getElem (by omega)]
  rfl
theorem wrap_id64 {n : Int} (h1 : 0 ≤ n) (h2 : n ≤ 4294967296) : IntKind.wrap .i64 n = n := by
  simp [IntKind.wrap, IntKind.bits, IntKind.signed, Int.bmod]
  omega
theorem wrap_id64' {n : Int} (h1 : -1 ≤ n) (h2 : n ≤ 4294967296) : IntKind.wrap .i64 n = n := by
  simp [IntKind.wrap, IntKind.bits, IntKind.signed, Int.bmod]
  omega
def vcWaits : VC := (.ev [(.call 8 [(.g [(.int .i64), (.int .i64), (.int .i64), (.int .i64), (.int .i64)])] [(.rc (.cons (.v 0) (.cons (.v 1) (.cons (.v 2) (.cons (.v 3) (.cons (.v 4) .nil))))))] [(.c (.int .i64))] 7)]
 (.ite (.cmp .neq (.v 7) (.ki .i64 0))
  (.ev [(.call 10 [] [] [(.c .bool)] 8)]
   (.ret [(.v 8)]))
  (.ite (.cmp .gtr (.len (.v 5)) (.ki .i64 200))
   (.ev [(.call 10 [] [] [(.c .bool)] 8)]
    (.ret [(.v 8)]))
   (.ite (.cmp .gtr (.len (.v 6)) (.ki .i64 200))
    (.ev [(.call 10 [] [] [(.c .bool)] 8)]
     (.ret [(.v 8)]))
    (.loop [(.int .i64), (.int .i64), (.int .i64), (.int .i64), (.int .i64), .bool, (.int .i64)] [(.v 0), (.v 1), (.v 2), (.v 3), (.v 4), (.kb false), (.ki .i64 0)]
     (.ite (.cmp .lss (.v 14) (.len (.v 5)))
      (.ite (.cmp .lss (.v 14) (.len (.v 6)))
       (.ev [(.ob (.cmp .geq (.v 14) (.ki .i64 0))), (.ob (.cmp .lss (.v 14) (.len (.v 6))))]
        (.ev [(.ob (.cmp .geq (.v 14) (.ki .i64 0))), (.ob (.cmp .lss (.v 14) (.len (.v 5)))), (.call 14 [(.g [(.int .i64), (.int .i64), (.int .i64), (.int .i64), (.int .i64)]), (.c (.int .i64)), (.c .bool), (.c .bool)] [(.rc (.cons (.v 0) (.cons (.v 1) (.cons (.v 2) (.cons (.v 3) (.cons (.v 4) .nil)))))), (.mn .i64 (.get (.v 5) (.v 14)) (.ar .sub .i64 (.v 3) (.ki .i64 1))), (.kb true), (.get (.v 6) (.v 14))] [(.g [(.int .i64), (.int .i64), (.int .i64), (.int .i64), (.int .i64)]), (.c .bool)] 15)]
         (.ite (.cmp .eql (.v 0) (.ki .i64 1))
          (.ite (.and (.cmp .eql (.v 15) (.v 0)) (.and (.cmp .eql (.v 16) (.v 1)) (.and (.cmp .eql (.v 17) (.v 2)) (.and (.cmp .eql (.v 18) (.v 3)) (.and (.cmp .eql (.v 19) (.v 4)) (.kb true))))))
           (.ite (.v 20)
            (.ret [(.kb false)])
            (.ev [(.ob (.cmp .geq (.v 14) (.ki .i64 0))), (.ob (.cmp .lss (.v 14) (.len (.v 5)))), (.call 14 [(.g [(.int .i64), (.int .i64), (.int .i64), (.int .i64), (.int .i64)]), (.c (.int .i64)), (.c .bool), (.c .bool)] [(.rc (.cons (.v 8) (.cons (.v 9) (.cons (.v 10) (.cons (.v 11) (.cons (.v 12) .nil)))))), (.get (.v 5) (.v 14)), (.kb false), (.get (.v 6) (.v 14))] [(.g [(.int .i64), (.int .i64), (.int .i64), (.int .i64), (.int .i64)]), (.c .bool)] 21)]
             (.ite (.cmp .neq (.v 8) (.ki .i64 4))
              (.ite (.cmp .eql (.v 21) (.ki .i64 4))
               (.ret [(.kb false)])
               (.back 0 [(.v 21), (.v 22), (.v 23), (.v 24), (.v 25), (.v 13), (.ar .add .i64 (.v 14) (.ki .i64 1))]))
              (.back 0 [(.v 21), (.v 22), (.v 23), (.v 24), (.v 25), (.v 13), (.ar .add .i64 (.v 14) (.ki .i64 1))]))))
           (.ret [(.kb false)]))
          (.ev [(.ob (.cmp .geq (.v 14) (.ki .i64 0))), (.ob (.cmp .lss (.v 14) (.len (.v 5)))), (.call 14 [(.g [(.int .i64), (.int .i64), (.int .i64), (.int .i64), (.int .i64)]), (.c (.int .i64)), (.c .bool), (.c .bool)] [(.rc (.cons (.v 8) (.cons (.v 9) (.cons (.v 10) (.cons (.v 11) (.cons (.v 12) .nil)))))), (.get (.v 5) (.v 14)), (.kb false), (.get (.v 6) (.v 14))] [(.g [(.int .i64), (.int .i64), (.int .i64), (.int .i64), (.int .i64)]), (.c .bool)] 21)]
           (.ite (.cmp .neq (.v 8) (.ki .i64 4))
            (.ite (.cmp .eql (.v 21) (.ki .i64 4))
             (.ret [(.kb false)])
             (.back 0 [(.v 21), (.v 22), (.v 23), (.v 24), (.v 25), (.v 13), (.ar .add .i64 (.v 14) (.ki .i64 1))]))
            (.back 0 [(.v 21), (.v 22), (.v 23), (.v 24), (.v 25), (.v 13), (.ar .add .i64 (.v 14) (.ki .i64 1))]))))))
       (.ev [(.ob (.cmp .geq (.v 14) (.ki .i64 0))), (.ob (.cmp .lss (.v 14) (.len (.v 5)))), (.call 14 [(.g [(.int .i64), (.int .i64), (.int .i64), (.int .i64), (.int .i64)]), (.c (.int .i64)), (.c .bool), (.c .bool)] [(.rc (.cons (.v 0) (.cons (.v 1) (.cons (.v 2) (.cons (.v 3) (.cons (.v 4) .nil)))))), (.mn .i64 (.get (.v 5) (.v 14)) (.ar .sub .i64 (.v 3) (.ki .i64 1))), (.kb true), (.kb false)] [(.g [(.int .i64), (.int .i64), (.int .i64), (.int .i64), (.int .i64)]), (.c .bool)] 15)]
        (.ite (.cmp .eql (.v 0) (.ki .i64 1))
         (.ite (.and (.cmp .eql (.v 15) (.v 0)) (.and (.cmp .eql (.v 16) (.v 1)) (.and (.cmp .eql (.v 17) (.v 2)) (.and (.cmp .eql (.v 18) (.v 3)) (.and (.cmp .eql (.v 19) (.v 4)) (.kb true))))))
          (.ite (.v 20)
           (.ret [(.kb false)])
           (.ev [(.ob (.cmp .geq (.v 14) (.ki .i64 0))), (.ob (.cmp .lss (.v 14) (.len (.v 5)))), (.call 14 [(.g [(.int .i64), (.int .i64), (.int .i64), (.int .i64), (.int .i64)]), (.c (.int .i64)), (.c .bool), (.c .bool)] [(.rc (.cons (.v 8) (.cons (.v 9) (.cons (.v 10) (.cons (.v 11) (.cons (.v 12) .nil)))))), (.get (.v 5) (.v 14)), (.kb false), (.kb false)] [(.g [(.int .i64), (.int .i64), (.int .i64), (.int .i64), (.int .i64)]), (.c .bool)] 21)]
            (.ite (.cmp .neq (.v 8) (.ki .i64 4))
             (.ite (.cmp .eql (.v 21) (.ki .i64 4))
              (.ret [(.kb false)])
              (.back 0 [(.v 21), (.v 22), (.v 23), (.v 24), (.v 25), (.v 13), (.ar .add .i64 (.v 14) (.ki .i64 1))]))
             (.back 0 [(.v 21), (.v 22), (.v 23), (.v 24), (.v 25), (.v 13), (.ar .add .i64 (.v 14) (.ki .i64 1))]))))
          (.ret [(.kb false)]))
         (.ev [(.ob (.cmp .geq (.v 14) (.ki .i64 0))), (.ob (.cmp .lss (.v 14) (.len (.v 5)))), (.call 14 [(.g [(.int .i64), (.int .i64), (.int .i64), (.int .i64), (.int .i64)]), (.c (.int .i64)), (.c .bool), (.c .bool)] [(.rc (.cons (.v 8) (.cons (.v 9) (.cons (.v 10) (.cons (.v 11) (.cons (.v 12) .nil)))))), (.get (.v 5) (.v 14)), (.kb false), (.kb false)] [(.g [(.int .i64), (.int .i64), (.int .i64), (.int .i64), (.int .i64)]), (.c .bool)] 21)]
          (.ite (.cmp .neq (.v 8) (.ki .i64 4))
           (.ite (.cmp .eql (.v 21) (.ki .i64 4))
            (.ret [(.kb false)])
            (.back 0 [(.v 21), (.v 22), (.v 23), (.v 24), (.v 25), (.v 13), (.ar .add .i64 (.v 14) (.ki .i64 1))]))
           (.back 0 [(.v 21), (.v 22), (.v 23), (.v 24), (.v 25), (.v 13), (.ar .add .i64 (.v 14) (.ki .i64 1))]))))))
      (.ev [(.call 10 [] [] [(.c .bool)] 15)]
       (.ret [(.v 15)]))))))))

theorem early {s v t d tr x : Int} {gx : Bool} (hd : 0 ≤ d ∧ d ≤ 268435456) (h : s = 1) : stepX ⟨s, v, t, d, tr⟩ (if IntKind.wrap .i64 (d - 1) < x then IntKind.wrap .i64 (d - 1) else x) true gx = ⟨s, v, t, d, tr⟩ := by
  have hw := wrap_id64' (n := d - 1) (by omega) (by omega)
  rw [hw]
  unfold stepX
  subst h
  simp
  split <;> omega
theorem quiet {s v t d tr x : Int} {gx : Bool} (h : ¬ s = 4) : ¬ (stepX ⟨s, v, t, d, tr⟩ x false gx).s = 4 := by
  unfold stepX
  simp only [beq_iff_eq]
  (repeat' split) <;> simp_all
def wtI (n : Nat) (xs : List D) : Prop := ∃ (f : Fw) (b : Bool) (i : Int), xs = [I64d f.s, I64d f.v, I64d f.t, I64d f.d, I64d f.tr, .bool b, I64d i] ∧ 0 ≤ i ∧ i ≤ n
def wtM (n : Nat) (xs : List D) : Nat := n - (xs.getD 6 default).toI.toNat
set_option maxHeartbeats 1000000 in
theorem waits_ok (f : Fw) (T : List Int) (G : List Bool) : Fun Try.prog 7 [tF, tIs, tBs] [fwD f, .lst (T.map I64d), .lst (G.map D.bool)] [tB] [.bool true] := by
  obtain ⟨s, v, t, d, tr⟩ := f
  refine fun_of_gen hP Try.func7 rfl (by decide) (v := vcWaits) (by kernel_rfl) ?_
  unfold vcWaits
  refine den_ev (fval_call s v t d tr rfl (evs_nil ?_))
  refine den_ite (fun h => den_ev (ex_call rfl (evs_nil (den_ret rfl)))) (fun h => ?_)
  have hv : fvalI ⟨s, v, t, d, tr⟩ = 0 := by simp [VC.den, E.den, cmpB, arI, D.toI, D.toB, D.toL, D.len, List.map_cons, List.map_nil, List.getD_cons_zero, List.getD_cons_succ, List.cons_append, List.nil_append, flatD, I64d, fwD, opD] at h; exact h
  clear h
  refine den_ite (fun h => den_ev (ex_call rfl (evs_nil (den_ret rfl)))) (fun h => ?_)
  have hlen : T.length ≤ 200 := by simp [VC.den, E.den, cmpB, arI, D.toI, D.toB, D.toL, D.len, List.map_cons, List.map_nil, List.getD_cons_zero, List.getD_cons_succ, List.cons_append, List.nil_append, flatD, I64d, fwD, opD] at h; omega
  clear h
  refine den_ite (fun h => den_ev (ex_call rfl (evs_nil (den_ret rfl)))) (fun h => ?_)
  clear h
  have hd : 0 ≤ d ∧ d ≤ 268435456 := by rw [fval0] at hv; simp only at hv; omega
  generalize fvalI ⟨s, v, t, d, tr⟩ = vv
  clear hv
  refine den_loop (wtI T.length) (wtM T.length) ⟨⟨s, v, t, d, tr⟩, false, 0, rfl, by omega, by omega⟩ ?_
  simp only [AllSh]
  intro a0 _ _ a1 _ _ a2 _ _ a3 _ _ a4 _ _ a5 a6 _ _ ⟨f, b, i, he, hi0, hi1⟩
  simp only [List.cons.injEq, D.int.injEq, D.bool.injEq, true_and, and_true] at he
  obtain ⟨rfl, rfl, rfl, rfl, rfl, rfl, rfl⟩ := he
  refine den_ite (fun h => ?_) (fun h => den_ev (ex_call rfl (evs_nil (den_ret rfl))))
  have hil : a6 < T.length := by simp [VC.den, E.den, cmpB, arI, D.toI, D.toB, D.toL, D.len, List.map_cons, List.map_nil, List.getD_cons_zero, List.getD_cons_succ, List.cons_append, List.nil_append, flatD, I64d, fwD, opD] at h; omega
  clear h
  obtain ⟨tx, hx⟩ := get_map (F := I64d) hi0 hil
  have hw := wrap_id64 (n := a6 + 1) (by omega) (by omega)
  obtain ⟨fs, fv, ft, fd, ftr⟩ := f
  have e1 : ∀ gx, s = 1 → stepX ⟨s, v, t, d, tr⟩ (if IntKind.wrap .i64 (d - 1) < tx then IntKind.wrap .i64 (d - 1) else tx) true gx = ⟨s, v, t, d, tr⟩ := fun gx h => early hd h
  have e2 : ∀ gx, ¬ fs = 4 → ¬ (stepX ⟨fs, fv, ft, fd, ftr⟩ tx false gx).s = 4 := fun gx h => quiet h
  simp only [List.cons_append, List.nil_append, flatD, fwD] at *
  have hb : ∀ (d1 d2 d3 d4 d5 d6 : D) (gs gv gt gd gtr : Int) (c : List D), VC.den Try.prog (fun r => r = [.bool true]) (.back 0 [(.v 21), (.v 22), (.v 23), (.v 24), (.v 25), (.v 13), (.ar .add .i64 (.v 14) (.ki .i64 1))]) [⟨wtI T.length, wtM T.length, wtM T.length [I64d fs, I64d fv, I64d ft, I64d fd, I64d ftr, .bool a5, I64d a6]⟩] (I64d s :: I64d v :: I64d t :: I64d d :: I64d tr :: .lst (T.map I64d) :: .lst (G.map D.bool) :: I64d vv :: I64d fs :: I64d fv :: I64d ft :: I64d fd :: I64d ftr :: .bool a5 :: I64d a6 :: d1 :: d2 :: d3 :: d4 :: d5 :: d6 :: I64d gs :: I64d gv :: I64d gt :: I64d gd :: I64d gtr :: c) := by
    intro d1 d2 d3 d4 d5 d6 gs gv gt gd gtr c
    refine den_back rfl ⟨⟨gs, gv, gt, gd, gtr⟩, a5, a6 + 1, ?_, by omega, by omega⟩ ?_
    · simp [VC.den, E.den, cmpB, arI, D.toI, D.toB, D.toL, D.len, List.map_cons, List.map_nil, List.getD_cons_zero, List.getD_cons_succ, List.cons_append, List.nil_append, flatD, I64d, fwD, opD, hw]
    · simp [wtM, VC.den, E.den, cmpB, arI, D.toI, D.toB, D.toL, D.len, List.map_cons, List.map_nil, List.getD_cons_zero, List.getD_cons_succ, List.cons_append, List.nil_append, flatD, I64d, fwD, opD, hw]; omega
  refine den_ite (fun h => ?_) (fun h => ?_)
  · have hig : a6 < G.length := by simp [VC.den, E.den, cmpB, arI, D.toI, D.toB, D.toL, D.len, List.map_cons, List.map_nil, List.getD_cons_zero, List.getD_cons_succ, List.cons_append, List.nil_append, flatD, I64d, fwD, opD] at h; omega
    clear h
    obtain ⟨gx, hg⟩ := get_map (F := D.bool) hi0 hig
    repeat' (first | exact hb _ _ _ _ _ _ _ _ _ _ _ _ | ((with_reducible refine den_ite (fun h => ?_) (fun h => ?_)) <;> ((try simp only [VC.den, E.den, cmpB, arI, D.toI, D.toB, D.toL, D.len, List.map_cons, List.map_nil, List.getD_cons_zero, List.getD_cons_succ, List.cons_append, List.nil_append, flatD, I64d, fwD, opD, hx, hg] at h); (try simp at h))) | with_reducible refine den_ev ?_ | with_reducible refine evs_nil ?_ | (refine step_call s v t d tr (if IntKind.wrap .i64 (d - 1) < tx then IntKind.wrap .i64 (d - 1) else tx) true gx ?_ ?_; focus (simp only [VC.den, E.den, cmpB, arI, D.toI, D.toB, D.toL, D.len, List.map_cons, List.map_nil, List.getD_cons_zero, List.getD_cons_succ, List.cons_append, List.nil_append, flatD, I64d, fwD, opD, hx, hg]; done)) | (refine step_call fs fv ft fd ftr tx false gx ?_ ?_; focus (simp only [VC.den, E.den, cmpB, arI, D.toI, D.toB, D.toL, D.len, List.map_cons, List.map_nil, List.getD_cons_zero, List.getD_cons_succ, List.cons_append, List.nil_append, flatD, I64d, fwD, opD, hx, hg]; done)) | (with_reducible refine evs_ob ?_ ?_))
    all_goals first
      | (simp only [VC.den, E.den, cmpB, arI, D.toI, D.toB, D.toL, D.len, List.map_cons, List.map_nil, List.getD_cons_zero, List.getD_cons_succ, List.cons_append, List.nil_append, flatD, I64d, fwD, opD, hx, hg]; simp; omega)
      | exact (e2 _ (by assumption) (by assumption)).elim
      | (exfalso; clear hb e2; have q := e1 gx (by assumption); rw [q] at h; clear e1 q; simp_all; done)
      | (exfalso; clear hb e2; have q := e1 gx (by assumption); rw [q] at h; simp at h; done)
      | (exfalso; clear hb; simp_all; done)
      | (exfalso; clear hb; simp_all; omega)
      | (clear hb; trace_state)
  · clear h
    repeat' (first | exact hb _ _ _ _ _ _ _ _ _ _ _ _ | ((with_reducible refine den_ite (fun h => ?_) (fun h => ?_)) <;> ((try simp only [VC.den, E.den, cmpB, arI, D.toI, D.toB, D.toL, D.len, List.map_cons, List.map_nil, List.getD_cons_zero, List.getD_cons_succ, List.cons_append, List.nil_append, flatD, I64d, fwD, opD, hx] at h); (try simp at h))) | with_reducible refine den_ev ?_ | with_reducible refine evs_nil ?_ | (refine step_call s v t d tr (if IntKind.wrap .i64 (d - 1) < tx then IntKind.wrap .i64 (d - 1) else tx) true false ?_ ?_; focus (simp only [VC.den, E.den, cmpB, arI, D.toI, D.toB, D.toL, D.len, List.map_cons, List.map_nil, List.getD_cons_zero, List.getD_cons_succ, List.cons_append, List.nil_append, flatD, I64d, fwD, opD, hx]; done)) | (refine step_call fs fv ft fd ftr tx false false ?_ ?_; focus (simp only [VC.den, E.den, cmpB, arI, D.toI, D.toB, D.toL, D.len, List.map_cons, List.map_nil, List.getD_cons_zero, List.getD_cons_succ, List.cons_append, List.nil_append, flatD, I64d, fwD, opD, hx]; done)) | (with_reducible refine evs_ob ?_ ?_))
    all_goals first
      | (simp only [VC.den, E.den, cmpB, arI, D.toI, D.toB, D.toL, D.len, List.map_cons, List.map_nil, List.getD_cons_zero, List.getD_cons_succ, List.cons_append, List.nil_append, flatD, I64d, fwD, opD, hx]; simp; omega)
      | exact (e2 _ (by assumption) (by assumption)).elim
      | (exfalso; clear hb e2; have q := e1 false (by assumption); rw [q] at h; clear e1 q; simp_all; done)
      | (exfalso; clear hb e2; have q := e1 false (by assumption); rw [q] at h; simp at h; done)
      | (exfalso; clear hb; simp_all; done)
      | (exfalso; clear hb; simp_all; omega)
      | (clear hb; trace_state)
theorem waits_all (xs : List D) (h : TypTs [tF, tIs, tBs] xs) : Fun Try.prog 7 [tF, tIs, tBs] xs [.c .bool] [.bool true] := by
  obtain ⟨_, _, rfl, h1, _, _, rfl, h2, _, _, rfl, h3, rfl⟩ := h
  obtain ⟨f, rfl⟩ := typ_fw h1
  obtain ⟨T, rfl⟩ := typ_ints h2
  obtain ⟨G, rfl⟩ := typ_bools h3
  exact waits_ok f T G

set_option maxRecDepth 100000 in
theorem firmwareWaits_lifted (os : Os) (started : os.Started) (H : Type) (enc : TypeId × Value → H) :
    ReturnsInHanded {} Try.checked os 7 .any (Rows.firmwareWaitsSpec.pre6 enc Try.prog Try.f7 Rows.firmwareWaitsRow.domain false) (Rows.firmwareWaitsSpec.post enc Try.prog Try.f7 false true false false) := by
  refine returnsInHanded_of_change (C := Try.checked) own started (by kernel_rfl) Try.func7
    (ChangeSpec.witness6 (enc := enc) (C := Try.checked) false ⟨#[], #[.agg #[.int .i64 0, .int .i64 0, .int .i64 0, .int .i64 0, .int .i64 0], .slice none 0 0, .slice none 0 0], []⟩ 8 (by kernel_rfl) (by kernel_rfl) (by kernel_rfl) (by kernel_rfl)) ?_
  intro W base args ds gs before hval0 hW hcnd _
  have hval : ∀ (j : Nat) t v, Try.f7.params[j]? = some t → args[j]? = some v → Value.okWide Try.prog W .any base t v := hval0
  obtain ⟨q, q', hA0, _, _, _, _⟩ := id hW
  have hA : DataW.TrodAll enc Try.prog W 0 (fun _ => true) true Try.f7.params.toList args.toList ds q := hA0
  have walk := law_walk (P := Try.prog) (f := 7) (fn := Try.f7) (Ts := [tF, tIs, tBs]) (by kernel_rfl) waits_all hval hA
  rw [Try.params7] at hA
  obtain ⟨v0, vs0, d0, ds0, p0, q0, hargs0, rfl, rfl, h0, r0⟩ := trodAll_cons hA
  obtain ⟨v1, vs1, d1, ds1, p1, q1, hargs1, rfl, rfl, h1, r1⟩ := trodAll_cons r0
  subst hargs1
  obtain ⟨v2, vs2, d2, ds2, p2, q2, hargs2, rfl, rfl, h2, r2⟩ := trodAll_cons r1
  subst hargs2
  obtain ⟨rfl, rfl, rfl⟩ := trodAll_nil r2
  refine walk.mono fun e W' ⟨he, hb⟩ => ?_
  subst he
  exact ⟨_, rfl, law_post (tb := 4) laidOut rfl (by kernel_rfl) rfl Try.underlying4 hW rfl hb⟩

theorem firmwareWaits_holds : Rows.FirmwareWaitsSaid :=
  OpenClaim.holds_of_wide 7 Try.f7 rfl rfl rfl rfl rfl rfl rfl ⟨rfl, rfl, rfl, rfl, rfl⟩ rfl rfl rfl rfl rfl (by kernel_rfl) Try.func7 (by kernel_rfl)
    (of_decide_eq_true (by kernel_rfl)) (by unfold Func.isWrapper; first | (rw [if_pos (by decide +kernel)]; kernel_rfl) | (rw [if_neg (by decide +kernel)]; exact ⟨rfl, rfl⟩))
    (fun os started H enc _ => firmwareWaits_lifted os started H enc)
#print axioms firmwareWaits_holds
end Go.Proofs.Ytokjokbbegcceaa
