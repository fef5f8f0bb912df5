/-
  FirmwareStays: its walk and its row.
-/
import Derived.Test.YtokjokbbegcceaaSx32b
import Derived.Test.YtokjokbbegcceaaSxO2
set_option maxRecDepth 100000
namespace Go.Proofs.Ytokjokbbegcceaa
open Go.Proofs.Ytokjokbbegcceaa.Sx Go.RowKit Go.WideShapes Go.ChangeShapes Go.ChangeAt
theorem typ_fw {d : D} (h : TypT tF d) : ∃ f : Fw, d = fwD f := by
  obtain ⟨ds, rfl, h⟩ := h
  simp only [Typs, Typ] at h
  obtain ⟨_, _, rfl, ⟨s, rfl, _⟩, _, _, rfl, ⟨v, rfl, _⟩, _, _, rfl, ⟨t, rfl, _⟩, _, _, rfl, ⟨dd, rfl, _⟩, _, _, rfl, ⟨tr, rfl, _⟩, rfl⟩ := h
  exact ⟨⟨s, v, t, dd, tr⟩, rfl⟩
def vcStays : VC := (.ite (.cmp .gtr (.len (.v 5)) (.ki .i64 200))
 (.ev [(.call 10 [] [] [(.c .bool)] 6)]
  (.ret [(.v 6)]))
 (.ev [(.call 8 [(.g [(.int .i64), (.int .i64), (.int .i64), (.int .i64), (.int .i64)])] [(.rc (.cons (.v 0) (.cons (.v 1) (.cons (.v 2) (.cons (.v 3) (.cons (.v 4) .nil))))))] [(.c (.int .i64))] 6)]
  (.ite (.cmp .neq (.v 6) (.ki .i64 0))
   (.ev [(.call 10 [] [] [(.c .bool)] 7)]
    (.ret [(.v 7)]))
   (.loop [(.int .i64), (.int .i64), (.int .i64), (.int .i64), (.int .i64), .bool, (.int .i64)] [(.v 0), (.v 1), (.v 2), (.v 3), (.v 4), (.kb false), (.ki .i64 0)]
    (.ite (.cmp .lss (.v 13) (.len (.v 5)))
     (.ev [(.ob (.cmp .geq (.v 13) (.ki .i64 0))), (.ob (.cmp .lss (.v 13) (.len (.v 5)))), (.call 11 [(.g [(.int .i64), (.int .i64), (.int .i64), (.int .i64), (.int .i64)]), (.g [(.int .i64), (.int .i64), (.int .i64), (.int .i64), (.int .i64), .bool, .bool])] [(.rc (.cons (.v 7) (.cons (.v 8) (.cons (.v 9) (.cons (.v 10) (.cons (.v 11) .nil)))))), (.rc (.cons (.cell (.get (.v 5) (.v 13)) 0) (.cons (.cell (.get (.v 5) (.v 13)) 1) (.cons (.cell (.get (.v 5) (.v 13)) 2) (.cons (.cell (.get (.v 5) (.v 13)) 3) (.cons (.cell (.get (.v 5) (.v 13)) 4) (.cons (.cell (.get (.v 5) (.v 13)) 5) (.cons (.cell (.get (.v 5) (.v 13)) 6) .nil))))))))] [(.g [(.int .i64), (.int .i64), (.int .i64), (.int .i64), (.int .i64)]), (.c .bool), (.c (.int .i64))] 14)]
      (.ev [(.call 8 [(.g [(.int .i64), (.int .i64), (.int .i64), (.int .i64), (.int .i64)])] [(.rc (.cons (.v 14) (.cons (.v 15) (.cons (.v 16) (.cons (.v 17) (.cons (.v 18) .nil))))))] [(.c (.int .i64))] 21)]
       (.ite (.cmp .neq (.v 21) (.ki .i64 0))
        (.ret [(.kb false)])
        (.ite (.cmp .neq (.v 20) (.ki .i64 0))
         (.ite (.and (.cmp .eql (.v 14) (.v 7)) (.and (.cmp .eql (.v 15) (.v 8)) (.and (.cmp .eql (.v 16) (.v 9)) (.and (.cmp .eql (.v 17) (.v 10)) (.and (.cmp .eql (.v 18) (.v 11)) (.kb true))))))
          (.ev [(.ob (.cmp .geq (.v 13) (.ki .i64 0))), (.ob (.cmp .lss (.v 13) (.len (.v 5))))]
           (.ite (.cmp .eql (.cell (.get (.v 5) (.v 13)) 0) (.ki .i64 2))
            (.ite (.beq (.v 19) (.cmp .neq (.v 7) (.v 14)))
             (.ev [(.ob (.cmp .geq (.v 13) (.ki .i64 0))), (.ob (.cmp .lss (.v 13) (.len (.v 5))))]
              (.ite (.cmp .eql (.v 7) (.ki .i64 4))
               (.ite (.cmp .neq (.v 14) (.ki .i64 5))
                (.ite (.cmp .neq (.v 15) (.v 8))
                 (.ret [(.kb false)])
                 (.back 0 [(.v 14), (.v 15), (.v 16), (.v 17), (.v 18), (.v 12), (.ar .add .i64 (.v 13) (.ki .i64 1))]))
                (.ite (.cmp .neq (.v 15) (.v 9))
                 (.ret [(.kb false)])
                 (.back 0 [(.v 14), (.v 15), (.v 16), (.v 17), (.v 18), (.v 12), (.ar .add .i64 (.v 13) (.ki .i64 1))])))
               (.ite (.cmp .neq (.v 15) (.v 8))
                (.ret [(.kb false)])
                (.back 0 [(.v 14), (.v 15), (.v 16), (.v 17), (.v 18), (.v 12), (.ar .add .i64 (.v 13) (.ki .i64 1))]))))
             (.ret [(.kb false)]))
            (.ev [(.ob (.cmp .geq (.v 13) (.ki .i64 0))), (.ob (.cmp .lss (.v 13) (.len (.v 5))))]
             (.ite (.cmp .neq (.v 15) (.v 8))
              (.ret [(.kb false)])
              (.back 0 [(.v 14), (.v 15), (.v 16), (.v 17), (.v 18), (.v 12), (.ar .add .i64 (.v 13) (.ki .i64 1))])))))
          (.ret [(.kb false)]))
         (.ev [(.ob (.cmp .geq (.v 13) (.ki .i64 0))), (.ob (.cmp .lss (.v 13) (.len (.v 5))))]
          (.ite (.cmp .eql (.cell (.get (.v 5) (.v 13)) 0) (.ki .i64 2))
           (.ite (.beq (.v 19) (.cmp .neq (.v 7) (.v 14)))
            (.ev [(.ob (.cmp .geq (.v 13) (.ki .i64 0))), (.ob (.cmp .lss (.v 13) (.len (.v 5))))]
             (.ite (.cmp .eql (.v 7) (.ki .i64 4))
              (.ite (.cmp .neq (.v 14) (.ki .i64 5))
               (.ite (.cmp .neq (.v 15) (.v 8))
                (.ret [(.kb false)])
                (.back 0 [(.v 14), (.v 15), (.v 16), (.v 17), (.v 18), (.v 12), (.ar .add .i64 (.v 13) (.ki .i64 1))]))
               (.ite (.cmp .neq (.v 15) (.v 9))
                (.ret [(.kb false)])
                (.back 0 [(.v 14), (.v 15), (.v 16), (.v 17), (.v 18), (.v 12), (.ar .add .i64 (.v 13) (.ki .i64 1))])))
              (.ite (.cmp .neq (.v 15) (.v 8))
               (.ret [(.kb false)])
               (.back 0 [(.v 14), (.v 15), (.v 16), (.v 17), (.v 18), (.v 12), (.ar .add .i64 (.v 13) (.ki .i64 1))]))))
            (.ret [(.kb false)]))
           (.ev [(.ob (.cmp .geq (.v 13) (.ki .i64 0))), (.ob (.cmp .lss (.v 13) (.len (.v 5))))]
            (.ite (.cmp .neq (.v 15) (.v 8))
             (.ret [(.kb false)])
             (.back 0 [(.v 14), (.v 15), (.v 16), (.v 17), (.v 18), (.v 12), (.ar .add .i64 (.v 13) (.ki .i64 1))])))))))))
     (.ev [(.call 10 [] [] [(.c .bool)] 14)]
      (.ret [(.v 14)])))))))

abbrev tOs : TS := .c (.lst [.int .i64, .int .i64, .int .i64, .int .i64, .int .i64, .bool, .bool])
theorem typ_ops {d : D} (h : TypT tOs d) : ∃ L : List FOp, d = .lst (L.map opD) ∧ L.length ≤ maxLen := by
  have h' : Typ (.lst [.int .i64, .int .i64, .int .i64, .int .i64, .int .i64, .bool, .bool]) d := h
  unfold Typ at h'
  obtain ⟨l, rfl, hl, hx⟩ := h'
  have key : ∀ l : List D, (∀ x ∈ l, Typs [.int .i64, .int .i64, .int .i64, .int .i64, .int .i64, .bool, .bool] (x.cells [.int .i64, .int .i64, .int .i64, .int .i64, .int .i64, .bool, .bool])) → ∃ L : List FOp, l = L.map opD := by
    intro l
    induction l with
    | nil => intro _; exact ⟨[], rfl⟩
    | cons x l ih =>
      intro h
      obtain ⟨L, rfl⟩ := ih fun y hy => h y (by simp [hy])
      have h1 := h x (by simp)
      cases x with
      | rc ds =>
        have h1 : Typs [.int .i64, .int .i64, .int .i64, .int .i64, .int .i64, .bool, .bool] ds := h1
        simp only [Typs, Typ] at h1
        obtain ⟨_, _, rfl, ⟨a, rfl, _⟩, _, _, rfl, ⟨b, rfl, _⟩, _, _, rfl, ⟨c, rfl, _⟩, _, _, rfl, ⟨dd, rfl, _⟩, _, _, rfl, ⟨e, rfl, _⟩, _, _, rfl, ⟨i, rfl⟩, _, _, rfl, ⟨j, rfl⟩, rfl⟩ := h1
        exact ⟨⟨a, b, c, dd, e, i, j⟩ :: L, rfl⟩
      | _ => exact absurd (show Typs [.int .i64, .int .i64, .int .i64, .int .i64, .int .i64, .bool, .bool] [] from h1) (by simp [Typs])
  obtain ⟨L, rfl⟩ := key l hx
  exact ⟨L, rfl, by simpa using hl⟩

theorem get_op {L : List FOp} {i : Int} (h0 : 0 ≤ i) (h1 : i < L.length) : ∃ x, ((L.map opD).getD i.toNat default) = opD x := by
  refine ⟨L[i.toNat]'(by omega), ?_⟩
  rw [List.getD_eq_getElem?_getD, List.getElem?_map, List.getElem?_eq_getElem (by omega)]
  rfl
theorem wrap_id64 {n : Int} (h1 : 0 ≤ n) (h2 : n ≤ 4294967296) : IntKind.wrap .i64 n = n := by
  simp [IntKind.wrap, IntKind.bits, IntKind.signed, Int.bmod]
  omega
def stI (n : Nat) (xs : List D) : Prop := ∃ (f : Fw) (b : Bool) (i : Int), xs = [I64d f.s, I64d f.v, I64d f.t, I64d f.d, I64d f.tr, .bool b, I64d i] ∧ 0 ≤ i ∧ i ≤ n ∧ fvalI f = 0
def stM (n : Nat) (xs : List D) : Nat := n - (xs.getD 6 default).toI.toNat
set_option maxHeartbeats 1000000 in
theorem stays_ok (f : Fw) (L : List FOp) : Fun Try.prog 5 [tF, tOs] [fwD f, .lst (L.map opD)] [tB] [.bool true] := by
  obtain ⟨s, v, t, d, tr⟩ := f
  refine fun_of_gen hP Try.func5 rfl (by decide) (v := vcStays) (by kernel_rfl) ?_
  unfold vcStays
  refine den_ite (fun h => den_ev (ex_call rfl (evs_nil (den_ret rfl)))) (fun h => ?_)
  have hlen : L.length ≤ 200 := by simp [VC.den, E.den, cmpB, arI, D.toI, D.toB, D.toL, D.len, List.map_cons, List.map_nil, List.getD_cons_zero, List.getD_cons_succ, List.cons_append, List.nil_append, flatD, I64d, fwD, opD] at h; omega
  refine den_ev (fval_call s v t d tr rfl (evs_nil ?_))
  refine den_ite (fun h => den_ev (ex_call rfl (evs_nil (den_ret rfl)))) (fun h => ?_)
  have hv : fvalI ⟨s, v, t, d, tr⟩ = 0 := by simp [VC.den, E.den, cmpB, arI, D.toI, D.toB, D.toL, D.len, List.map_cons, List.map_nil, List.getD_cons_zero, List.getD_cons_succ, List.cons_append, List.nil_append, flatD, I64d, fwD, opD] at h; exact h
  clear h
  refine den_loop (stI L.length) (stM L.length) ⟨⟨s, v, t, d, tr⟩, false, 0, rfl, by omega, by omega, hv⟩ ?_
  simp only [AllSh]
  intro a0 _ _ a1 _ _ a2 _ _ a3 _ _ a4 _ _ a5 a6 _ _ ⟨f, b, i, he, hi0, hi1, hf⟩
  simp only [List.cons.injEq, D.int.injEq, D.bool.injEq, true_and, and_true] at he
  obtain ⟨rfl, rfl, rfl, rfl, rfl, rfl, rfl⟩ := he
  refine den_ite (fun h => ?_) (fun h => den_ev (ex_call rfl (evs_nil (den_ret rfl))))
  have hil : a6 < L.length := by simp [VC.den, E.den, cmpB, arI, D.toI, D.toB, D.toL, D.len, List.map_cons, List.map_nil, List.getD_cons_zero, List.getD_cons_succ, List.cons_append, List.nil_append, flatD, I64d, fwD, opD] at h; omega
  clear h
  obtain ⟨x, hx⟩ := get_op hi0 hil
  obtain ⟨k1, k2, k3, k4, k5⟩ := call_facts f x hf
  have hw := wrap_id64 (n := a6 + 1) (by omega) (by omega)
  have o1 : ∀ {ρ : List D}, True := trivial
  obtain ⟨fs, fv, ft, fd, ftr⟩ := f
  obtain ⟨xk, xver, xdue, xtr, xnow, xidle, xgood⟩ := x
  refine den_ev (evs_ob (by simp [VC.den, E.den, cmpB, arI, D.toI, D.toB, D.toL, D.len, List.map_cons, List.map_nil, List.getD_cons_zero, List.getD_cons_succ, List.cons_append, List.nil_append, flatD, I64d, fwD, opD]; omega) (evs_ob (by simp [VC.den, E.den, cmpB, arI, D.toI, D.toB, D.toL, D.len, List.map_cons, List.map_nil, List.getD_cons_zero, List.getD_cons_succ, List.cons_append, List.nil_append, flatD, I64d, fwD, opD]; omega) ?_))
  refine call_call fs fv ft fd ftr xk xver xdue xtr xnow xidle xgood (by simp only [VC.den, E.den, cmpB, arI, D.toI, D.toB, D.toL, D.len, List.map_cons, List.map_nil, List.getD_cons_zero, List.getD_cons_succ, List.cons_append, List.nil_append, flatD, I64d, fwD, opD, hx]) (evs_nil ?_)
  generalize callX ⟨fs, fv, ft, fd, ftr⟩ ⟨xk, xver, xdue, xtr, xnow, xidle, xgood⟩ = g at *
  generalize callXB ⟨fs, fv, ft, fd, ftr⟩ ⟨xk, xver, xdue, xtr, xnow, xidle, xgood⟩ = ch at *
  generalize callXE ⟨fs, fv, ft, fd, ftr⟩ ⟨xk, xver, xdue, xtr, xnow, xidle, xgood⟩ = er at *
  obtain ⟨gs, gv, gt, gd, gtr⟩ := g
  have k3 : xk = 2 → ch = (fs != gs) := fun h => by rw [k3 h, Bool.eq_iff_iff]; simp; omega
  refine den_ev (fval_call gs gv gt gd gtr rfl (evs_nil ?_))
  rw [k1]
  simp only [List.cons_append, List.nil_append, flatD, fwD] at *
  have hb : ∀ c, VC.den Try.prog (fun r => r = [.bool true]) (.back 0 [(.v 14), (.v 15), (.v 16), (.v 17), (.v 18), (.v 12), (.ar .add .i64 (.v 13) (.ki .i64 1))]) [⟨stI L.length, stM L.length, stM L.length [I64d fs, I64d fv, I64d ft, I64d fd, I64d ftr, .bool a5, I64d a6]⟩] (I64d s :: I64d v :: I64d t :: I64d d :: I64d tr :: .lst (L.map opD) :: I64d (fvalI ⟨s, v, t, d, tr⟩) :: I64d fs :: I64d fv :: I64d ft :: I64d fd :: I64d ftr :: .bool a5 :: I64d a6 :: I64d gs :: I64d gv :: I64d gt :: I64d gd :: I64d gtr :: .bool ch :: I64d er :: c) := by
    intro c
    refine den_back rfl ⟨⟨gs, gv, gt, gd, gtr⟩, a5, a6 + 1, ?_, by omega, by omega, k1⟩ ?_
    · simp [VC.den, E.den, cmpB, arI, D.toI, D.toB, D.toL, D.len, List.map_cons, List.map_nil, List.getD_cons_zero, List.getD_cons_succ, List.cons_append, List.nil_append, flatD, I64d, fwD, opD, hw]
    · simp [stM, VC.den, E.den, cmpB, arI, D.toI, D.toB, D.toL, D.len, List.map_cons, List.map_nil, List.getD_cons_zero, List.getD_cons_succ, List.cons_append, List.nil_append, flatD, I64d, fwD, opD, hw]; omega
  repeat' (first | exact hb _ | ((with_reducible refine den_ite (fun h => ?_) (fun h => ?_)) <;> ((try simp only [VC.den, E.den, cmpB, arI, D.toI, D.toB, D.toL, D.len, List.map_cons, List.map_nil, List.getD_cons_zero, List.getD_cons_succ, List.cons_append, List.nil_append, flatD, I64d, fwD, opD, hx] at h); (try simp at h))) | with_reducible refine den_ev ?_ | with_reducible refine evs_nil ?_ | (with_reducible refine evs_ob ?_ ?_))
  all_goals first
    | (simp only [VC.den, E.den, cmpB, arI, D.toI, D.toB, D.toL, D.len, List.map_cons, List.map_nil, List.getD_cons_zero, List.getD_cons_succ, List.cons_append, List.nil_append, flatD, I64d, fwD, opD, hx]; simp; omega)
    | (exfalso; clear hb hx; simp_all; done)
    | (exfalso; clear hb hx; simp_all; omega)
    | (clear hb hx; trace_state)
theorem stays_all (xs : List D) (h : TypTs [tF, tOs] xs) : Fun Try.prog 5 [tF, tOs] xs [.c .bool] [.bool true] := by
  obtain ⟨_, _, rfl, h1, _, _, rfl, h2, rfl⟩ := h
  obtain ⟨f, rfl⟩ := typ_fw h1
  obtain ⟨L, rfl, _⟩ := typ_ops h2
  exact stays_ok f L

set_option maxRecDepth 100000 in
theorem firmwareStays_lifted (os : Os) (started : os.Started) (H : Type) (enc : TypeId × Value → H) :
    ReturnsInHanded {} Try.checked os 5 .any (Rows.firmwareStaysSpec.pre6 enc Try.prog Try.f5 Rows.firmwareStaysRow.domain false) (Rows.firmwareStaysSpec.post enc Try.prog Try.f5 false true false false) := by
  refine returnsInHanded_of_change (C := Try.checked) own started (by kernel_rfl) Try.func5
    (ChangeSpec.witness6 (enc := enc) (C := Try.checked) false ⟨#[], #[.agg #[.int .i64 0, .int .i64 0, .int .i64 0, .int .i64 0, .int .i64 0], .slice none 0 0], []⟩ 8 (by kernel_rfl) (by kernel_rfl) (by kernel_rfl) (by kernel_rfl)) ?_
  intro W base args ds gs before hval0 hW hcnd _
  have hval : ∀ (j : Nat) t v, Try.f5.params[j]? = some t → args[j]? = some v → Value.okWide Try.prog W .any base t v := hval0
  obtain ⟨q, q', hA0, _, _, _, _⟩ := id hW
  have hA : DataW.TrodAll enc Try.prog W 0 (fun _ => true) true Try.f5.params.toList args.toList ds q := hA0
  have walk := law_walk (P := Try.prog) (f := 5) (fn := Try.f5) (Ts := [tF, tOs]) (by kernel_rfl) stays_all hval hA
  rw [Try.params5] at hA
  obtain ⟨v0, vs0, d0, ds0, p0, q0, hargs0, rfl, rfl, h0, r0⟩ := trodAll_cons hA
  obtain ⟨v1, vs1, d1, ds1, p1, q1, hargs1, rfl, rfl, h1, r1⟩ := trodAll_cons r0
  subst hargs1
  obtain ⟨rfl, rfl, rfl⟩ := trodAll_nil r1
  refine walk.mono fun e W' ⟨he, hb⟩ => ?_
  subst he
  exact ⟨_, rfl, law_post (tb := 4) laidOut rfl (by kernel_rfl) rfl Try.underlying4 hW rfl hb⟩

theorem firmwareStays_holds : Rows.FirmwareStaysSaid :=
  OpenClaim.holds_of_wide 5 Try.f5 rfl rfl rfl rfl rfl rfl rfl ⟨rfl, rfl, rfl, rfl, rfl⟩ rfl rfl rfl rfl rfl (by kernel_rfl) Try.func5 (by kernel_rfl)
    (of_decide_eq_true (by kernel_rfl)) (by unfold Func.isWrapper; first | (rw [if_pos (by decide +kernel)]; kernel_rfl) | (rw [if_neg (by decide +kernel)]; exact ⟨rfl, rfl⟩))
    (fun os started H enc _ => firmwareStays_lifted os started H enc)
#print axioms firmwareStays_holds
end Go.Proofs.Ytokjokbbegcceaa
