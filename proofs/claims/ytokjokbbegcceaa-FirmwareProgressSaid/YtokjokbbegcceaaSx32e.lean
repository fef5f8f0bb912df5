/-
  FirmwareProgress: its walk and its row.
-/
import Derived.Test.YtokjokbbegcceaaSx32b
import Derived.Test.YtokjokbbegcceaaSxO2
set_option maxRecDepth 100000
namespace Go.Proofs.Ytokjokbbegcceaa
open Go.Proofs.Ytokjokbbegcceaa.Sx Go.RowKit Go.WideShapes Go.ChangeShapes Go.ChangeAt
theorem typ_fw {d : D} (h : TypT tF d) : ∃ f : Fw, d = fwD f := by
  obtain ⟨ds, rfl, h⟩ := h
  simp only [Typs, Typ] at h
  obtain ⟨_, _, rfl, ⟨s, rfl, _⟩, _, _, rfl, ⟨v, rfl, _⟩, _, _, rfl, ⟨t, rfl, _⟩, _, _, rfl, ⟨dd, rfl, _⟩, _, _, rfl, ⟨tr, rfl, _⟩, rfl⟩ := h
  exact ⟨⟨s, v, t, dd, tr⟩, rfl⟩
def vcProgress : VC := (.ev [(.call 8 [(.g [(.int .i64), (.int .i64), (.int .i64), (.int .i64), (.int .i64)])] [(.rc (.cons (.v 0) (.cons (.v 1) (.cons (.v 2) (.cons (.v 3) (.cons (.v 4) .nil))))))] [(.c (.int .i64))] 9)]
 (.ite (.cmp .neq (.v 9) (.ki .i64 0))
  (.ev [(.call 10 [] [] [(.c .bool)] 10)]
   (.ret [(.v 10)]))
  (.ite (.cmp .lss (.v 8) (.ki .i64 0))
   (.ev [(.call 10 [] [] [(.c .bool)] 10)]
    (.ret [(.v 10)]))
   (.ite (.cmp .gtr (.v 8) (.ki .i64 268435456))
    (.ev [(.call 10 [] [] [(.c .bool)] 10)]
     (.ret [(.v 10)]))
    (.ev [(.call 13 [(.g [(.int .i64), (.int .i64), (.int .i64), (.int .i64), (.int .i64)]), (.c (.int .i64)), (.c (.int .i64)), (.c (.int .i64))] [(.rc (.cons (.v 0) (.cons (.v 1) (.cons (.v 2) (.cons (.v 3) (.cons (.v 4) .nil)))))), (.v 5), (.v 6), (.v 7)] [(.g [(.int .i64), (.int .i64), (.int .i64), (.int .i64), (.int .i64)]), (.c (.int .i64))] 10)]
     (.ite (.cmp .neq (.v 15) (.ki .i64 0))
      (.ite (.and (.cmp .eql (.v 10) (.v 0)) (.and (.cmp .eql (.v 11) (.v 1)) (.and (.cmp .eql (.v 12) (.v 2)) (.and (.cmp .eql (.v 13) (.v 3)) (.and (.cmp .eql (.v 14) (.v 4)) (.kb true))))))
       (.ev [(.call 10 [] [] [(.c .bool)] 16)]
        (.ret [(.v 16)]))
       (.ret [(.kb false)]))
      (.loop [(.int .i64), (.int .i64), (.int .i64), (.int .i64), (.int .i64), (.int .i64)] [(.v 10), (.v 11), (.v 12), (.v 13), (.v 14), (.ki .i64 0)]
       (.ite (.cmp .lss (.v 21) (.ki .i64 4))
        (.ev [(.call 14 [(.g [(.int .i64), (.int .i64), (.int .i64), (.int .i64), (.int .i64)]), (.c (.int .i64)), (.c .bool), (.c .bool)] [(.rc (.cons (.v 16) (.cons (.v 17) (.cons (.v 18) (.cons (.v 19) (.cons (.v 20) .nil)))))), (.ar .add .i64 (.ar .add .i64 (.v 6) (.v 8)) (.v 21)), (.kb true), (.kb true)] [(.g [(.int .i64), (.int .i64), (.int .i64), (.int .i64), (.int .i64)]), (.c .bool)] 22)]
         (.back 0 [(.v 22), (.v 23), (.v 24), (.v 25), (.v 26), (.ar .add .i64 (.v 21) (.ki .i64 1))]))
        (.loop [(.int .i64), (.int .i64), (.int .i64), (.int .i64), (.int .i64), .bool, (.int .i64)] [(.v 10), (.v 11), (.v 12), (.v 13), (.v 14), (.kb false), (.ki .i64 0)]
         (.ite (.cmp .lss (.v 28) (.ar .add .i64 (.v 7) (.ki .i64 2)))
          (.ite (.cmp .eql (.v 22) (.ki .i64 6))
           (.ret [(.kb false)])
           (.ev [(.call 14 [(.g [(.int .i64), (.int .i64), (.int .i64), (.int .i64), (.int .i64)]), (.c (.int .i64)), (.c .bool), (.c .bool)] [(.rc (.cons (.v 22) (.cons (.v 23) (.cons (.v 24) (.cons (.v 25) (.cons (.v 26) .nil)))))), (.ar .add .i64 (.ar .add .i64 (.v 6) (.v 8)) (.v 28)), (.kb true), (.kb false)] [(.g [(.int .i64), (.int .i64), (.int .i64), (.int .i64), (.int .i64)]), (.c .bool)] 29)]
            (.back 1 [(.v 29), (.v 30), (.v 31), (.v 32), (.v 33), (.v 27), (.ar .add .i64 (.v 28) (.ki .i64 1))])))
          (.ite (.cmp .eql (.v 16) (.ki .i64 5))
           (.ite (.cmp .eql (.v 17) (.v 5))
            (.ite (.cmp .eql (.v 22) (.ki .i64 6))
             (.ret [(.cmp .eql (.v 23) (.v 1))])
             (.ret [(.kb false)]))
            (.ret [(.kb false)]))
           (.ret [(.kb false)]))))))))))))

theorem wrap_id64 {n : Int} (h1 : 0 ≤ n) (h2 : n ≤ 4294967296) : IntKind.wrap .i64 n = n := by
  simp [IntKind.wrap, IntKind.bits, IntKind.signed, Int.bmod]
  omega
def bd (v ver due tries i : Int) : Fw := if i = 0 then ⟨1, v, ver, due, tries⟩ else if i ≤ tries + 1 then ⟨2, v, ver, due, tries - (i - 1)⟩ else ⟨6, v, ver, due, 0⟩
theorem good_step {v ver due tries i now : Int} (h0 : 0 ≤ i) (h4 : i < 4) (hn : due ≤ now) : stepX ⟨1 + i, v, ver, due, tries⟩ now true true = ⟨1 + (i + 1), if i + 1 = 4 then ver else v, ver, due, tries⟩ := by
  have : i = 0 ∨ i = 1 ∨ i = 2 ∨ i = 3 := by omega
  rcases this with rfl | rfl | rfl | rfl <;> simp [stepX, hn]
theorem bad_step {v ver due tries i now : Int} (h0 : 0 ≤ i) (h4 : i < tries + 2) (ht : 0 ≤ tries ∧ tries ≤ 10) (hn : due ≤ now) : (bd v ver due tries i).s ≠ 6 ∧ stepX (bd v ver due tries i) now true false = bd v ver due tries (i + 1) := by
  unfold bd
  by_cases hi : i = 0
  · subst hi
    rw [if_pos rfl, if_neg (by omega), if_pos (by omega)]
    simp [stepX, hn]
  · rw [if_neg hi, if_pos (by omega), if_neg (by omega)]
    refine ⟨by simp, ?_⟩
    unfold stepX
    simp only [beq_iff_eq, Bool.false_eq_true, if_false]
    rw [if_neg (by omega), if_pos trivial]
    by_cases he : tries - (i - 1) = 0
    · rw [if_pos he, if_neg (by omega)]
      simp; omega
    · rw [if_neg he, if_pos (by omega), wrap1 (by omega) (by omega)]
      simp; omega
theorem bad_end {v ver due tries i : Int} (h : i = tries + 2) (ht : 0 ≤ tries) : (bd v ver due tries i).s = 6 ∧ (bd v ver due tries i).v = v := by
  unfold bd
  rw [if_neg (by omega), if_neg (by omega)]
  exact ⟨rfl, rfl⟩
def gdI (v ver due tries : Int) (xs : List D) : Prop := ∃ i : Int, xs = [I64d (1 + i), I64d (if i = 4 then ver else v), I64d ver, I64d due, I64d tries, I64d i] ∧ 0 ≤ i ∧ i ≤ 4
def gdM (xs : List D) : Nat := 4 - (xs.getD 5 default).toI.toNat
def bdI (v ver due tries : Int) (xs : List D) : Prop := ∃ (i : Int) (b : Bool), xs = [I64d (bd v ver due tries i).s, I64d (bd v ver due tries i).v, I64d (bd v ver due tries i).t, I64d (bd v ver due tries i).d, I64d (bd v ver due tries i).tr, .bool b, I64d i] ∧ 0 ≤ i ∧ i ≤ tries + 2
def bdM (tries : Int) (xs : List D) : Nat := (tries + 2 - (xs.getD 6 default).toI).toNat
set_option maxHeartbeats 1000000 in
theorem progress_ok (f : Fw) (ver due tries later : Int) : Fun Try.prog 6 [tF, tI, tI, tI, tI] [fwD f, I64d ver, I64d due, I64d tries, I64d later] [tB] [.bool true] := by
  obtain ⟨s, v, t, d, tr⟩ := f
  refine fun_of_gen hP Try.func6 rfl (by decide) (v := vcProgress) (by kernel_rfl) ?_
  unfold vcProgress
  refine den_ev (fval_call s v t d tr rfl (evs_nil ?_))
  refine den_ite (fun h => den_ev (ex_call rfl (evs_nil (den_ret rfl)))) (fun h => ?_)
  have hv : fvalI ⟨s, v, t, d, tr⟩ = 0 := by simp [E.den, cmpB, D.toI, D.toB, flatD, fwD] at h; exact h
  clear h
  refine den_ite (fun h => den_ev (ex_call rfl (evs_nil (den_ret rfl)))) (fun h => ?_)
  have hl0 : 0 ≤ later := by simp [E.den, cmpB, D.toI, D.toB, flatD, fwD] at h; omega
  clear h
  refine den_ite (fun h => den_ev (ex_call rfl (evs_nil (den_ret rfl)))) (fun h => ?_)
  have hl1 : later ≤ 268435456 := by simp [E.den, cmpB, D.toI, D.toB, flatD, fwD] at h; omega
  clear h
  obtain ⟨_, k2, _, k4⟩ := sch_facts ⟨s, v, t, d, tr⟩ ver due tries hv
  refine den_ev (sch_call s v t d tr ver due tries rfl (evs_nil ?_))
  generalize fvalI ⟨s, v, t, d, tr⟩ = vv
  clear hv
  refine den_ite (fun h => ?_) (fun h => ?_)
  · have he : schE ⟨s, v, t, d, tr⟩ ver due tries ≠ 0 := by simp [E.den, cmpB, D.toI, D.toB, flatD, fwD] at h; exact h
    rw [k2 he]
    refine den_ite (fun _ => den_ev (ex_call rfl (evs_nil (den_ret rfl)))) (fun h => ?_)
    exfalso
    simp [E.den, cmpB, D.toI, D.toB, flatD, fwD] at h
  have he : schE ⟨s, v, t, d, tr⟩ ver due tries = 0 := by simp [E.den, cmpB, D.toI, D.toB, flatD, fwD] at h; exact h
  clear h
  obtain ⟨hs, r1, r2, r3, r4, r5, r6, r7⟩ := k4 he
  rw [hs, he]
  clear k2 k4 hs he
  refine den_loop (gdI v ver due tries) gdM ⟨0, rfl, by omega, by omega⟩ ?_
  simp only [AllSh]
  intro a0 _ _ a1 _ _ a2 _ _ a3 _ _ a4 _ _ a5 _ _ ⟨i, he, hi0, hi1⟩
  simp only [List.cons.injEq, D.int.injEq, true_and, and_true] at he
  obtain ⟨rfl, rfl, rfl, rfl, rfl, rfl⟩ := he
  have hw1 := wrap_id64 (n := a3 + later) (by omega) (by omega)
  refine den_ite (fun h => ?_) (fun h => ?_)
  · have h4 : a5 < 4 := by simp [E.den, cmpB, D.toI, D.toB, flatD, fwD] at h; omega
    clear h
    have hw2 := wrap_id64 (n := a3 + later + a5) (by omega) (by omega)
    have hw3 := wrap_id64 (n := a5 + 1) (by omega) (by omega)
    have hst := good_step (v := v) (ver := a2) (due := a3) (tries := a4) (now := a3 + later + a5) hi0 h4 (by omega)
    rw [if_neg (show ¬ a5 = 4 by omega)]
    refine den_ev (step_call (1 + a5) v a2 a3 a4 (a3 + later + a5) true true (by simp only [E.den, cmpB, arI, D.toI, D.toB, D.toL, List.map_cons, List.map_nil, List.getD_cons_zero, List.getD_cons_succ, List.cons_append, List.nil_append, flatD, I64d, fwD, hw1, hw2]) (evs_nil ?_))
    rw [hst]
    refine den_back rfl ⟨a5 + 1, ?_, by omega, by omega⟩ ?_
    · simp only [E.den, cmpB, arI, D.toI, D.toB, D.toL, List.map_cons, List.map_nil, List.getD_cons_zero, List.getD_cons_succ, List.cons_append, List.nil_append, flatD, I64d, fwD, hw3]
    · simp only [gdM, VC.den, E.den, cmpB, arI, D.toI, D.toB, D.toL, D.len, List.map_cons, List.map_nil, List.getD_cons_zero, List.getD_cons_succ, List.cons_append, List.nil_append, flatD, I64d, fwD, opD, hw3]; omega
  have h4 : a5 = 4 := by simp [E.den, cmpB, D.toI, D.toB, flatD, fwD] at h; omega
  clear h
  subst h4
  rw [if_pos rfl]
  refine den_loop (bdI v a2 a3 a4) (bdM a4) ⟨0, false, rfl, by omega, by omega⟩ ?_
  simp only [AllSh]
  intro b0 _ _ b1 _ _ b2 _ _ b3 _ _ b4 _ _ b5 b6 _ _ ⟨i, b, he, hj0, hj1⟩
  simp only [List.cons.injEq, D.int.injEq, D.bool.injEq, true_and, and_true] at he
  obtain ⟨rfl, rfl, rfl, rfl, rfl, rfl, rfl⟩ := he
  have hw4 := wrap_id64 (n := a4 + 2) (by omega) (by omega)
  refine den_ite (fun h => ?_) (fun h => ?_)
  · have h4 : b6 < a4 + 2 := by simp only [E.den, cmpB, arI, D.toI, D.toB, D.toL, List.map_cons, List.map_nil, List.getD_cons_zero, List.getD_cons_succ, List.cons_append, List.nil_append, flatD, I64d, fwD, hw4] at h; simpa using h
    clear h
    have hw2 := wrap_id64 (n := a3 + later + b6) (by omega) (by omega)
    have hw3 := wrap_id64 (n := b6 + 1) (by omega) (by omega)
    obtain ⟨hne, hst⟩ := bad_step (v := v) (ver := a2) (due := a3) (tries := a4) (now := a3 + later + b6) hj0 h4 ⟨by omega, by omega⟩ (by omega)
    refine den_ite (fun h => ?_) (fun h => ?_)
    · exfalso
      simp only [E.den, cmpB, arI, D.toI, D.toB, D.toL, List.map_cons, List.map_nil, List.getD_cons_zero, List.getD_cons_succ, List.cons_append, List.nil_append, flatD, I64d, fwD] at h
      simp at h
      exact hne h
    clear h
    refine den_ev (step_call (bd v a2 a3 a4 b6).s (bd v a2 a3 a4 b6).v (bd v a2 a3 a4 b6).t (bd v a2 a3 a4 b6).d (bd v a2 a3 a4 b6).tr (a3 + later + b6) true false (by simp only [E.den, cmpB, arI, D.toI, D.toB, D.toL, List.map_cons, List.map_nil, List.getD_cons_zero, List.getD_cons_succ, List.cons_append, List.nil_append, flatD, I64d, fwD, hw1, hw2]) (evs_nil ?_))
    have hst' : stepX ⟨(bd v a2 a3 a4 b6).s, (bd v a2 a3 a4 b6).v, (bd v a2 a3 a4 b6).t, (bd v a2 a3 a4 b6).d, (bd v a2 a3 a4 b6).tr⟩ (a3 + later + b6) true false = bd v a2 a3 a4 (b6 + 1) := hst
    rw [hst']
    refine den_back rfl ⟨b6 + 1, b5, ?_, by omega, by omega⟩ ?_
    · simp only [E.den, cmpB, arI, D.toI, D.toB, D.toL, List.map_cons, List.map_nil, List.getD_cons_zero, List.getD_cons_succ, List.cons_append, List.nil_append, flatD, I64d, fwD, hw3]
    · simp only [bdM, VC.den, E.den, cmpB, arI, D.toI, D.toB, D.toL, D.len, List.map_cons, List.map_nil, List.getD_cons_zero, List.getD_cons_succ, List.cons_append, List.nil_append, flatD, I64d, fwD, opD, hw3]; omega
  have h4 : b6 = a4 + 2 := by simp only [E.den, cmpB, arI, D.toI, D.toB, D.toL, List.map_cons, List.map_nil, List.getD_cons_zero, List.getD_cons_succ, List.cons_append, List.nil_append, flatD, I64d, fwD, hw4] at h; simp at h; omega
  clear h
  obtain ⟨e1, e2⟩ := bad_end (v := v) (ver := a2) (due := a3) h4 (by omega)
  rw [e1, e2]
  refine den_ite (fun _ => ?_) (fun h => ?_)
  · refine den_ite (fun _ => ?_) (fun h => ?_)
    · refine den_ite (fun _ => ?_) (fun h => ?_)
      · refine den_ret ?_
        simp [E.den, cmpB, D.toI, D.toB, flatD, fwD]
      · exfalso; simp [E.den, cmpB, D.toI, D.toB, flatD, fwD] at h
    · exfalso; simp [E.den, cmpB, D.toI, D.toB, flatD, fwD] at h
  · exfalso; simp [E.den, cmpB, D.toI, D.toB, flatD, fwD] at h
theorem progress_all (xs : List D) (h : TypTs [tF, tI, tI, tI, tI] xs) : Fun Try.prog 6 [tF, tI, tI, tI, tI] xs [.c .bool] [.bool true] := by
  obtain ⟨_, _, rfl, h1, _, _, rfl, h2, _, _, rfl, h3, _, _, rfl, h4, _, _, rfl, h5, rfl⟩ := h
  obtain ⟨f, rfl⟩ := typ_fw h1
  obtain ⟨a, rfl, _⟩ : ∃ n, _ = D.int .i64 n ∧ _ := by simpa only [TypT, Typ] using h2
  obtain ⟨b, rfl, _⟩ : ∃ n, _ = D.int .i64 n ∧ _ := by simpa only [TypT, Typ] using h3
  obtain ⟨c, rfl, _⟩ : ∃ n, _ = D.int .i64 n ∧ _ := by simpa only [TypT, Typ] using h4
  obtain ⟨d, rfl, _⟩ : ∃ n, _ = D.int .i64 n ∧ _ := by simpa only [TypT, Typ] using h5
  exact progress_ok f a b c d

set_option maxRecDepth 100000 in
theorem firmwareProgress_lifted (os : Os) (started : os.Started) (H : Type) (enc : TypeId × Value → H) :
    ReturnsInHanded {} Try.checked os 6 .any (Rows.firmwareProgressSpec.pre6 enc Try.prog Try.f6 Rows.firmwareProgressRow.domain false) (Rows.firmwareProgressSpec.post enc Try.prog Try.f6 false true false false) := by
  refine returnsInHanded_of_change (C := Try.checked) own started (by kernel_rfl) Try.func6
    (ChangeSpec.witness6 (enc := enc) (C := Try.checked) false ⟨#[], #[.agg #[.int .i64 0, .int .i64 0, .int .i64 0, .int .i64 0, .int .i64 0], .int .i64 0, .int .i64 0, .int .i64 0, .int .i64 0], []⟩ 8 (by kernel_rfl) (by kernel_rfl) (by kernel_rfl) (by kernel_rfl)) ?_
  intro W base args ds gs before hval0 hW hcnd _
  have hval : ∀ (j : Nat) t v, Try.f6.params[j]? = some t → args[j]? = some v → Value.okWide Try.prog W .any base t v := hval0
  obtain ⟨q, q', hA0, _, _, _, _⟩ := id hW
  have hA : DataW.TrodAll enc Try.prog W 0 (fun _ => true) true Try.f6.params.toList args.toList ds q := hA0
  have walk := law_walk (P := Try.prog) (f := 6) (fn := Try.f6) (Ts := [tF, tI, tI, tI, tI]) (by kernel_rfl) progress_all hval hA
  rw [Try.params6] at hA
  obtain ⟨v0, vs0, d0, ds0, p0, q0, hargs0, rfl, rfl, h0, r0⟩ := trodAll_cons hA
  obtain ⟨v1, vs1, d1, ds1, p1, q1, hargs1, rfl, rfl, h1, r1⟩ := trodAll_cons r0
  subst hargs1
  obtain ⟨v2, vs2, d2, ds2, p2, q2, hargs2, rfl, rfl, h2, r2⟩ := trodAll_cons r1
  subst hargs2
  obtain ⟨v3, vs3, d3, ds3, p3, q3, hargs3, rfl, rfl, h3, r3⟩ := trodAll_cons r2
  subst hargs3
  obtain ⟨v4, vs4, d4, ds4, p4, q4, hargs4, rfl, rfl, h4, r4⟩ := trodAll_cons r3
  subst hargs4
  obtain ⟨rfl, rfl, rfl⟩ := trodAll_nil r4
  refine walk.mono fun e W' ⟨he, hb⟩ => ?_
  subst he
  exact ⟨_, rfl, law_post (tb := 4) laidOut rfl (by kernel_rfl) rfl Try.underlying4 hW rfl hb⟩

theorem firmwareProgress_holds : Rows.FirmwareProgressSaid :=
  OpenClaim.holds_of_wide 6 Try.f6 rfl rfl rfl rfl rfl rfl rfl ⟨rfl, rfl, rfl, rfl, rfl⟩ rfl rfl rfl rfl rfl (by kernel_rfl) Try.func6 (by kernel_rfl)
    (of_decide_eq_true (by kernel_rfl)) (by unfold Func.isWrapper; first | (rw [if_pos (by decide +kernel)]; kernel_rfl) | (rw [if_neg (by decide +kernel)]; exact ⟨rfl, rfl⟩))
    (fun os started H enc _ => firmwareProgress_lifted os started H enc)
#print axioms firmwareProgress_holds
end Go.Proofs.Ytokjokbbegcceaa
