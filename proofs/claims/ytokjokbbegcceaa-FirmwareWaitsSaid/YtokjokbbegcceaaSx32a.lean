/-
  The functions of layer 32, as data: their conditions (printed by a program), and what they return.
-/
import Derived.Test.YtokjokbbegcceaaSpec32
import Derived.Test.YtokjokbbegcceaaSxO2
set_option maxRecDepth 100000
namespace Go.Proofs.Ytokjokbbegcceaa
open Go.Proofs.Ytokjokbbegcceaa.Sx
theorem hP : NoNum Try.prog := by unfold NoNum; kernel_rfl
abbrev tF : TS := .g [.int .i64, .int .i64, .int .i64, .int .i64, .int .i64]
abbrev tO : TS := .g [.int .i64, .int .i64, .int .i64, .int .i64, .int .i64, .bool, .bool]
def fwD (f : Fw) : D := .rc [I64d f.s, I64d f.v, I64d f.t, I64d f.d, I64d f.tr]
def opD (x : FOp) : D := .rc [I64d x.k, I64d x.ver, I64d x.due, I64d x.tr, I64d x.now, .bool x.idle, .bool x.good]
/-- Step, with the model's own subtraction. -/
def stepX (f : Fw) (now : Int) (idle good : Bool) : Fw :=
  if f.s == 1 then (if f.d ≤ now then ⟨2, f.v, f.t, f.d, f.tr⟩ else f)
  else if f.s == 2 then (if good then ⟨3, f.v, f.t, f.d, f.tr⟩ else if f.tr == 0 then ⟨6, f.v, f.t, f.d, f.tr⟩ else ⟨2, f.v, f.t, f.d, IntKind.wrap .i64 (f.tr - 1)⟩)
  else if f.s == 3 then (if idle then ⟨4, f.v, f.t, f.d, f.tr⟩ else f)
  else if f.s == 4 then (if good then ⟨5, f.t, f.t, f.d, f.tr⟩ else ⟨6, f.v, f.t, f.d, f.tr⟩)
  else f
def vcuw : VC := (.ite (.cmp .geq (.v 0) (.ki .i64 1))
 (.ret [(.cmp .leq (.v 0) (.ki .i64 4))])
 (.ret [(.kb false)]))
set_option maxHeartbeats 400000 in
theorem uw_ok (s : Int) : Fun Try.prog 21 [tI] [I64d s] [tB] [.bool (uwB s)] := by
  refine fun_of_gen hP Try.func21 rfl (by decide) (v := vcuw) (by kernel_rfl) ?_
  unfold vcuw
  repeat' (first | with_reducible refine den_ite (fun h => ?_) (fun h => ?_) | with_reducible refine den_ret ?_)
  all_goals (simp [VC.den, E.den, cmpB, arI, D.toI, D.toB, D.toL, D.len, List.map_cons, List.map_nil, List.getD_cons_zero, List.getD_cons_succ, List.cons_append, List.nil_append, flatD, I64d, fwD] at *; simp only [uwB]; (repeat' split) <;> first | (simp_all; done) | (simp_all; omega) | (simp at *; omega) | (rw [Bool.eq_iff_iff]; simp; omega))
def vccan : VC := (.ite (.cmp .neq (.v 0) (.ki .i64 1))
 (.ite (.cmp .neq (.v 0) (.ki .i64 2))
  (.ite (.cmp .neq (.v 0) (.ki .i64 3))
   (.ret [(.rc (.cons (.v 0) (.cons (.v 1) (.cons (.v 2) (.cons (.v 3) (.cons (.v 4) .nil)))))), (.ki .i64 10)])
   (.ret [(.rc (.cons (.ki .i64 0) (.cons (.v 1) (.cons (.ki .i64 0) (.cons (.ki .i64 0) (.cons (.ki .i64 0) .nil)))))), (.ki .i64 0)]))
  (.ret [(.rc (.cons (.ki .i64 0) (.cons (.v 1) (.cons (.ki .i64 0) (.cons (.ki .i64 0) (.cons (.ki .i64 0) .nil)))))), (.ki .i64 0)]))
 (.ret [(.rc (.cons (.ki .i64 0) (.cons (.v 1) (.cons (.ki .i64 0) (.cons (.ki .i64 0) (.cons (.ki .i64 0) .nil)))))), (.ki .i64 0)]))
set_option maxHeartbeats 400000 in
theorem can_ok (s v t d tr : Int) : Fun Try.prog 17 [tF] [fwD ⟨s, v, t, d, tr⟩] [tF, tI] [fwD (can ⟨s, v, t, d, tr⟩), I64d (canE ⟨s, v, t, d, tr⟩)] := by
  refine fun_of_gen hP Try.func17 rfl (by decide) (v := vccan) (by kernel_rfl) ?_
  unfold vccan
  repeat' (first | with_reducible refine den_ite (fun h => ?_) (fun h => ?_) | with_reducible refine den_ret ?_)
  all_goals (simp [VC.den, E.den, cmpB, arI, D.toI, D.toB, D.toL, D.len, List.map_cons, List.map_nil, List.getD_cons_zero, List.getD_cons_succ, List.cons_append, List.nil_append, flatD, I64d, fwD] at *; simp only [can, canE]; (repeat' split) <;> first | (simp_all; done) | (simp_all; omega) | (simp at *; omega) | (rw [Bool.eq_iff_iff]; simp; omega))
def vcfval : VC := (.ite (.cmp .lss (.v 0) (.ki .i64 0))
 (.ret [(.ki .i64 2)])
 (.ite (.cmp .gtr (.v 0) (.ki .i64 6))
  (.ret [(.ki .i64 2)])
  (.ite (.cmp .lss (.v 1) (.ki .i64 0))
   (.ret [(.ki .i64 2)])
   (.ite (.cmp .gtr (.v 1) (.ki .i64 2147483647))
    (.ret [(.ki .i64 2)])
    (.ite (.cmp .lss (.v 2) (.ki .i64 0))
     (.ret [(.ki .i64 2)])
     (.ite (.cmp .gtr (.v 2) (.ki .i64 2147483647))
      (.ret [(.ki .i64 2)])
      (.ite (.cmp .lss (.v 3) (.ki .i64 0))
       (.ret [(.ki .i64 2)])
       (.ite (.cmp .gtr (.v 3) (.ki .i64 268435456))
        (.ret [(.ki .i64 2)])
        (.ite (.cmp .lss (.v 4) (.ki .i64 0))
         (.ret [(.ki .i64 2)])
         (.ite (.cmp .gtr (.v 4) (.ki .i64 10))
          (.ret [(.ki .i64 2)])
          (.ite (.cmp .eql (.v 0) (.ki .i64 0))
           (.ite (.cmp .neq (.v 2) (.ki .i64 0))
            (.ret [(.ki .i64 1)])
            (.ite (.cmp .neq (.v 3) (.ki .i64 0))
             (.ret [(.ki .i64 1)])
             (.ite (.cmp .neq (.v 4) (.ki .i64 0))
              (.ret [(.ki .i64 1)])
              (.ret [(.ki .i64 0)]))))
           (.ite (.cmp .eql (.v 2) (.ki .i64 0))
            (.ret [(.ki .i64 1)])
            (.ite (.beq (.cmp .eql (.v 2) (.v 1)) (.cmp .eql (.v 0) (.ki .i64 5)))
             (.ret [(.ki .i64 0)])
             (.ret [(.ki .i64 1)]))))))))))))))
set_option maxHeartbeats 400000 in
theorem fval_ok (s v t d tr : Int) : Fun Try.prog 8 [tF] [fwD ⟨s, v, t, d, tr⟩] [tI] [I64d (fvalI ⟨s, v, t, d, tr⟩)] := by
  refine fun_of_gen hP Try.func8 rfl (by decide) (v := vcfval) (by kernel_rfl) ?_
  unfold vcfval
  repeat' (first | with_reducible refine den_ite (fun h => ?_) (fun h => ?_) | with_reducible refine den_ret ?_)
  all_goals (simp [VC.den, E.den, cmpB, arI, D.toI, D.toB, D.toL, D.len, List.map_cons, List.map_nil, List.getD_cons_zero, List.getD_cons_succ, List.cons_append, List.nil_append, flatD, I64d, fwD] at *; simp only [fvalI]; (repeat' split) <;> first | (simp_all; done) | (simp_all; omega) | (simp at *; omega) | (rw [Bool.eq_iff_iff]; simp; omega))
def vcstep : VC := (.ite (.cmp .eql (.v 0) (.ki .i64 1))
 (.ite (.cmp .geq (.v 5) (.v 3))
  (.ret [(.rc (.cons (.ki .i64 2) (.cons (.v 1) (.cons (.v 2) (.cons (.v 3) (.cons (.v 4) .nil)))))), (.cmp .neq (.ki .i64 2) (.v 0))])
  (.ret [(.rc (.cons (.v 0) (.cons (.v 1) (.cons (.v 2) (.cons (.v 3) (.cons (.v 4) .nil)))))), (.cmp .neq (.v 0) (.v 0))]))
 (.ite (.cmp .eql (.v 0) (.ki .i64 2))
  (.ite (.v 7)
   (.ret [(.rc (.cons (.ki .i64 3) (.cons (.v 1) (.cons (.v 2) (.cons (.v 3) (.cons (.v 4) .nil)))))), (.cmp .neq (.ki .i64 3) (.v 0))])
   (.ite (.cmp .eql (.v 4) (.ki .i64 0))
    (.ret [(.rc (.cons (.ki .i64 6) (.cons (.v 1) (.cons (.v 2) (.cons (.v 3) (.cons (.v 4) .nil)))))), (.cmp .neq (.ki .i64 6) (.v 0))])
    (.ret [(.rc (.cons (.v 0) (.cons (.v 1) (.cons (.v 2) (.cons (.v 3) (.cons (.ar .sub .i64 (.v 4) (.ki .i64 1)) .nil)))))), (.cmp .neq (.v 0) (.v 0))])))
  (.ite (.cmp .eql (.v 0) (.ki .i64 3))
   (.ite (.v 6)
    (.ret [(.rc (.cons (.ki .i64 4) (.cons (.v 1) (.cons (.v 2) (.cons (.v 3) (.cons (.v 4) .nil)))))), (.cmp .neq (.ki .i64 4) (.v 0))])
    (.ret [(.rc (.cons (.v 0) (.cons (.v 1) (.cons (.v 2) (.cons (.v 3) (.cons (.v 4) .nil)))))), (.cmp .neq (.v 0) (.v 0))]))
   (.ite (.cmp .eql (.v 0) (.ki .i64 4))
    (.ite (.v 7)
     (.ret [(.rc (.cons (.ki .i64 5) (.cons (.v 2) (.cons (.v 2) (.cons (.v 3) (.cons (.v 4) .nil)))))), (.cmp .neq (.ki .i64 5) (.v 0))])
     (.ret [(.rc (.cons (.ki .i64 6) (.cons (.v 1) (.cons (.v 2) (.cons (.v 3) (.cons (.v 4) .nil)))))), (.cmp .neq (.ki .i64 6) (.v 0))]))
    (.ret [(.rc (.cons (.v 0) (.cons (.v 1) (.cons (.v 2) (.cons (.v 3) (.cons (.v 4) .nil)))))), (.cmp .neq (.v 0) (.v 0))])))))
set_option maxHeartbeats 400000 in
theorem step_ok (s v t d tr : Int) (now : Int) (idle good : Bool) : Fun Try.prog 14 [tF, tI, tB, tB] [fwD ⟨s, v, t, d, tr⟩, I64d now, .bool idle, .bool good] [tF, tB] [fwD (stepX ⟨s, v, t, d, tr⟩ now idle good), .bool ((stepX ⟨s, v, t, d, tr⟩ now idle good).s != s)] := by
  refine fun_of_gen hP Try.func14 rfl (by decide) (v := vcstep) (by kernel_rfl) ?_
  unfold vcstep
  repeat' (first | with_reducible refine den_ite (fun h => ?_) (fun h => ?_) | with_reducible refine den_ret ?_)
  all_goals (simp [VC.den, E.den, cmpB, arI, D.toI, D.toB, D.toL, D.len, List.map_cons, List.map_nil, List.getD_cons_zero, List.getD_cons_succ, List.cons_append, List.nil_append, flatD, I64d, fwD] at *; simp only [stepX]; (repeat' split) <;> first | (simp_all; done) | (simp_all; omega) | (simp at *; omega) | (rw [Bool.eq_iff_iff]; simp; omega))
theorem uw_call {es0 : List E} {n : Nat} {l : List Ev} {ρ : List D} {kk : List D → Prop} (s : Int) (ha : es0.map (·.den ρ) = [I64d s]) (hk : evsP Try.prog l (ρ ++ [.bool (uwB s)]) kk) : evsP Try.prog (.call 21 [tI] es0 [tB] n :: l) ρ kk :=
  evs_call [.bool (uwB s)] rfl (uw_ok s) ha rfl hk
theorem can_call {es0 : List E} {n : Nat} {l : List Ev} {ρ : List D} {kk : List D → Prop} (s v t d tr : Int) (ha : es0.map (·.den ρ) = [fwD ⟨s, v, t, d, tr⟩]) (hk : evsP Try.prog l (ρ ++ [I64d (can ⟨s, v, t, d, tr⟩).s, I64d (can ⟨s, v, t, d, tr⟩).v, I64d (can ⟨s, v, t, d, tr⟩).t, I64d (can ⟨s, v, t, d, tr⟩).d, I64d (can ⟨s, v, t, d, tr⟩).tr, I64d (canE ⟨s, v, t, d, tr⟩)]) kk) : evsP Try.prog (.call 17 [tF] es0 [tF, tI] n :: l) ρ kk :=
  evs_call [I64d (can ⟨s, v, t, d, tr⟩).s, I64d (can ⟨s, v, t, d, tr⟩).v, I64d (can ⟨s, v, t, d, tr⟩).t, I64d (can ⟨s, v, t, d, tr⟩).d, I64d (can ⟨s, v, t, d, tr⟩).tr, I64d (canE ⟨s, v, t, d, tr⟩)] rfl (can_ok s v t d tr) ha rfl hk
theorem fval_call {es0 : List E} {n : Nat} {l : List Ev} {ρ : List D} {kk : List D → Prop} (s v t d tr : Int) (ha : es0.map (·.den ρ) = [fwD ⟨s, v, t, d, tr⟩]) (hk : evsP Try.prog l (ρ ++ [I64d (fvalI ⟨s, v, t, d, tr⟩)]) kk) : evsP Try.prog (.call 8 [tF] es0 [tI] n :: l) ρ kk :=
  evs_call [I64d (fvalI ⟨s, v, t, d, tr⟩)] rfl (fval_ok s v t d tr) ha rfl hk
theorem step_call {es0 : List E} {n : Nat} {l : List Ev} {ρ : List D} {kk : List D → Prop} (s v t d tr : Int) (now : Int) (idle good : Bool) (ha : es0.map (·.den ρ) = [fwD ⟨s, v, t, d, tr⟩, I64d now, .bool idle, .bool good]) (hk : evsP Try.prog l (ρ ++ [I64d (stepX ⟨s, v, t, d, tr⟩ now idle good).s, I64d (stepX ⟨s, v, t, d, tr⟩ now idle good).v, I64d (stepX ⟨s, v, t, d, tr⟩ now idle good).t, I64d (stepX ⟨s, v, t, d, tr⟩ now idle good).d, I64d (stepX ⟨s, v, t, d, tr⟩ now idle good).tr, .bool ((stepX ⟨s, v, t, d, tr⟩ now idle good).s != s)]) kk) : evsP Try.prog (.call 14 [tF, tI, tB, tB] es0 [tF, tB] n :: l) ρ kk :=
  evs_call [I64d (stepX ⟨s, v, t, d, tr⟩ now idle good).s, I64d (stepX ⟨s, v, t, d, tr⟩ now idle good).v, I64d (stepX ⟨s, v, t, d, tr⟩ now idle good).t, I64d (stepX ⟨s, v, t, d, tr⟩ now idle good).d, I64d (stepX ⟨s, v, t, d, tr⟩ now idle good).tr, .bool ((stepX ⟨s, v, t, d, tr⟩ now idle good).s != s)] rfl (step_ok s v t d tr now idle good) ha rfl hk
def vcsch : VC := (.ite (.cmp .lss (.v 5) (.ki .i64 1))
 (.ret [(.rc (.cons (.v 0) (.cons (.v 1) (.cons (.v 2) (.cons (.v 3) (.cons (.v 4) .nil)))))), (.ki .i64 2)])
 (.ite (.cmp .gtr (.v 5) (.ki .i64 2147483647))
  (.ret [(.rc (.cons (.v 0) (.cons (.v 1) (.cons (.v 2) (.cons (.v 3) (.cons (.v 4) .nil)))))), (.ki .i64 2)])
  (.ite (.cmp .lss (.v 6) (.ki .i64 0))
   (.ret [(.rc (.cons (.v 0) (.cons (.v 1) (.cons (.v 2) (.cons (.v 3) (.cons (.v 4) .nil)))))), (.ki .i64 2)])
   (.ite (.cmp .gtr (.v 6) (.ki .i64 268435456))
    (.ret [(.rc (.cons (.v 0) (.cons (.v 1) (.cons (.v 2) (.cons (.v 3) (.cons (.v 4) .nil)))))), (.ki .i64 2)])
    (.ite (.cmp .lss (.v 7) (.ki .i64 0))
     (.ret [(.rc (.cons (.v 0) (.cons (.v 1) (.cons (.v 2) (.cons (.v 3) (.cons (.v 4) .nil)))))), (.ki .i64 2)])
     (.ite (.cmp .gtr (.v 7) (.ki .i64 10))
      (.ret [(.rc (.cons (.v 0) (.cons (.v 1) (.cons (.v 2) (.cons (.v 3) (.cons (.v 4) .nil)))))), (.ki .i64 2)])
      (.ev [(.call 21 [(.c (.int .i64))] [(.v 0)] [(.c .bool)] 8)]
       (.ite (.v 8)
        (.ret [(.rc (.cons (.v 0) (.cons (.v 1) (.cons (.v 2) (.cons (.v 3) (.cons (.v 4) .nil)))))), (.ki .i64 10)])
        (.ite (.cmp .eql (.v 5) (.v 1))
         (.ret [(.rc (.cons (.v 0) (.cons (.v 1) (.cons (.v 2) (.cons (.v 3) (.cons (.v 4) .nil)))))), (.ki .i64 9)])
         (.ret [(.rc (.cons (.ki .i64 1) (.cons (.v 1) (.cons (.v 5) (.cons (.v 6) (.cons (.v 7) .nil)))))), (.ki .i64 0)]))))))))))
set_option maxHeartbeats 400000 in
theorem sch_ok (s v t d tr : Int) (ver due otr : Int) : Fun Try.prog 13 [tF, tI, tI, tI] [fwD ⟨s, v, t, d, tr⟩, I64d ver, I64d due, I64d otr] [tF, tI] [fwD (sch ⟨s, v, t, d, tr⟩ ver due otr), I64d (schE ⟨s, v, t, d, tr⟩ ver due otr)] := by
  refine fun_of_gen hP Try.func13 rfl (by decide) (v := vcsch) (by kernel_rfl) ?_
  unfold vcsch
  repeat' (first | with_reducible refine den_ite (fun h => ?_) (fun h => ?_) | with_reducible refine den_ev ?_ | with_reducible refine evs_nil ?_ | refine uw_call _ rfl ?_ | with_reducible refine den_ret ?_)
  all_goals (simp [VC.den, E.den, cmpB, arI, D.toI, D.toB, D.toL, D.len, List.map_cons, List.map_nil, List.getD_cons_zero, List.getD_cons_succ, List.cons_append, List.nil_append, flatD, I64d, fwD] at *; simp only [sch, schE]; (repeat' split) <;> first | (simp_all; done) | (simp_all; omega) | (simp at *; omega) | (rw [Bool.eq_iff_iff]; simp; omega))
theorem sch_call {es0 : List E} {n : Nat} {l : List Ev} {ρ : List D} {kk : List D → Prop} (s v t d tr : Int) (ver due otr : Int) (ha : es0.map (·.den ρ) = [fwD ⟨s, v, t, d, tr⟩, I64d ver, I64d due, I64d otr]) (hk : evsP Try.prog l (ρ ++ [I64d (sch ⟨s, v, t, d, tr⟩ ver due otr).s, I64d (sch ⟨s, v, t, d, tr⟩ ver due otr).v, I64d (sch ⟨s, v, t, d, tr⟩ ver due otr).t, I64d (sch ⟨s, v, t, d, tr⟩ ver due otr).d, I64d (sch ⟨s, v, t, d, tr⟩ ver due otr).tr, I64d (schE ⟨s, v, t, d, tr⟩ ver due otr)]) kk) : evsP Try.prog (.call 13 [tF, tI, tI, tI] es0 [tF, tI] n :: l) ρ kk :=
  evs_call [I64d (sch ⟨s, v, t, d, tr⟩ ver due otr).s, I64d (sch ⟨s, v, t, d, tr⟩ ver due otr).v, I64d (sch ⟨s, v, t, d, tr⟩ ver due otr).t, I64d (sch ⟨s, v, t, d, tr⟩ ver due otr).d, I64d (sch ⟨s, v, t, d, tr⟩ ver due otr).tr, I64d (schE ⟨s, v, t, d, tr⟩ ver due otr)] rfl (sch_ok s v t d tr ver due otr) ha rfl hk
def callX (f : Fw) (x : FOp) : Fw := if x.k = 1 then sch f x.ver x.due x.tr else if x.k = 2 then stepX f x.now x.idle x.good else if x.k = 3 then can f else f
def callXB (f : Fw) (x : FOp) : Bool := if x.k = 1 then false else if x.k = 2 then (stepX f x.now x.idle x.good).s != f.s else false
def callXE (f : Fw) (x : FOp) : Int := if x.k = 1 then schE f x.ver x.due x.tr else if x.k = 2 then 0 else if x.k = 3 then canE f else 0
def vccall : VC := (.ite (.cmp .eql (.v 5) (.ki .i64 1))
 (.ev [(.call 13 [(.g [(.int .i64), (.int .i64), (.int .i64), (.int .i64), (.int .i64)]), (.c (.int .i64)), (.c (.int .i64)), (.c (.int .i64))] [(.rc (.cons (.v 0) (.cons (.v 1) (.cons (.v 2) (.cons (.v 3) (.cons (.v 4) .nil)))))), (.v 6), (.v 7), (.v 8)] [(.g [(.int .i64), (.int .i64), (.int .i64), (.int .i64), (.int .i64)]), (.c (.int .i64))] 12)]
  (.ret [(.rc (.cons (.v 12) (.cons (.v 13) (.cons (.v 14) (.cons (.v 15) (.cons (.v 16) .nil)))))), (.kb false), (.v 17)]))
 (.ite (.cmp .eql (.v 5) (.ki .i64 2))
  (.ev [(.call 14 [(.g [(.int .i64), (.int .i64), (.int .i64), (.int .i64), (.int .i64)]), (.c (.int .i64)), (.c .bool), (.c .bool)] [(.rc (.cons (.v 0) (.cons (.v 1) (.cons (.v 2) (.cons (.v 3) (.cons (.v 4) .nil)))))), (.v 9), (.v 10), (.v 11)] [(.g [(.int .i64), (.int .i64), (.int .i64), (.int .i64), (.int .i64)]), (.c .bool)] 12)]
   (.ret [(.rc (.cons (.v 12) (.cons (.v 13) (.cons (.v 14) (.cons (.v 15) (.cons (.v 16) .nil)))))), (.v 17), (.ki .i64 0)]))
  (.ite (.cmp .eql (.v 5) (.ki .i64 3))
   (.ev [(.call 17 [(.g [(.int .i64), (.int .i64), (.int .i64), (.int .i64), (.int .i64)])] [(.rc (.cons (.v 0) (.cons (.v 1) (.cons (.v 2) (.cons (.v 3) (.cons (.v 4) .nil))))))] [(.g [(.int .i64), (.int .i64), (.int .i64), (.int .i64), (.int .i64)]), (.c (.int .i64))] 12)]
    (.ret [(.rc (.cons (.v 12) (.cons (.v 13) (.cons (.v 14) (.cons (.v 15) (.cons (.v 16) .nil)))))), (.kb false), (.v 17)]))
   (.ret [(.rc (.cons (.v 0) (.cons (.v 1) (.cons (.v 2) (.cons (.v 3) (.cons (.v 4) .nil)))))), (.kb false), (.ki .i64 0)]))))
set_option maxHeartbeats 400000 in
theorem call_ok (s v t d tr : Int) (k ver due otr now : Int) (idle good : Bool) : Fun Try.prog 11 [tF, tO] [fwD ⟨s, v, t, d, tr⟩, opD ⟨k, ver, due, otr, now, idle, good⟩] [tF, tB, tI] [fwD (callX ⟨s, v, t, d, tr⟩ ⟨k, ver, due, otr, now, idle, good⟩), .bool (callXB ⟨s, v, t, d, tr⟩ ⟨k, ver, due, otr, now, idle, good⟩), I64d (callXE ⟨s, v, t, d, tr⟩ ⟨k, ver, due, otr, now, idle, good⟩)] := by
  refine fun_of_gen hP Try.func11 rfl (by decide) (v := vccall) (by kernel_rfl) ?_
  unfold vccall
  repeat' (first | with_reducible refine den_ite (fun h => ?_) (fun h => ?_) | with_reducible refine den_ev ?_ | with_reducible refine evs_nil ?_ | refine sch_call _ _ _ _ _ _ _ _ rfl ?_ | refine step_call _ _ _ _ _ _ _ _ rfl ?_ | refine can_call _ _ _ _ _ rfl ?_ | with_reducible refine den_ret ?_)
  all_goals (simp [VC.den, E.den, cmpB, arI, D.toI, D.toB, D.toL, D.len, List.map_cons, List.map_nil, List.getD_cons_zero, List.getD_cons_succ, List.cons_append, List.nil_append, flatD, I64d, fwD, opD] at *; simp [callX, callXB, callXE, *])
theorem call_call {es0 : List E} {n : Nat} {l : List Ev} {ρ : List D} {kk : List D → Prop} (s v t d tr : Int) (k ver due otr now : Int) (idle good : Bool) (ha : es0.map (·.den ρ) = [fwD ⟨s, v, t, d, tr⟩, opD ⟨k, ver, due, otr, now, idle, good⟩]) (hk : evsP Try.prog l (ρ ++ [I64d (callX ⟨s, v, t, d, tr⟩ ⟨k, ver, due, otr, now, idle, good⟩).s, I64d (callX ⟨s, v, t, d, tr⟩ ⟨k, ver, due, otr, now, idle, good⟩).v, I64d (callX ⟨s, v, t, d, tr⟩ ⟨k, ver, due, otr, now, idle, good⟩).t, I64d (callX ⟨s, v, t, d, tr⟩ ⟨k, ver, due, otr, now, idle, good⟩).d, I64d (callX ⟨s, v, t, d, tr⟩ ⟨k, ver, due, otr, now, idle, good⟩).tr, .bool (callXB ⟨s, v, t, d, tr⟩ ⟨k, ver, due, otr, now, idle, good⟩), I64d (callXE ⟨s, v, t, d, tr⟩ ⟨k, ver, due, otr, now, idle, good⟩)]) kk) : evsP Try.prog (.call 11 [tF, tO] es0 [tF, tB, tI] n :: l) ρ kk :=
  evs_call [I64d (callX ⟨s, v, t, d, tr⟩ ⟨k, ver, due, otr, now, idle, good⟩).s, I64d (callX ⟨s, v, t, d, tr⟩ ⟨k, ver, due, otr, now, idle, good⟩).v, I64d (callX ⟨s, v, t, d, tr⟩ ⟨k, ver, due, otr, now, idle, good⟩).t, I64d (callX ⟨s, v, t, d, tr⟩ ⟨k, ver, due, otr, now, idle, good⟩).d, I64d (callX ⟨s, v, t, d, tr⟩ ⟨k, ver, due, otr, now, idle, good⟩).tr, .bool (callXB ⟨s, v, t, d, tr⟩ ⟨k, ver, due, otr, now, idle, good⟩), I64d (callXE ⟨s, v, t, d, tr⟩ ⟨k, ver, due, otr, now, idle, good⟩)] rfl (call_ok s v t d tr k ver due otr now idle good) ha rfl hk
def vcex : VC := (.ev [(.call 13 [(.g [(.int .i64), (.int .i64), (.int .i64), (.int .i64), (.int .i64)]), (.c (.int .i64)), (.c (.int .i64)), (.c (.int .i64))] [(.rc (.cons (.ki .i64 0) (.cons (.ki .i64 0) (.cons (.ki .i64 0) (.cons (.ki .i64 0) (.cons (.ki .i64 0) .nil)))))), (.ki .i64 2), (.ki .i64 100), (.ki .i64 3)] [(.g [(.int .i64), (.int .i64), (.int .i64), (.int .i64), (.int .i64)]), (.c (.int .i64))] 0)]
 (.ev [(.call 13 [(.g [(.int .i64), (.int .i64), (.int .i64), (.int .i64), (.int .i64)]), (.c (.int .i64)), (.c (.int .i64)), (.c (.int .i64))] [(.rc (.cons (.v 0) (.cons (.v 1) (.cons (.v 2) (.cons (.v 3) (.cons (.v 4) .nil)))))), (.ki .i64 3), (.ki .i64 0), (.ki .i64 0)] [(.g [(.int .i64), (.int .i64), (.int .i64), (.int .i64), (.int .i64)]), (.c (.int .i64))] 6)]
  (.ev [(.call 14 [(.g [(.int .i64), (.int .i64), (.int .i64), (.int .i64), (.int .i64)]), (.c (.int .i64)), (.c .bool), (.c .bool)] [(.rc (.cons (.ki .i64 2) (.cons (.ki .i64 0) (.cons (.ki .i64 2) (.cons (.ki .i64 0) (.cons (.ki .i64 1) .nil)))))), (.ki .i64 5), (.kb true), (.kb false)] [(.g [(.int .i64), (.int .i64), (.int .i64), (.int .i64), (.int .i64)]), (.c .bool)] 12)]
   (.ev [(.call 14 [(.g [(.int .i64), (.int .i64), (.int .i64), (.int .i64), (.int .i64)]), (.c (.int .i64)), (.c .bool), (.c .bool)] [(.rc (.cons (.v 12) (.cons (.v 13) (.cons (.v 14) (.cons (.v 15) (.cons (.v 16) .nil)))))), (.ki .i64 5), (.kb true), (.kb false)] [(.g [(.int .i64), (.int .i64), (.int .i64), (.int .i64), (.int .i64)]), (.c .bool)] 18)]
    (.ev [(.call 17 [(.g [(.int .i64), (.int .i64), (.int .i64), (.int .i64), (.int .i64)])] [(.rc (.cons (.ki .i64 4) (.cons (.ki .i64 0) (.cons (.ki .i64 2) (.cons (.ki .i64 0) (.cons (.ki .i64 0) .nil))))))] [(.g [(.int .i64), (.int .i64), (.int .i64), (.int .i64), (.int .i64)]), (.c (.int .i64))] 24)]
     (.ev [(.call 13 [(.g [(.int .i64), (.int .i64), (.int .i64), (.int .i64), (.int .i64)]), (.c (.int .i64)), (.c (.int .i64)), (.c (.int .i64))] [(.rc (.cons (.ki .i64 5) (.cons (.ki .i64 2) (.cons (.ki .i64 2) (.cons (.ki .i64 0) (.cons (.ki .i64 0) .nil)))))), (.ki .i64 2), (.ki .i64 0), (.ki .i64 0)] [(.g [(.int .i64), (.int .i64), (.int .i64), (.int .i64), (.int .i64)]), (.c (.int .i64))] 30)]
      (.ev [(.call 13 [(.g [(.int .i64), (.int .i64), (.int .i64), (.int .i64), (.int .i64)]), (.c (.int .i64)), (.c (.int .i64)), (.c (.int .i64))] [(.rc (.cons (.v 18) (.cons (.v 19) (.cons (.v 20) (.cons (.v 21) (.cons (.v 22) .nil)))))), (.ki .i64 2), (.ki .i64 0), (.ki .i64 0)] [(.g [(.int .i64), (.int .i64), (.int .i64), (.int .i64), (.int .i64)]), (.c (.int .i64))] 36)]
       (.ite (.cmp .eql (.v 5) (.ki .i64 0))
        (.ite (.and (.cmp .eql (.v 0) (.ki .i64 1)) (.and (.cmp .eql (.v 1) (.ki .i64 0)) (.and (.cmp .eql (.v 2) (.ki .i64 2)) (.and (.cmp .eql (.v 3) (.ki .i64 100)) (.and (.cmp .eql (.v 4) (.ki .i64 3)) (.kb true))))))
         (.ite (.cmp .eql (.v 11) (.ki .i64 10))
          (.ev [(.call 8 [(.g [(.int .i64), (.int .i64), (.int .i64), (.int .i64), (.int .i64)])] [(.rc (.cons (.v 0) (.cons (.v 1) (.cons (.v 2) (.cons (.v 3) (.cons (.v 4) .nil))))))] [(.c (.int .i64))] 42)]
           (.ite (.cmp .eql (.v 42) (.ki .i64 0))
            (.ev [(.call 8 [(.g [(.int .i64), (.int .i64), (.int .i64), (.int .i64), (.int .i64)])] [(.rc (.cons (.v 0) (.cons (.ki .i64 2) (.cons (.v 2) (.cons (.v 3) (.cons (.v 4) .nil))))))] [(.c (.int .i64))] 43)]
             (.ite (.cmp .eql (.v 43) (.ki .i64 1))
              (.ite (.cmp .eql (.v 12) (.ki .i64 2))
               (.ite (.cmp .eql (.v 16) (.ki .i64 0))
                (.ite (.v 17)
                 (.ret [(.kb false)])
                 (.ite (.cmp .eql (.v 18) (.ki .i64 6))
                  (.ite (.v 23)
                   (.ite (.cmp .eql (.v 29) (.ki .i64 10))
                    (.ite (.cmp .eql (.v 35) (.ki .i64 9))
                     (.ret [(.cmp .eql (.v 41) (.ki .i64 0))])
                     (.ret [(.kb false)]))
                    (.ret [(.kb false)]))
                   (.ret [(.kb false)]))
                  (.ret [(.kb false)])))
                (.ret [(.kb false)]))
               (.ret [(.kb false)]))
              (.ret [(.kb false)])))
            (.ret [(.kb false)])))
          (.ret [(.kb false)]))
         (.ret [(.kb false)]))
        (.ret [(.kb false)])))))))))
set_option maxHeartbeats 400000 in
theorem ex_ok  : Fun Try.prog 10 [] [] [tB] [.bool true] := by
  refine fun_of_gen hP Try.func10 rfl (by decide) (v := vcex) (by kernel_rfl) ?_
  unfold vcex
  repeat' (first | with_reducible refine den_ev ?_ | with_reducible refine evs_nil ?_ | refine sch_call _ _ _ _ _ _ _ _ rfl ?_ | refine step_call _ _ _ _ _ _ _ _ rfl ?_ | refine can_call _ _ _ _ _ rfl ?_ | refine fval_call _ _ _ _ _ rfl ?_ | refine fval_call 1 2 2 100 3 rfl ?_ | refine den_ite (fun _ => ?_) (fun h => absurd h (by decide +kernel)) | refine den_ite (fun h => absurd h (by decide +kernel)) (fun _ => ?_) | exact den_ret rfl)
theorem ex_call {es0 : List E} {n : Nat} {l : List Ev} {ρ : List D} {kk : List D → Prop}  (ha : es0.map (·.den ρ) = []) (hk : evsP Try.prog l (ρ ++ [.bool true]) kk) : evsP Try.prog (.call 10 [] es0 [tB] n :: l) ρ kk :=
  evs_call [.bool true] rfl (ex_ok ) ha rfl hk
end Go.Proofs.Ytokjokbbegcceaa
