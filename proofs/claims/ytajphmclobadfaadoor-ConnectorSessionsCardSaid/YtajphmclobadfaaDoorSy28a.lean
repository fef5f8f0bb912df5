/-
  The functions of layer 28: their conditions (printed by a program).
-/
import Derived.Test.YtajphmclobadfaaDoorFrame
import Derived.Test.YtajphmclobadfaaDoorSyO4
set_option maxRecDepth 100000
set_option linter.unusedSimpArgs false
set_option linter.unusedVariables false
namespace Go.Proofs.YtajphmclobadfaaDoor
open Go.Proofs.YtajphmclobadfaaDoor.Sy Go.RowKit Go.WideShapes Go.ChangeShapes Go.ChangeAt
theorem hP : NoNum Tryd.prog := by unfold NoNum; kernel_rfl
def sgs : Nat → Option (List TS × List TS) := fun _ => none
def tabE : E := (.cons (.rc (.cons (.ki .i64 0) (.cons (.ki .i64 0) (.cons (.ki .i64 0) (.cons (.ki .i64 0) (.cons (.ki .i64 0) (.cons (.ki .i64 0) .nil))))))) (.cons (.rc (.cons (.ki .i64 0) (.cons (.ki .i64 0) (.cons (.ki .i64 1) (.cons (.ki .i64 1) (.cons (.ki .i64 0) (.cons (.ki .i64 0) .nil))))))) (.cons (.rc (.cons (.ki .i64 0) (.cons (.ki .i64 1) (.cons (.ki .i64 0) (.cons (.ki .i64 0) (.cons (.ki .i64 1) (.cons (.ki .i64 0) .nil))))))) (.cons (.rc (.cons (.ki .i64 4) (.cons (.ki .i64 0) (.cons (.ki .i64 0) (.cons (.ki .i64 0) (.cons (.ki .i64 2) (.cons (.ki .i64 3) .nil))))))) (.cons (.rc (.cons (.ki .i64 24) (.cons (.ki .i64 0) (.cons (.ki .i64 0) (.cons (.ki .i64 0) (.cons (.ki .i64 0) (.cons (.ki .i64 5) .nil))))))) (.cons (.rc (.cons (.ki .i64 8) (.cons (.ki .i64 0) (.cons (.ki .i64 0) (.cons (.ki .i64 0) (.cons (.ki .i64 0) (.cons (.ki .i64 4) .nil))))))) (.cons (.rc (.cons (.ki .i64 16) (.cons (.ki .i64 0) (.cons (.ki .i64 0) (.cons (.ki .i64 0) (.cons (.ki .i64 0) (.cons (.ki .i64 3) .nil))))))) (.cons (.rc (.cons (.ki .i64 0) (.cons (.ki .i64 0) (.cons (.ki .i64 8) (.cons (.ki .i64 8) (.cons (.ki .i64 0) (.cons (.ki .i64 0) .nil))))))) (.cons (.rc (.cons (.ki .i64 0) (.cons (.ki .i64 8) (.cons (.ki .i64 0) (.cons (.ki .i64 0) (.cons (.ki .i64 8) (.cons (.ki .i64 0) .nil))))))) (.cons (.rc (.cons (.ki .i64 2) (.cons (.ki .i64 0) (.cons (.ki .i64 0) (.cons (.ki .i64 2) (.cons (.ki .i64 0) (.cons (.ki .i64 0) .nil))))))) (.cons (.rc (.cons (.ki .i64 0) (.cons (.ki .i64 2) (.cons (.ki .i64 0) (.cons (.ki .i64 0) (.cons (.ki .i64 2) (.cons (.ki .i64 0) .nil))))))) (.cons (.rc (.cons (.ki .i64 0) (.cons (.ki .i64 0) (.cons (.ki .i64 4) (.cons (.ki .i64 4) (.cons (.ki .i64 0) (.cons (.ki .i64 (-1)) .nil))))))) (.cons (.rc (.cons (.ki .i64 0) (.cons (.ki .i64 4) (.cons (.ki .i64 0) (.cons (.ki .i64 0) (.cons (.ki .i64 4) (.cons (.ki .i64 (-1)) .nil))))))) .nil)))))))))))))
abbrev tabS : List Sh := [.int .i64, .int .i64, .int .i64, .int .i64, .int .i64, .int .i64]
def gls : Globs := [(0, tabS, tabE)]
def vcrsess : VC := (.ite (.cmp .eql (.v 0) (.ki .i64 3))
 (.ret [(.kb true)])
 (.ite (.cmp .eql (.v 0) (.ki .i64 4))
  (.ret [(.kb true)])
  (.ret [(.cmp .eql (.v 0) (.ki .i64 5))])))
theorem rsess_ent : EntOK Tryd.prog gls ⟨20, [(.c (.int .i64))], [(.c .bool)], vcrsess⟩ :=
  ent_of_gen hP Tryd.func20 rfl (by decide) (sg := sgs) (by kernel_rfl)
def vcrbase : VC := (.ite (.cmp .neq (.v 4) (.ki .i64 0))
 (.ret [(.ki .i64 7)])
 (.ite (.v 3)
  (.ret [(.ki .i64 8)])
  (.ite (.v 1)
   (.ret [(.ki .i64 2)])
   (.ite (.v 2)
    (.ret [(.ki .i64 6)])
    (.ret [(.ki .i64 1)])))))
theorem rbase_ent : EntOK Tryd.prog gls ⟨21, [(.g [(.int .i64), .bool, .bool, .bool, (.int .i64)])], [(.c (.int .i64))], vcrbase⟩ :=
  ent_of_gen hP Tryd.func21 rfl (by decide) (sg := sgs) (by kernel_rfl)
def vcsess : VC := (.ite (.cmp .eql (.v 0) (.ki .i64 3))
 (.ret [(.kb true)])
 (.ite (.cmp .eql (.v 0) (.ki .i64 4))
  (.ret [(.kb true)])
  (.ret [(.cmp .eql (.v 0) (.ki .i64 5))])))
theorem sess_ent : EntOK Tryd.prog gls ⟨16, [(.c (.int .i64))], [(.c .bool)], vcsess⟩ :=
  ent_of_gen hP Tryd.func16 rfl (by decide) (sg := sgs) (by kernel_rfl)
def vcbase : VC := (.ite (.cmp .neq (.v 4) (.ki .i64 0))
 (.ret [(.ki .i64 7)])
 (.ite (.v 3)
  (.ret [(.ki .i64 8)])
  (.ite (.v 1)
   (.ret [(.ki .i64 2)])
   (.ite (.v 2)
    (.ret [(.ki .i64 6)])
    (.ret [(.ki .i64 1)])))))
theorem base_ent : EntOK Tryd.prog gls ⟨17, [(.g [(.int .i64), .bool, .bool, .bool, (.int .i64)])], [(.c (.int .i64))], vcbase⟩ :=
  ent_of_gen hP Tryd.func17 rfl (by decide) (sg := sgs) (by kernel_rfl)
def vclsess : VC := (.ite (.cmp .eql (.v 0) (.ki .i64 3))
 (.ret [(.kb true)])
 (.ite (.cmp .eql (.v 0) (.ki .i64 4))
  (.ret [(.kb true)])
  (.ret [(.cmp .eql (.v 0) (.ki .i64 5))])))
theorem lsess_ent : EntOK Tryd.prog gls ⟨12, [(.c (.int .i64))], [(.c .bool)], vclsess⟩ :=
  ent_of_gen hP Tryd.func12 rfl (by decide) (sg := sgs) (by kernel_rfl)
def vccharges : VC := (.ret [(.cmp .eql (.v 0) (.ki .i64 3))])
theorem charges_ent : EntOK Tryd.prog gls ⟨13, [(.g [(.int .i64), .bool, .bool, .bool, (.int .i64)])], [(.c .bool)], vccharges⟩ :=
  ent_of_gen hP Tryd.func13 rfl (by decide) (sg := sgs) (by kernel_rfl)
def vcflags : VC := (.ite (.v 1)
 (.ite (.v 2)
  (.ite (.v 3)
   (.ite (.cmp .neq (.v 4) (.ki .i64 0))
    (.ret [(.ki .i64 15)])
    (.ret [(.ki .i64 7)]))
   (.ite (.cmp .neq (.v 4) (.ki .i64 0))
    (.ret [(.ki .i64 11)])
    (.ret [(.ki .i64 3)])))
  (.ite (.v 3)
   (.ite (.cmp .neq (.v 4) (.ki .i64 0))
    (.ret [(.ki .i64 13)])
    (.ret [(.ki .i64 5)]))
   (.ite (.cmp .neq (.v 4) (.ki .i64 0))
    (.ret [(.ki .i64 9)])
    (.ret [(.ki .i64 1)]))))
 (.ite (.v 2)
  (.ite (.v 3)
   (.ite (.cmp .neq (.v 4) (.ki .i64 0))
    (.ret [(.ki .i64 14)])
    (.ret [(.ki .i64 6)]))
   (.ite (.cmp .neq (.v 4) (.ki .i64 0))
    (.ret [(.ki .i64 10)])
    (.ret [(.ki .i64 2)])))
  (.ite (.v 3)
   (.ite (.cmp .neq (.v 4) (.ki .i64 0))
    (.ret [(.ki .i64 12)])
    (.ret [(.ki .i64 4)]))
   (.ite (.cmp .neq (.v 4) (.ki .i64 0))
    (.ret [(.ki .i64 8)])
    (.ret [(.ki .i64 0)])))))
theorem flags_ent : EntOK Tryd.prog gls ⟨14, [(.g [(.int .i64), .bool, .bool, .bool, (.int .i64)])], [(.c (.int .i64))], vcflags⟩ :=
  ent_of_gen hP Tryd.func14 rfl (by decide) (sg := sgs) (by kernel_rfl)
def vcwflags : VC := (.ite (.cmp .eql (.ar .and .i64 (.v 5) (.ki .i64 8)) (.ki .i64 0))
 (.ret [(.rc (.cons (.v 0) (.cons (.cmp .neq (.ar .and .i64 (.v 5) (.ki .i64 1)) (.ki .i64 0)) (.cons (.cmp .neq (.ar .and .i64 (.v 5) (.ki .i64 2)) (.ki .i64 0)) (.cons (.cmp .neq (.ar .and .i64 (.v 5) (.ki .i64 4)) (.ki .i64 0)) (.cons (.ki .i64 0) .nil))))))])
 (.ite (.cmp .eql (.v 4) (.ki .i64 0))
  (.ret [(.rc (.cons (.v 0) (.cons (.cmp .neq (.ar .and .i64 (.v 5) (.ki .i64 1)) (.ki .i64 0)) (.cons (.cmp .neq (.ar .and .i64 (.v 5) (.ki .i64 2)) (.ki .i64 0)) (.cons (.cmp .neq (.ar .and .i64 (.v 5) (.ki .i64 4)) (.ki .i64 0)) (.cons (.ki .i64 1) .nil))))))])
  (.ret [(.rc (.cons (.v 0) (.cons (.cmp .neq (.ar .and .i64 (.v 5) (.ki .i64 1)) (.ki .i64 0)) (.cons (.cmp .neq (.ar .and .i64 (.v 5) (.ki .i64 2)) (.ki .i64 0)) (.cons (.cmp .neq (.ar .and .i64 (.v 5) (.ki .i64 4)) (.ki .i64 0)) (.cons (.v 4) .nil))))))])))
theorem wflags_ent : EntOK Tryd.prog gls ⟨15, [(.g [(.int .i64), .bool, .bool, .bool, (.int .i64)]), (.c (.int .i64))], [(.g [(.int .i64), .bool, .bool, .bool, (.int .i64)])], vcwflags⟩ :=
  ent_of_gen hP Tryd.func15 rfl (by decide) (sg := sgs) (by kernel_rfl)
def vcvalid : VC := (.ite (.cmp .lss (.v 4) (.ki .i64 0))
 (.ret [(.ki .i64 1)])
 (.ite (.cmp .gtr (.v 4) (.ki .i64 1000))
  (.ret [(.ki .i64 1)])
  (.cal 16 [(.c (.int .i64))] [(.v 0)] [(.c .bool)] 5
   (.ite (.v 5)
    (.ite (.v 1)
     (.ite (.v 2)
      (.ret [(.ki .i64 1)])
      (.ite (.cmp .neq (.v 4) (.ki .i64 0))
       (.ret [(.ki .i64 1)])
       (.ret [(.ki .i64 0)])))
     (.ret [(.ki .i64 1)]))
    (.ev [(.call 17 [(.g [(.int .i64), .bool, .bool, .bool, (.int .i64)])] [(.rc (.cons (.v 0) (.cons (.v 1) (.cons (.v 2) (.cons (.v 3) (.cons (.v 4) .nil))))))] [(.c (.int .i64))] 6)]
     (.ite (.cmp .neq (.v 0) (.v 6))
      (.ret [(.ki .i64 1)])
      (.ret [(.ki .i64 0)])))))))
theorem valid_ent : EntOK Tryd.prog gls ⟨10, [(.g [(.int .i64), .bool, .bool, .bool, (.int .i64)])], [(.c (.int .i64))], vcvalid⟩ :=
  ent_of_gen hP Tryd.func10 rfl (by decide) (sg := sgs) (by kernel_rfl)
def vcrvalid : VC := (.ite (.cmp .lss (.v 4) (.ki .i64 0))
 (.ret [(.ki .i64 1)])
 (.ite (.cmp .gtr (.v 4) (.ki .i64 1000))
  (.ret [(.ki .i64 1)])
  (.cal 20 [(.c (.int .i64))] [(.v 0)] [(.c .bool)] 5
   (.ite (.v 5)
    (.ite (.v 1)
     (.ite (.v 2)
      (.ret [(.ki .i64 1)])
      (.ite (.cmp .eql (.v 4) (.ki .i64 0))
       (.ret [(.ki .i64 0)])
       (.ret [(.ki .i64 1)])))
     (.ret [(.ki .i64 1)]))
    (.ev [(.call 21 [(.g [(.int .i64), .bool, .bool, .bool, (.int .i64)])] [(.rc (.cons (.v 0) (.cons (.v 1) (.cons (.v 2) (.cons (.v 3) (.cons (.v 4) .nil))))))] [(.c (.int .i64))] 6)]
     (.ite (.cmp .neq (.v 0) (.v 6))
      (.ret [(.ki .i64 1)])
      (.ret [(.ki .i64 0)])))))))
theorem rvalid_ent : EntOK Tryd.prog gls ⟨11, [(.g [(.int .i64), .bool, .bool, .bool, (.int .i64)])], [(.c (.int .i64))], vcrvalid⟩ :=
  ent_of_gen hP Tryd.func11 rfl (by decide) (sg := sgs) (by kernel_rfl)
def vcperm : VC := (.ite (.cmp .eql (.v 5) (.ki .i64 1))
 (.ret [(.not (.v 1))])
 (.ite (.cmp .eql (.v 5) (.ki .i64 2))
  (.ret [(.v 1)])
  (.ite (.cmp .eql (.v 5) (.ki .i64 3))
   (.ret [(.cmp .eql (.v 0) (.ki .i64 2))])
   (.ite (.cmp .eql (.v 5) (.ki .i64 4))
    (.ite (.cmp .eql (.v 0) (.ki .i64 3))
     (.ret [(.kb true)])
     (.ret [(.cmp .eql (.v 0) (.ki .i64 4))]))
    (.ite (.cmp .eql (.v 5) (.ki .i64 5))
     (.ret [(.cmp .eql (.v 0) (.ki .i64 3))])
     (.ite (.cmp .eql (.v 5) (.ki .i64 6))
      (.ret [(.cmp .eql (.v 0) (.ki .i64 4))])
      (.ite (.cmp .eql (.v 5) (.ki .i64 7))
       (.ret [(.cmp .eql (.v 4) (.ki .i64 0))])
       (.ite (.cmp .eql (.v 5) (.ki .i64 8))
        (.ret [(.cmp .neq (.v 4) (.ki .i64 0))])
        (.ite (.cmp .eql (.v 5) (.ki .i64 9))
         (.ret [(.cmp .eql (.v 0) (.ki .i64 1))])
         (.ite (.cmp .eql (.v 5) (.ki .i64 10))
          (.ret [(.v 2)])
          (.ite (.cmp .eql (.v 5) (.ki .i64 11))
           (.ret [(.not (.v 3))])
           (.ret [(.v 3)]))))))))))))
theorem perm_ent : EntOK Tryd.prog gls ⟨18, [(.g [(.int .i64), .bool, .bool, .bool, (.int .i64)]), (.c (.int .i64))], [(.c .bool)], vcperm⟩ :=
  ent_of_gen hP Tryd.func18 rfl (by decide) (sg := sgs) (by kernel_rfl)
def vcafter : VC := (.ite (.cmp .eql (.v 5) (.ki .i64 3))
 (.ret [(.rc (.cons (.ki .i64 3) (.cons (.v 1) (.cons (.kb false) (.cons (.v 3) (.cons (.v 4) .nil))))))])
 (.ite (.cmp .eql (.v 5) (.ki .i64 4))
  (.ret [(.rc (.cons (.ki .i64 5) (.cons (.v 1) (.cons (.v 2) (.cons (.v 3) (.cons (.v 4) .nil))))))])
  (.ite (.cmp .eql (.v 5) (.ki .i64 5))
   (.ret [(.rc (.cons (.ki .i64 4) (.cons (.v 1) (.cons (.v 2) (.cons (.v 3) (.cons (.v 4) .nil))))))])
   (.ite (.cmp .eql (.v 5) (.ki .i64 6))
    (.ret [(.rc (.cons (.ki .i64 3) (.cons (.v 1) (.cons (.v 2) (.cons (.v 3) (.cons (.v 4) .nil))))))])
    (.ite (.cmp .eql (.v 5) (.ki .i64 11))
     (.cal 20 [(.c (.int .i64))] [(.v 0)] [(.c .bool)] 6
      (.ite (.v 6)
       (.ret [(.rc (.cons (.v 0) (.cons (.v 1) (.cons (.v 2) (.cons (.cmp .eql (.v 5) (.ki .i64 11)) (.cons (.v 4) .nil))))))])
       (.cal 21 [(.g [(.int .i64), .bool, .bool, .bool, (.int .i64)])] [(.rc (.cons (.v 0) (.cons (.v 1) (.cons (.v 2) (.cons (.cmp .eql (.v 5) (.ki .i64 11)) (.cons (.v 4) .nil))))))] [(.c (.int .i64))] 7
        (.ret [(.rc (.cons (.v 7) (.cons (.v 1) (.cons (.v 2) (.cons (.cmp .eql (.v 5) (.ki .i64 11)) (.cons (.v 4) .nil))))))]))))
     (.ite (.cmp .eql (.v 5) (.ki .i64 12))
      (.cal 20 [(.c (.int .i64))] [(.v 0)] [(.c .bool)] 6
       (.ite (.v 6)
        (.ret [(.rc (.cons (.v 0) (.cons (.v 1) (.cons (.v 2) (.cons (.cmp .eql (.v 5) (.ki .i64 11)) (.cons (.v 4) .nil))))))])
        (.cal 21 [(.g [(.int .i64), .bool, .bool, .bool, (.int .i64)])] [(.rc (.cons (.v 0) (.cons (.v 1) (.cons (.v 2) (.cons (.cmp .eql (.v 5) (.ki .i64 11)) (.cons (.v 4) .nil))))))] [(.c (.int .i64))] 7
         (.ret [(.rc (.cons (.v 7) (.cons (.v 1) (.cons (.v 2) (.cons (.cmp .eql (.v 5) (.ki .i64 11)) (.cons (.v 4) .nil))))))]))))
      (.ite (.cmp .eql (.v 5) (.ki .i64 1))
       (.cal 21 [(.g [(.int .i64), .bool, .bool, .bool, (.int .i64)])] [(.rc (.cons (.v 0) (.cons (.cmp .eql (.v 5) (.ki .i64 1)) (.cons (.v 2) (.cons (.v 3) (.cons (.v 4) .nil))))))] [(.c (.int .i64))] 6
        (.ret [(.rc (.cons (.v 6) (.cons (.cmp .eql (.v 5) (.ki .i64 1)) (.cons (.v 2) (.cons (.v 3) (.cons (.v 4) .nil))))))]))
       (.ite (.cmp .eql (.v 5) (.ki .i64 2))
        (.cal 21 [(.g [(.int .i64), .bool, .bool, .bool, (.int .i64)])] [(.rc (.cons (.v 0) (.cons (.cmp .eql (.v 5) (.ki .i64 1)) (.cons (.v 2) (.cons (.v 3) (.cons (.v 4) .nil))))))] [(.c (.int .i64))] 6
         (.ret [(.rc (.cons (.v 6) (.cons (.cmp .eql (.v 5) (.ki .i64 1)) (.cons (.v 2) (.cons (.v 3) (.cons (.v 4) .nil))))))]))
        (.ite (.cmp .eql (.v 5) (.ki .i64 7))
         (.cal 21 [(.g [(.int .i64), .bool, .bool, .bool, (.int .i64)])] [(.rc (.cons (.v 0) (.cons (.v 1) (.cons (.v 2) (.cons (.v 3) (.cons (.ki .i64 1) .nil))))))] [(.c (.int .i64))] 6
          (.ret [(.rc (.cons (.v 6) (.cons (.v 1) (.cons (.v 2) (.cons (.v 3) (.cons (.ki .i64 1) .nil))))))]))
         (.ite (.cmp .eql (.v 5) (.ki .i64 8))
          (.cal 21 [(.g [(.int .i64), .bool, .bool, .bool, (.int .i64)])] [(.rc (.cons (.v 0) (.cons (.v 1) (.cons (.v 2) (.cons (.v 3) (.cons (.ki .i64 0) .nil))))))] [(.c (.int .i64))] 6
           (.ret [(.rc (.cons (.v 6) (.cons (.v 1) (.cons (.v 2) (.cons (.v 3) (.cons (.ki .i64 0) .nil))))))]))
          (.ite (.cmp .eql (.v 5) (.ki .i64 9))
           (.cal 21 [(.g [(.int .i64), .bool, .bool, .bool, (.int .i64)])] [(.rc (.cons (.v 0) (.cons (.v 1) (.cons (.cmp .eql (.v 5) (.ki .i64 9)) (.cons (.v 3) (.cons (.v 4) .nil))))))] [(.c (.int .i64))] 6
            (.ret [(.rc (.cons (.v 6) (.cons (.v 1) (.cons (.cmp .eql (.v 5) (.ki .i64 9)) (.cons (.v 3) (.cons (.v 4) .nil))))))]))
           (.ite (.cmp .eql (.v 5) (.ki .i64 10))
            (.cal 21 [(.g [(.int .i64), .bool, .bool, .bool, (.int .i64)])] [(.rc (.cons (.v 0) (.cons (.v 1) (.cons (.cmp .eql (.v 5) (.ki .i64 9)) (.cons (.v 3) (.cons (.v 4) .nil))))))] [(.c (.int .i64))] 6
             (.ret [(.rc (.cons (.v 6) (.cons (.v 1) (.cons (.cmp .eql (.v 5) (.ki .i64 9)) (.cons (.v 3) (.cons (.v 4) .nil))))))]))
            (.cal 21 [(.g [(.int .i64), .bool, .bool, .bool, (.int .i64)])] [(.rc (.cons (.v 0) (.cons (.v 1) (.cons (.v 2) (.cons (.v 3) (.cons (.v 4) .nil))))))] [(.c (.int .i64))] 6
             (.ret [(.rc (.cons (.v 6) (.cons (.v 1) (.cons (.v 2) (.cons (.v 3) (.cons (.v 4) .nil))))))]))))))))))))))
theorem after_ent : EntOK Tryd.prog gls ⟨19, [(.g [(.int .i64), .bool, .bool, .bool, (.int .i64)]), (.c (.int .i64))], [(.g [(.int .i64), .bool, .bool, .bool, (.int .i64)])], vcafter⟩ :=
  ent_of_gen hP Tryd.func19 rfl (by decide) (sg := sgs) (by kernel_rfl)
def vcnext : VC := (.cal 10 [(.g [(.int .i64), .bool, .bool, .bool, (.int .i64)])] [(.rc (.cons (.v 0) (.cons (.v 1) (.cons (.v 2) (.cons (.v 3) (.cons (.v 4) .nil))))))] [(.c (.int .i64))] 6
 (.ite (.cmp .neq (.v 6) (.ki .i64 0))
  (.ret [(.rc (.cons (.v 0) (.cons (.v 1) (.cons (.v 2) (.cons (.v 3) (.cons (.v 4) .nil)))))), (.v 6)])
  (.ite (.cmp .lss (.v 5) (.ki .i64 1))
   (.ret [(.rc (.cons (.v 0) (.cons (.v 1) (.cons (.v 2) (.cons (.v 3) (.cons (.v 4) .nil)))))), (.ki .i64 2)])
   (.ite (.cmp .gtr (.v 5) (.ki .i64 12))
    (.ret [(.rc (.cons (.v 0) (.cons (.v 1) (.cons (.v 2) (.cons (.v 3) (.cons (.v 4) .nil)))))), (.ki .i64 2)])
    (.ite (.cmp .eql (.v 5) (.ki .i64 3))
     (.ite (.cmp .neq (.v 4) (.ki .i64 0))
      (.ret [(.rc (.cons (.v 0) (.cons (.v 1) (.cons (.v 2) (.cons (.v 3) (.cons (.v 4) .nil)))))), (.ki .i64 17)])
      (.ev [(.ob (.cmp .geq (.v 5) (.ki .i64 0))), (.ob (.cmp .lss (.v 5) (.ki .i64 13)))]
       (.cal 14 [(.g [(.int .i64), .bool, .bool, .bool, (.int .i64)])] [(.rc (.cons (.v 0) (.cons (.v 1) (.cons (.v 2) (.cons (.v 3) (.cons (.v 4) .nil))))))] [(.c (.int .i64))] 7
        (.ite (.cmp .neq (.cell (.get tabE (.v 5)) 0) (.ki .i64 0))
         (.ite (.cmp .eql (.ar .and .i64 (.shf .shr .i64 (.cell (.get tabE (.v 5)) 0) (.conv .u64 (.v 0))) (.ki .i64 1)) (.ki .i64 0))
          (.ret [(.rc (.cons (.v 0) (.cons (.v 1) (.cons (.v 2) (.cons (.v 3) (.cons (.v 4) .nil)))))), (.ki .i64 10)])
          (.ite (.cmp .neq (.ar .and .i64 (.v 7) (.cell (.get tabE (.v 5)) 1)) (.cell (.get tabE (.v 5)) 1))
           (.ret [(.rc (.cons (.v 0) (.cons (.v 1) (.cons (.v 2) (.cons (.v 3) (.cons (.v 4) .nil)))))), (.ki .i64 10)])
           (.ite (.cmp .neq (.ar .and .i64 (.v 7) (.cell (.get tabE (.v 5)) 2)) (.ki .i64 0))
            (.ret [(.rc (.cons (.v 0) (.cons (.v 1) (.cons (.v 2) (.cons (.v 3) (.cons (.v 4) .nil)))))), (.ki .i64 10)])
            (.cal 15 [(.g [(.int .i64), .bool, .bool, .bool, (.int .i64)]), (.c (.int .i64))] [(.rc (.cons (.v 0) (.cons (.v 1) (.cons (.v 2) (.cons (.v 3) (.cons (.v 4) .nil)))))), (.ar .or .i64 (.ar .andNot .i64 (.v 7) (.cell (.get tabE (.v 5)) 4)) (.cell (.get tabE (.v 5)) 3))] [(.g [(.int .i64), .bool, .bool, .bool, (.int .i64)])] 8
             (.ite (.cmp .eql (.cell (.get tabE (.v 5)) 5) (.ki .i64 (-1)))
              (.cal 16 [(.c (.int .i64))] [(.v 0)] [(.c .bool)] 13
               (.ite (.v 13)
                (.ret [(.rc (.cons (.v 8) (.cons (.v 9) (.cons (.v 10) (.cons (.v 11) (.cons (.v 12) .nil)))))), (.ki .i64 0)])
                (.cal 17 [(.g [(.int .i64), .bool, .bool, .bool, (.int .i64)])] [(.rc (.cons (.v 8) (.cons (.v 9) (.cons (.v 10) (.cons (.v 11) (.cons (.v 12) .nil))))))] [(.c (.int .i64))] 14
                 (.ret [(.rc (.cons (.v 14) (.cons (.v 9) (.cons (.v 10) (.cons (.v 11) (.cons (.v 12) .nil)))))), (.ki .i64 0)]))))
              (.ite (.cmp .eql (.cell (.get tabE (.v 5)) 5) (.ki .i64 0))
               (.cal 17 [(.g [(.int .i64), .bool, .bool, .bool, (.int .i64)])] [(.rc (.cons (.v 8) (.cons (.v 9) (.cons (.v 10) (.cons (.v 11) (.cons (.v 12) .nil))))))] [(.c (.int .i64))] 13
                (.ret [(.rc (.cons (.v 13) (.cons (.v 9) (.cons (.v 10) (.cons (.v 11) (.cons (.v 12) .nil)))))), (.ki .i64 0)]))
               (.ret [(.rc (.cons (.cell (.get tabE (.v 5)) 5) (.cons (.v 9) (.cons (.v 10) (.cons (.v 11) (.cons (.v 12) .nil)))))), (.ki .i64 0)])))))))
         (.ite (.cmp .neq (.ar .and .i64 (.v 7) (.cell (.get tabE (.v 5)) 1)) (.cell (.get tabE (.v 5)) 1))
          (.ret [(.rc (.cons (.v 0) (.cons (.v 1) (.cons (.v 2) (.cons (.v 3) (.cons (.v 4) .nil)))))), (.ki .i64 10)])
          (.ite (.cmp .neq (.ar .and .i64 (.v 7) (.cell (.get tabE (.v 5)) 2)) (.ki .i64 0))
           (.ret [(.rc (.cons (.v 0) (.cons (.v 1) (.cons (.v 2) (.cons (.v 3) (.cons (.v 4) .nil)))))), (.ki .i64 10)])
           (.cal 15 [(.g [(.int .i64), .bool, .bool, .bool, (.int .i64)]), (.c (.int .i64))] [(.rc (.cons (.v 0) (.cons (.v 1) (.cons (.v 2) (.cons (.v 3) (.cons (.v 4) .nil)))))), (.ar .or .i64 (.ar .andNot .i64 (.v 7) (.cell (.get tabE (.v 5)) 4)) (.cell (.get tabE (.v 5)) 3))] [(.g [(.int .i64), .bool, .bool, .bool, (.int .i64)])] 8
            (.ite (.cmp .eql (.cell (.get tabE (.v 5)) 5) (.ki .i64 (-1)))
             (.cal 16 [(.c (.int .i64))] [(.v 0)] [(.c .bool)] 13
              (.ite (.v 13)
               (.ret [(.rc (.cons (.v 8) (.cons (.v 9) (.cons (.v 10) (.cons (.v 11) (.cons (.v 12) .nil)))))), (.ki .i64 0)])
               (.cal 17 [(.g [(.int .i64), .bool, .bool, .bool, (.int .i64)])] [(.rc (.cons (.v 8) (.cons (.v 9) (.cons (.v 10) (.cons (.v 11) (.cons (.v 12) .nil))))))] [(.c (.int .i64))] 14
                (.ret [(.rc (.cons (.v 14) (.cons (.v 9) (.cons (.v 10) (.cons (.v 11) (.cons (.v 12) .nil)))))), (.ki .i64 0)]))))
             (.ite (.cmp .eql (.cell (.get tabE (.v 5)) 5) (.ki .i64 0))
              (.cal 17 [(.g [(.int .i64), .bool, .bool, .bool, (.int .i64)])] [(.rc (.cons (.v 8) (.cons (.v 9) (.cons (.v 10) (.cons (.v 11) (.cons (.v 12) .nil))))))] [(.c (.int .i64))] 13
               (.ret [(.rc (.cons (.v 13) (.cons (.v 9) (.cons (.v 10) (.cons (.v 11) (.cons (.v 12) .nil)))))), (.ki .i64 0)]))
              (.ret [(.rc (.cons (.cell (.get tabE (.v 5)) 5) (.cons (.v 9) (.cons (.v 10) (.cons (.v 11) (.cons (.v 12) .nil)))))), (.ki .i64 0)]))))))))))
     (.ev [(.ob (.cmp .geq (.v 5) (.ki .i64 0))), (.ob (.cmp .lss (.v 5) (.ki .i64 13)))]
      (.cal 14 [(.g [(.int .i64), .bool, .bool, .bool, (.int .i64)])] [(.rc (.cons (.v 0) (.cons (.v 1) (.cons (.v 2) (.cons (.v 3) (.cons (.v 4) .nil))))))] [(.c (.int .i64))] 7
       (.ite (.cmp .neq (.cell (.get tabE (.v 5)) 0) (.ki .i64 0))
        (.ite (.cmp .eql (.ar .and .i64 (.shf .shr .i64 (.cell (.get tabE (.v 5)) 0) (.conv .u64 (.v 0))) (.ki .i64 1)) (.ki .i64 0))
         (.ret [(.rc (.cons (.v 0) (.cons (.v 1) (.cons (.v 2) (.cons (.v 3) (.cons (.v 4) .nil)))))), (.ki .i64 10)])
         (.ite (.cmp .neq (.ar .and .i64 (.v 7) (.cell (.get tabE (.v 5)) 1)) (.cell (.get tabE (.v 5)) 1))
          (.ret [(.rc (.cons (.v 0) (.cons (.v 1) (.cons (.v 2) (.cons (.v 3) (.cons (.v 4) .nil)))))), (.ki .i64 10)])
          (.ite (.cmp .neq (.ar .and .i64 (.v 7) (.cell (.get tabE (.v 5)) 2)) (.ki .i64 0))
           (.ret [(.rc (.cons (.v 0) (.cons (.v 1) (.cons (.v 2) (.cons (.v 3) (.cons (.v 4) .nil)))))), (.ki .i64 10)])
           (.cal 15 [(.g [(.int .i64), .bool, .bool, .bool, (.int .i64)]), (.c (.int .i64))] [(.rc (.cons (.v 0) (.cons (.v 1) (.cons (.v 2) (.cons (.v 3) (.cons (.v 4) .nil)))))), (.ar .or .i64 (.ar .andNot .i64 (.v 7) (.cell (.get tabE (.v 5)) 4)) (.cell (.get tabE (.v 5)) 3))] [(.g [(.int .i64), .bool, .bool, .bool, (.int .i64)])] 8
            (.ite (.cmp .eql (.cell (.get tabE (.v 5)) 5) (.ki .i64 (-1)))
             (.cal 16 [(.c (.int .i64))] [(.v 0)] [(.c .bool)] 13
              (.ite (.v 13)
               (.ret [(.rc (.cons (.v 8) (.cons (.v 9) (.cons (.v 10) (.cons (.v 11) (.cons (.v 12) .nil)))))), (.ki .i64 0)])
               (.cal 17 [(.g [(.int .i64), .bool, .bool, .bool, (.int .i64)])] [(.rc (.cons (.v 8) (.cons (.v 9) (.cons (.v 10) (.cons (.v 11) (.cons (.v 12) .nil))))))] [(.c (.int .i64))] 14
                (.ret [(.rc (.cons (.v 14) (.cons (.v 9) (.cons (.v 10) (.cons (.v 11) (.cons (.v 12) .nil)))))), (.ki .i64 0)]))))
             (.ite (.cmp .eql (.cell (.get tabE (.v 5)) 5) (.ki .i64 0))
              (.cal 17 [(.g [(.int .i64), .bool, .bool, .bool, (.int .i64)])] [(.rc (.cons (.v 8) (.cons (.v 9) (.cons (.v 10) (.cons (.v 11) (.cons (.v 12) .nil))))))] [(.c (.int .i64))] 13
               (.ret [(.rc (.cons (.v 13) (.cons (.v 9) (.cons (.v 10) (.cons (.v 11) (.cons (.v 12) .nil)))))), (.ki .i64 0)]))
              (.ret [(.rc (.cons (.cell (.get tabE (.v 5)) 5) (.cons (.v 9) (.cons (.v 10) (.cons (.v 11) (.cons (.v 12) .nil)))))), (.ki .i64 0)])))))))
        (.ite (.cmp .neq (.ar .and .i64 (.v 7) (.cell (.get tabE (.v 5)) 1)) (.cell (.get tabE (.v 5)) 1))
         (.ret [(.rc (.cons (.v 0) (.cons (.v 1) (.cons (.v 2) (.cons (.v 3) (.cons (.v 4) .nil)))))), (.ki .i64 10)])
         (.ite (.cmp .neq (.ar .and .i64 (.v 7) (.cell (.get tabE (.v 5)) 2)) (.ki .i64 0))
          (.ret [(.rc (.cons (.v 0) (.cons (.v 1) (.cons (.v 2) (.cons (.v 3) (.cons (.v 4) .nil)))))), (.ki .i64 10)])
          (.cal 15 [(.g [(.int .i64), .bool, .bool, .bool, (.int .i64)]), (.c (.int .i64))] [(.rc (.cons (.v 0) (.cons (.v 1) (.cons (.v 2) (.cons (.v 3) (.cons (.v 4) .nil)))))), (.ar .or .i64 (.ar .andNot .i64 (.v 7) (.cell (.get tabE (.v 5)) 4)) (.cell (.get tabE (.v 5)) 3))] [(.g [(.int .i64), .bool, .bool, .bool, (.int .i64)])] 8
           (.ite (.cmp .eql (.cell (.get tabE (.v 5)) 5) (.ki .i64 (-1)))
            (.cal 16 [(.c (.int .i64))] [(.v 0)] [(.c .bool)] 13
             (.ite (.v 13)
              (.ret [(.rc (.cons (.v 8) (.cons (.v 9) (.cons (.v 10) (.cons (.v 11) (.cons (.v 12) .nil)))))), (.ki .i64 0)])
              (.cal 17 [(.g [(.int .i64), .bool, .bool, .bool, (.int .i64)])] [(.rc (.cons (.v 8) (.cons (.v 9) (.cons (.v 10) (.cons (.v 11) (.cons (.v 12) .nil))))))] [(.c (.int .i64))] 14
               (.ret [(.rc (.cons (.v 14) (.cons (.v 9) (.cons (.v 10) (.cons (.v 11) (.cons (.v 12) .nil)))))), (.ki .i64 0)]))))
            (.ite (.cmp .eql (.cell (.get tabE (.v 5)) 5) (.ki .i64 0))
             (.cal 17 [(.g [(.int .i64), .bool, .bool, .bool, (.int .i64)])] [(.rc (.cons (.v 8) (.cons (.v 9) (.cons (.v 10) (.cons (.v 11) (.cons (.v 12) .nil))))))] [(.c (.int .i64))] 13
              (.ret [(.rc (.cons (.v 13) (.cons (.v 9) (.cons (.v 10) (.cons (.v 11) (.cons (.v 12) .nil)))))), (.ki .i64 0)]))
             (.ret [(.rc (.cons (.cell (.get tabE (.v 5)) 5) (.cons (.v 9) (.cons (.v 10) (.cons (.v 11) (.cons (.v 12) .nil)))))), (.ki .i64 0)]))))))))))))))
theorem next_ent : EntOK Tryd.prog gls ⟨8, [(.g [(.int .i64), .bool, .bool, .bool, (.int .i64)]), (.c (.int .i64))], [(.g [(.int .i64), .bool, .bool, .bool, (.int .i64)]), (.c (.int .i64))], vcnext⟩ :=
  ent_of_gen hP Tryd.func8 rfl (by decide) (sg := sgs) (by kernel_rfl)
def vcrnext : VC := (.cal 11 [(.g [(.int .i64), .bool, .bool, .bool, (.int .i64)])] [(.rc (.cons (.v 0) (.cons (.v 1) (.cons (.v 2) (.cons (.v 3) (.cons (.v 4) .nil))))))] [(.c (.int .i64))] 6
 (.ite (.cmp .neq (.v 6) (.ki .i64 0))
  (.ret [(.rc (.cons (.v 0) (.cons (.v 1) (.cons (.v 2) (.cons (.v 3) (.cons (.v 4) .nil)))))), (.ki .i64 1)])
  (.ite (.cmp .lss (.v 5) (.ki .i64 1))
   (.ret [(.rc (.cons (.v 0) (.cons (.v 1) (.cons (.v 2) (.cons (.v 3) (.cons (.v 4) .nil)))))), (.ki .i64 2)])
   (.ite (.cmp .gtr (.v 5) (.ki .i64 12))
    (.ret [(.rc (.cons (.v 0) (.cons (.v 1) (.cons (.v 2) (.cons (.v 3) (.cons (.v 4) .nil)))))), (.ki .i64 2)])
    (.ite (.cmp .eql (.v 5) (.ki .i64 3))
     (.ite (.cmp .neq (.v 4) (.ki .i64 0))
      (.ret [(.rc (.cons (.v 0) (.cons (.v 1) (.cons (.v 2) (.cons (.v 3) (.cons (.v 4) .nil)))))), (.ki .i64 17)])
      (.cal 18 [(.g [(.int .i64), .bool, .bool, .bool, (.int .i64)]), (.c (.int .i64))] [(.rc (.cons (.v 0) (.cons (.v 1) (.cons (.v 2) (.cons (.v 3) (.cons (.v 4) .nil)))))), (.v 5)] [(.c .bool)] 7
       (.ite (.v 7)
        (.cal 19 [(.g [(.int .i64), .bool, .bool, .bool, (.int .i64)]), (.c (.int .i64))] [(.rc (.cons (.v 0) (.cons (.v 1) (.cons (.v 2) (.cons (.v 3) (.cons (.v 4) .nil)))))), (.v 5)] [(.g [(.int .i64), .bool, .bool, .bool, (.int .i64)])] 8
         (.ret [(.rc (.cons (.v 8) (.cons (.v 9) (.cons (.v 10) (.cons (.v 11) (.cons (.v 12) .nil)))))), (.ki .i64 0)]))
        (.ret [(.rc (.cons (.v 0) (.cons (.v 1) (.cons (.v 2) (.cons (.v 3) (.cons (.v 4) .nil)))))), (.ki .i64 10)]))))
     (.cal 18 [(.g [(.int .i64), .bool, .bool, .bool, (.int .i64)]), (.c (.int .i64))] [(.rc (.cons (.v 0) (.cons (.v 1) (.cons (.v 2) (.cons (.v 3) (.cons (.v 4) .nil)))))), (.v 5)] [(.c .bool)] 7
      (.ite (.v 7)
       (.cal 19 [(.g [(.int .i64), .bool, .bool, .bool, (.int .i64)]), (.c (.int .i64))] [(.rc (.cons (.v 0) (.cons (.v 1) (.cons (.v 2) (.cons (.v 3) (.cons (.v 4) .nil)))))), (.v 5)] [(.g [(.int .i64), .bool, .bool, .bool, (.int .i64)])] 8
        (.ret [(.rc (.cons (.v 8) (.cons (.v 9) (.cons (.v 10) (.cons (.v 11) (.cons (.v 12) .nil)))))), (.ki .i64 0)]))
       (.ret [(.rc (.cons (.v 0) (.cons (.v 1) (.cons (.v 2) (.cons (.v 3) (.cons (.v 4) .nil)))))), (.ki .i64 10)]))))))))
theorem rnext_ent : EntOK Tryd.prog gls ⟨9, [(.g [(.int .i64), .bool, .bool, .bool, (.int .i64)]), (.c (.int .i64))], [(.g [(.int .i64), .bool, .bool, .bool, (.int .i64)]), (.c (.int .i64))], vcrnext⟩ :=
  ent_of_gen hP Tryd.func9 rfl (by decide) (sg := sgs) (by kernel_rfl)
end Go.Proofs.YtajphmclobadfaaDoor
