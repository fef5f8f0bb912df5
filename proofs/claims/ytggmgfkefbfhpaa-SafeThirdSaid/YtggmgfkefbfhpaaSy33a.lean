/-
  The functions of layer 33: their conditions (printed by a program); the examples of the chapter hold.
-/
import Derived.Test.YtggmgfkefbfhpaaFrame
import Derived.Test.YtggmgfkefbfhpaaSyO3
set_option maxRecDepth 100000
set_option linter.unusedSimpArgs false
set_option linter.unusedVariables false
namespace Go.Proofs.Ytggmgfkefbfhpaa
open Go.Proofs.Ytggmgfkefbfhpaa.Sy
theorem hP : NoNum Try.prog := by unfold NoNum; kernel_rfl
def sgs : Nat → Option (List TS × List TS) := fun f => if Nat.beq f 24 then some ([.c (.lst [.int .i64])], [.r [.int .i64]]) else none
def vcinn : VC := (.ite (.cmp .geq (.v 0) (.v 1))
 (.ret [(.cmp .leq (.v 0) (.v 2))])
 (.ret [(.kb false)]))
theorem inn_ent : EntOK Try.prog [] ⟨23, [(.c (.int .i64)), (.c (.int .i64)), (.c (.int .i64))], [(.c .bool)], vcinn⟩ :=
  ent_of_gen hP Try.func23 rfl (by decide) (sg := sgs) (by kernel_rfl)
def vcright : VC := (.ite (.cmp .geq (.v 0) (.ki .i64 0))
 (.ret [(.cmp .leq (.v 0) (.ki .i64 268435456))])
 (.ret [(.kb false)]))
theorem right_ent : EntOK Try.prog [] ⟨22, [(.c (.int .i64))], [(.c .bool)], vcright⟩ :=
  ent_of_gen hP Try.func22 rfl (by decide) (sg := sgs) (by kernel_rfl)
def vcelapsed : VC := (.ite (.cmp .geq (.v 1) (.v 0))
 (.ite (.cmp .leq (.v 2) (.ki .i64 0))
  (.ret [(.kb true)])
  (.ret [(.cmp .geq (.ar .sub .u64 (.conv .u64 (.v 1)) (.conv .u64 (.v 0))) (.conv .u64 (.v 2)))]))
 (.ite (.cmp .lss (.v 2) (.ki .i64 0))
  (.ret [(.cmp .leq (.ar .sub .u64 (.conv .u64 (.v 0)) (.conv .u64 (.v 1))) (.neg .u64 (.conv .u64 (.v 2))))])
  (.ret [(.kb false)])))
theorem elapsed_ent : EntOK Try.prog [] ⟨25, [(.c (.int .i64)), (.c (.int .i64)), (.c (.int .i64))], [(.c .bool)], vcelapsed⟩ :=
  ent_of_gen hP Try.func25 rfl (by decide) (sg := sgs) (by kernel_rfl)
def vccopy : VC := (.ev [(.ob (.cmp .geq (.len (.v 0)) (.ki .i64 0))), (.ob (.cmp .leq (.len (.v 0)) (.ki .i64 4294967296)))]
 (.ret [(.cpy (.rep (.len (.v 0)) (.ki .i64 0)) (.v 0))]))
theorem copy_ent : EntOK Try.prog [] ⟨24, [(.c (.lst [(.int .i64)]))], [(.r [(.int .i64)])], vccopy⟩ :=
  ent_of_gen hP Try.func24 rfl (by decide) (sg := sgs) (by kernel_rfl)
def vcvalid : VC := (.ite (.cmp .lss (.v 0) (.ki .i64 0))
 (.ret [(.ki .i64 1)])
 (.ite (.cmp .gtr (.v 0) (.ki .i64 268435456))
  (.ret [(.ki .i64 1)])
  (.ite (.cmp .lss (.v 1) (.ki .i64 0))
   (.ret [(.ki .i64 1)])
   (.ite (.cmp .gtr (.v 1) (.ki .i64 10080))
    (.ret [(.ki .i64 1)])
    (.ite (.cmp .lss (.v 2) (.ki .i64 0))
     (.ret [(.ki .i64 1)])
     (.ite (.cmp .gtr (.v 2) (.ki .i64 1048576))
      (.ret [(.ki .i64 1)])
      (.ite (.cmp .lss (.len (.v 3)) (.ki .i64 1))
       (.ret [(.ki .i64 1)])
       (.ite (.cmp .gtr (.len (.v 3)) (.ki .i64 32))
        (.ret [(.ki .i64 1)])
        (.loop [(.int .i64), (.int .i64)] [(.ki .i64 0), (.ki .i64 0)]
         (.ite (.cmp .lss (.v 5) (.len (.v 3)))
          (.ev [(.ob (.cmp .geq (.v 5) (.ki .i64 0))), (.ob (.cmp .lss (.v 5) (.len (.v 3))))]
           (.ite (.cmp .lss (.get (.v 3) (.v 5)) (.ki .i64 0))
            (.ret [(.ki .i64 1)])
            (.ite (.cmp .gtr (.get (.v 3) (.v 5)) (.ki .i64 2))
             (.ret [(.ki .i64 1)])
             (.back 0 [(.v 4), (.ar .add .i64 (.v 5) (.ki .i64 1))]))))
          (.ret [(.ki .i64 0)])))))))))))
theorem valid_ent : EntOK Try.prog [] ⟨11, [(.g [(.int .i64), (.int .i64), (.int .i64), (.lst [(.int .i64)])])], [(.c (.int .i64))], vcvalid⟩ :=
  ent_of_gen hP Try.func11 rfl (by decide) (sg := sgs) (by kernel_rfl)
def vcrvalid : VC := (.cal 22 [(.c (.int .i64))] [(.v 0)] [(.c .bool)] 4
 (.ite (.v 4)
  (.cal 23 [(.c (.int .i64)), (.c (.int .i64)), (.c (.int .i64))] [(.v 1), (.ki .i64 0), (.ki .i64 10080)] [(.c .bool)] 5
   (.ite (.v 5)
    (.cal 23 [(.c (.int .i64)), (.c (.int .i64)), (.c (.int .i64))] [(.v 2), (.ki .i64 0), (.ki .i64 1048576)] [(.c .bool)] 6
     (.ite (.v 6)
      (.cal 23 [(.c (.int .i64)), (.c (.int .i64)), (.c (.int .i64))] [(.len (.v 3)), (.ki .i64 1), (.ki .i64 32)] [(.c .bool)] 7
       (.ite (.v 7)
        (.loop [(.int .i64), (.int .i64)] [(.ki .i64 0), (.ki .i64 0)]
         (.ite (.cmp .lss (.v 9) (.len (.v 3)))
          (.ev [(.ob (.cmp .geq (.v 9) (.ki .i64 0))), (.ob (.cmp .lss (.v 9) (.len (.v 3))))]
           (.cal 23 [(.c (.int .i64)), (.c (.int .i64)), (.c (.int .i64))] [(.get (.v 3) (.v 9)), (.ki .i64 0), (.ki .i64 2)] [(.c .bool)] 10
            (.ite (.v 10)
             (.back 0 [(.v 8), (.ar .add .i64 (.v 9) (.ki .i64 1))])
             (.ret [(.ki .i64 1)]))))
          (.ret [(.ki .i64 0)])))
        (.ret [(.ki .i64 1)])))
      (.ret [(.ki .i64 1)])))
    (.ret [(.ki .i64 1)])))
  (.ret [(.ki .i64 1)])))
theorem rvalid_ent : EntOK Try.prog [] ⟨12, [(.g [(.int .i64), (.int .i64), (.int .i64), (.lst [(.int .i64)])])], [(.c (.int .i64))], vcrvalid⟩ :=
  ent_of_gen hP Try.func12 rfl (by decide) (sg := sgs) (by kernel_rfl)
def vcnew : VC := (.ite (.cmp .lss (.v 0) (.ki .i64 1))
 (.ret [(.rc (.cons (.ki .i64 0) (.cons (.ki .i64 0) (.cons (.ki .i64 0) (.cons .nil .nil))))), (.ki .i64 2)])
 (.ite (.cmp .gtr (.v 0) (.ki .i64 32))
  (.ret [(.rc (.cons (.ki .i64 0) (.cons (.ki .i64 0) (.cons (.ki .i64 0) (.cons .nil .nil))))), (.ki .i64 2)])
  (.ite (.cmp .lss (.v 1) (.ki .i64 0))
   (.ret [(.rc (.cons (.ki .i64 0) (.cons (.ki .i64 0) (.cons (.ki .i64 0) (.cons .nil .nil))))), (.ki .i64 2)])
   (.ite (.cmp .gtr (.v 1) (.ki .i64 10080))
    (.ret [(.rc (.cons (.ki .i64 0) (.cons (.ki .i64 0) (.cons (.ki .i64 0) (.cons .nil .nil))))), (.ki .i64 2)])
    (.ite (.cmp .lss (.v 2) (.ki .i64 0))
     (.ret [(.rc (.cons (.ki .i64 0) (.cons (.ki .i64 0) (.cons (.ki .i64 0) (.cons .nil .nil))))), (.ki .i64 2)])
     (.ite (.cmp .gtr (.v 2) (.ki .i64 1048576))
      (.ret [(.rc (.cons (.ki .i64 0) (.cons (.ki .i64 0) (.cons (.ki .i64 0) (.cons .nil .nil))))), (.ki .i64 2)])
      (.ev [(.ob (.cmp .geq (.v 0) (.ki .i64 0))), (.ob (.cmp .leq (.v 0) (.ki .i64 4294967296)))]
       (.ret [(.rc (.cons (.ki .i64 0) (.cons (.v 1) (.cons (.v 2) (.cons (.rep (.v 0) (.ki .i64 0)) .nil))))), (.ki .i64 0)]))))))))
theorem new_ent : EntOK Try.prog [] ⟨13, [(.c (.int .i64)), (.c (.int .i64)), (.c (.int .i64))], [(.g [(.int .i64), (.int .i64), (.int .i64), (.lst [(.int .i64)])]), (.c (.int .i64))], vcnew⟩ :=
  ent_of_gen hP Try.func13 rfl (by decide) (sg := sgs) (by kernel_rfl)
def vcrnew : VC := (.cal 23 [(.c (.int .i64)), (.c (.int .i64)), (.c (.int .i64))] [(.v 0), (.ki .i64 1), (.ki .i64 32)] [(.c .bool)] 3
 (.ite (.v 3)
  (.cal 23 [(.c (.int .i64)), (.c (.int .i64)), (.c (.int .i64))] [(.v 1), (.ki .i64 0), (.ki .i64 10080)] [(.c .bool)] 4
   (.ite (.v 4)
    (.cal 23 [(.c (.int .i64)), (.c (.int .i64)), (.c (.int .i64))] [(.v 2), (.ki .i64 0), (.ki .i64 1048576)] [(.c .bool)] 5
     (.ite (.v 5)
      (.ev [(.ob (.cmp .geq (.v 0) (.ki .i64 0))), (.ob (.cmp .leq (.v 0) (.ki .i64 4294967296)))]
       (.ret [(.rc (.cons (.ki .i64 0) (.cons (.v 1) (.cons (.v 2) (.cons (.rep (.v 0) (.ki .i64 0)) .nil))))), (.ki .i64 0)]))
      (.ret [(.rc (.cons (.ki .i64 0) (.cons (.ki .i64 0) (.cons (.ki .i64 0) (.cons .nil .nil))))), (.ki .i64 2)])))
    (.ret [(.rc (.cons (.ki .i64 0) (.cons (.ki .i64 0) (.cons (.ki .i64 0) (.cons .nil .nil))))), (.ki .i64 2)])))
  (.ret [(.rc (.cons (.ki .i64 0) (.cons (.ki .i64 0) (.cons (.ki .i64 0) (.cons .nil .nil))))), (.ki .i64 2)])))
theorem rnew_ent : EntOK Try.prog [] ⟨14, [(.c (.int .i64)), (.c (.int .i64)), (.c (.int .i64))], [(.g [(.int .i64), (.int .i64), (.int .i64), (.lst [(.int .i64)])]), (.c (.int .i64))], vcrnew⟩ :=
  ent_of_gen hP Try.func14 rfl (by decide) (sg := sgs) (by kernel_rfl)
def vcsame : VC := (.ite (.cmp .neq (.v 0) (.v 4))
 (.ret [(.kb false)])
 (.ite (.cmp .neq (.v 1) (.v 5))
  (.ret [(.kb false)])
  (.ite (.cmp .neq (.v 2) (.v 6))
   (.ret [(.kb false)])
   (.ite (.cmp .neq (.len (.v 3)) (.len (.v 7)))
    (.ret [(.kb false)])
    (.loop [.bool, (.int .i64)] [(.kb false), (.ki .i64 0)]
     (.ite (.cmp .lss (.v 9) (.len (.v 3)))
      (.ev [(.ob (.cmp .geq (.v 9) (.ki .i64 0))), (.ob (.cmp .lss (.v 9) (.len (.v 3)))), (.ob (.cmp .geq (.v 9) (.ki .i64 0))), (.ob (.cmp .lss (.v 9) (.len (.v 7))))]
       (.ite (.cmp .neq (.get (.v 3) (.v 9)) (.get (.v 7) (.v 9)))
        (.ret [(.kb false)])
        (.back 0 [(.v 8), (.ar .add .i64 (.v 9) (.ki .i64 1))])))
      (.ret [(.kb true)])))))))
theorem same_ent : EntOK Try.prog [] ⟨15, [(.g [(.int .i64), (.int .i64), (.int .i64), (.lst [(.int .i64)])]), (.g [(.int .i64), (.int .i64), (.int .i64), (.lst [(.int .i64)])])], [(.c .bool)], vcsame⟩ :=
  ent_of_gen hP Try.func15 rfl (by decide) (sg := sgs) (by kernel_rfl)
def vccontact : VC := (.cal 11 [(.g [(.int .i64), (.int .i64), (.int .i64), (.lst [(.int .i64)])])] [(.rc (.cons (.v 0) (.cons (.v 1) (.cons (.v 2) (.cons (.v 3) .nil)))))] [(.c (.int .i64))] 5
 (.ite (.cmp .neq (.v 5) (.ki .i64 0))
  (.ret [(.rc (.cons (.v 0) (.cons (.v 1) (.cons (.v 2) (.cons (.v 3) .nil))))), (.v 5)])
  (.ite (.cmp .lss (.v 4) (.v 0))
   (.ret [(.rc (.cons (.v 0) (.cons (.v 1) (.cons (.v 2) (.cons (.v 3) .nil))))), (.ki .i64 2)])
   (.ite (.cmp .gtr (.v 4) (.ki .i64 268435456))
    (.ret [(.rc (.cons (.v 0) (.cons (.v 1) (.cons (.v 2) (.cons (.v 3) .nil))))), (.ki .i64 2)])
    (.cal 24 [(.c (.lst [(.int .i64)]))] [(.v 3)] [(.r [(.int .i64)])] 6
     (.ret [(.rc (.cons (.v 4) (.cons (.v 1) (.cons (.v 2) (.cons (.v 6) .nil))))), (.ki .i64 0)]))))))
theorem contact_ent : EntOK Try.prog [] ⟨16, [(.g [(.int .i64), (.int .i64), (.int .i64), (.lst [(.int .i64)])]), (.c (.int .i64))], [(.g [(.int .i64), (.int .i64), (.int .i64), (.lst [(.int .i64)])]), (.c (.int .i64))], vccontact⟩ :=
  ent_of_gen hP Try.func16 rfl (by decide) (sg := sgs) (by kernel_rfl)
def vcrcontact : VC := (.cal 12 [(.g [(.int .i64), (.int .i64), (.int .i64), (.lst [(.int .i64)])])] [(.rc (.cons (.v 0) (.cons (.v 1) (.cons (.v 2) (.cons (.v 3) .nil)))))] [(.c (.int .i64))] 5
 (.ite (.cmp .neq (.v 5) (.ki .i64 0))
  (.ret [(.rc (.cons (.v 0) (.cons (.v 1) (.cons (.v 2) (.cons (.v 3) .nil))))), (.ki .i64 1)])
  (.cal 23 [(.c (.int .i64)), (.c (.int .i64)), (.c (.int .i64))] [(.v 4), (.v 0), (.ki .i64 268435456)] [(.c .bool)] 6
   (.ite (.v 6)
    (.ret [(.rc (.cons (.v 4) (.cons (.v 1) (.cons (.v 2) (.cons (.v 3) .nil))))), (.ki .i64 0)])
    (.ret [(.rc (.cons (.v 0) (.cons (.v 1) (.cons (.v 2) (.cons (.v 3) .nil))))), (.ki .i64 2)])))))
theorem rcontact_ent : EntOK Try.prog [] ⟨17, [(.g [(.int .i64), (.int .i64), (.int .i64), (.lst [(.int .i64)])]), (.c (.int .i64))], [(.g [(.int .i64), (.int .i64), (.int .i64), (.lst [(.int .i64)])]), (.c (.int .i64))], vcrcontact⟩ :=
  ent_of_gen hP Try.func17 rfl (by decide) (sg := sgs) (by kernel_rfl)
def vclimit : VC := (.ite (.cmp .neq (.v 1) (.ki .i64 0))
 (.cal 25 [(.c (.int .i64)), (.c (.int .i64)), (.c (.int .i64))] [(.v 0), (.v 4), (.v 1)] [(.c .bool)] 6
  (.ite (.v 6)
   (.ret [(.mn .i64 (.v 5) (.v 2))])
   (.ret [(.v 5)])))
 (.ret [(.v 5)]))
theorem limit_ent : EntOK Try.prog [] ⟨18, [(.g [(.int .i64), (.int .i64), (.int .i64), (.lst [(.int .i64)])]), (.c (.int .i64)), (.c (.int .i64))], [(.c (.int .i64))], vclimit⟩ :=
  ent_of_gen hP Try.func18 rfl (by decide) (sg := sgs) (by kernel_rfl)
def vcrlimit : VC := (.ite (.cmp .neq (.v 1) (.ki .i64 0))
 (.ite (.cmp .geq (.v 4) (.ar .add .i64 (.v 0) (.v 1)))
  (.ret [(.mn .i64 (.v 5) (.v 2))])
  (.ret [(.v 5)]))
 (.ret [(.v 5)]))
theorem rlimit_ent : EntOK Try.prog [] ⟨19, [(.g [(.int .i64), (.int .i64), (.int .i64), (.lst [(.int .i64)])]), (.c (.int .i64)), (.c (.int .i64))], [(.c (.int .i64))], vcrlimit⟩ :=
  ent_of_gen hP Try.func19 rfl (by decide) (sg := sgs) (by kernel_rfl)
def vcwatch : VC := (.cal 11 [(.g [(.int .i64), (.int .i64), (.int .i64), (.lst [(.int .i64)])])] [(.rc (.cons (.v 0) (.cons (.v 1) (.cons (.v 2) (.cons (.v 3) .nil)))))] [(.c (.int .i64))] 7
 (.ite (.cmp .neq (.v 7) (.ki .i64 0))
  (.ret [(.rc (.cons (.v 0) (.cons (.v 1) (.cons (.v 2) (.cons (.v 3) .nil))))), (.kb false)])
  (.ite (.cmp .lss (.v 4) (.ki .i64 1))
   (.ret [(.rc (.cons (.v 0) (.cons (.v 1) (.cons (.v 2) (.cons (.v 3) .nil))))), (.kb false)])
   (.ite (.cmp .gtr (.v 4) (.len (.v 3)))
    (.ret [(.rc (.cons (.v 0) (.cons (.v 1) (.cons (.v 2) (.cons (.v 3) .nil))))), (.kb false)])
    (.ite (.cmp .lss (.v 5) (.ki .i64 0))
     (.ret [(.rc (.cons (.v 0) (.cons (.v 1) (.cons (.v 2) (.cons (.v 3) .nil))))), (.kb false)])
     (.ite (.cmp .gtr (.v 5) (.ki .i64 1073741824))
      (.ret [(.rc (.cons (.v 0) (.cons (.v 1) (.cons (.v 2) (.cons (.v 3) .nil))))), (.kb false)])
      (.ite (.cmp .lss (.v 6) (.ki .i64 0))
       (.ret [(.rc (.cons (.v 0) (.cons (.v 1) (.cons (.v 2) (.cons (.v 3) .nil))))), (.kb false)])
       (.ite (.cmp .gtr (.v 6) (.ki .i64 1073741824))
        (.ret [(.rc (.cons (.v 0) (.cons (.v 1) (.cons (.v 2) (.cons (.v 3) .nil))))), (.kb false)])
        (.cal 24 [(.c (.lst [(.int .i64)]))] [(.v 3)] [(.r [(.int .i64)])] 8
         (.ite (.cmp .leq (.v 5) (.ar .add .i64 (.ar .add .i64 (.v 6) (.ar .quo .i64 (.v 6) (.ki .i64 10))) (.ki .i64 100)))
          (.ev [(.ob (.cmp .geq (.ar .sub .i64 (.v 4) (.ki .i64 1)) (.ki .i64 0))), (.ob (.cmp .lss (.ar .sub .i64 (.v 4) (.ki .i64 1)) (.len (.v 8))))]
           (.ev [(.ob (.cmp .lss (.ar .sub .i64 (.v 4) (.ki .i64 1)) (.len (.v 8))))]
            (.ret [(.rc (.cons (.v 0) (.cons (.v 1) (.cons (.v 2) (.cons (.set (.v 8) (.ar .sub .i64 (.v 4) (.ki .i64 1)) (.ki .i64 0)) .nil))))), (.kb false)])))
          (.ev [(.ob (.cmp .geq (.ar .sub .i64 (.v 4) (.ki .i64 1)) (.ki .i64 0))), (.ob (.cmp .lss (.ar .sub .i64 (.v 4) (.ki .i64 1)) (.len (.v 8))))]
           (.ev [(.ob (.cmp .lss (.ar .sub .i64 (.v 4) (.ki .i64 1)) (.len (.v 8))))]
            (.ev [(.ob (.cmp .geq (.ar .sub .i64 (.v 4) (.ki .i64 1)) (.ki .i64 0))), (.ob (.cmp .lss (.ar .sub .i64 (.v 4) (.ki .i64 1)) (.len (.v 8))))]
             (.ev [(.ob (.cmp .lss (.ar .sub .i64 (.v 4) (.ki .i64 1)) (.len (.v 8))))]
              (.ev [(.ob (.cmp .geq (.ar .sub .i64 (.v 4) (.ki .i64 1)) (.ki .i64 0))), (.ob (.cmp .lss (.ar .sub .i64 (.v 4) (.ki .i64 1)) (.len (.v 8))))]
               (.ev [(.ob (.cmp .lss (.ar .sub .i64 (.v 4) (.ki .i64 1)) (.len (.v 8))))]
                (.ite (.cmp .leq (.get (.set (.v 8) (.ar .sub .i64 (.v 4) (.ki .i64 1)) (.ar .add .i64 (.get (.v 8) (.ar .sub .i64 (.v 4) (.ki .i64 1))) (.ki .i64 1))) (.ar .sub .i64 (.v 4) (.ki .i64 1))) (.ki .i64 2))
                 (.ret [(.rc (.cons (.v 0) (.cons (.v 1) (.cons (.v 2) (.cons (.set (.v 8) (.ar .sub .i64 (.v 4) (.ki .i64 1)) (.ar .add .i64 (.get (.v 8) (.ar .sub .i64 (.v 4) (.ki .i64 1))) (.ki .i64 1))) .nil))))), (.kb false)])
                 (.ev [(.ob (.cmp .geq (.ar .sub .i64 (.v 4) (.ki .i64 1)) (.ki .i64 0))), (.ob (.cmp .lss (.ar .sub .i64 (.v 4) (.ki .i64 1)) (.len (.v 8))))]
                  (.ev [(.ob (.cmp .lss (.ar .sub .i64 (.v 4) (.ki .i64 1)) (.len (.v 8))))]
                   (.ret [(.rc (.cons (.v 0) (.cons (.v 1) (.cons (.v 2) (.cons (.set (.set (.v 8) (.ar .sub .i64 (.v 4) (.ki .i64 1)) (.ar .add .i64 (.get (.v 8) (.ar .sub .i64 (.v 4) (.ki .i64 1))) (.ki .i64 1))) (.ar .sub .i64 (.v 4) (.ki .i64 1)) (.ki .i64 0)) .nil))))), (.kb true)]))))))))))))))))))))
theorem watch_ent : EntOK Try.prog [] ⟨20, [(.g [(.int .i64), (.int .i64), (.int .i64), (.lst [(.int .i64)])]), (.c (.int .i64)), (.c (.int .i64)), (.c (.int .i64))], [(.g [(.int .i64), (.int .i64), (.int .i64), (.lst [(.int .i64)])]), (.c .bool)], vcwatch⟩ :=
  ent_of_gen hP Try.func20 rfl (by decide) (sg := sgs) (by kernel_rfl)
def vcrwatch : VC := (.cal 12 [(.g [(.int .i64), (.int .i64), (.int .i64), (.lst [(.int .i64)])])] [(.rc (.cons (.v 0) (.cons (.v 1) (.cons (.v 2) (.cons (.v 3) .nil)))))] [(.c (.int .i64))] 7
 (.ite (.cmp .neq (.v 7) (.ki .i64 0))
  (.ret [(.rc (.cons (.v 0) (.cons (.v 1) (.cons (.v 2) (.cons (.v 3) .nil))))), (.kb false)])
  (.cal 23 [(.c (.int .i64)), (.c (.int .i64)), (.c (.int .i64))] [(.v 4), (.ki .i64 1), (.len (.v 3))] [(.c .bool)] 8
   (.ite (.v 8)
    (.cal 23 [(.c (.int .i64)), (.c (.int .i64)), (.c (.int .i64))] [(.v 5), (.ki .i64 0), (.ki .i64 1073741824)] [(.c .bool)] 9
     (.ite (.v 9)
      (.cal 23 [(.c (.int .i64)), (.c (.int .i64)), (.c (.int .i64))] [(.v 6), (.ki .i64 0), (.ki .i64 1073741824)] [(.c .bool)] 10
       (.ite (.v 10)
        (.ev [(.ob (.cmp .leq (.len (.app .nil (.v 3))) (.ki .i64 4294967296)))]
         (.ite (.cmp .leq (.v 5) (.ar .add .i64 (.ar .add .i64 (.v 6) (.ar .quo .i64 (.v 6) (.ki .i64 10))) (.ki .i64 100)))
          (.ev [(.ob (.cmp .geq (.ar .sub .i64 (.v 4) (.ki .i64 1)) (.ki .i64 0))), (.ob (.cmp .lss (.ar .sub .i64 (.v 4) (.ki .i64 1)) (.len (.app .nil (.v 3)))))]
           (.ev [(.ob (.cmp .lss (.ar .sub .i64 (.v 4) (.ki .i64 1)) (.len (.app .nil (.v 3)))))]
            (.ret [(.rc (.cons (.v 0) (.cons (.v 1) (.cons (.v 2) (.cons (.set (.app .nil (.v 3)) (.ar .sub .i64 (.v 4) (.ki .i64 1)) (.ki .i64 0)) .nil))))), (.kb false)])))
          (.ev [(.ob (.cmp .geq (.ar .sub .i64 (.v 4) (.ki .i64 1)) (.ki .i64 0))), (.ob (.cmp .lss (.ar .sub .i64 (.v 4) (.ki .i64 1)) (.len (.v 3)))), (.ob (.cmp .geq (.ar .sub .i64 (.v 4) (.ki .i64 1)) (.ki .i64 0))), (.ob (.cmp .lss (.ar .sub .i64 (.v 4) (.ki .i64 1)) (.len (.app .nil (.v 3))))), (.ob (.cmp .lss (.ar .sub .i64 (.v 4) (.ki .i64 1)) (.len (.app .nil (.v 3)))))]
           (.ev [(.ob (.cmp .geq (.ar .sub .i64 (.v 4) (.ki .i64 1)) (.ki .i64 0))), (.ob (.cmp .lss (.ar .sub .i64 (.v 4) (.ki .i64 1)) (.len (.app .nil (.v 3))))), (.ob (.cmp .lss (.ar .sub .i64 (.v 4) (.ki .i64 1)) (.len (.app .nil (.v 3)))))]
            (.ret [(.rc (.cons (.v 0) (.cons (.v 1) (.cons (.v 2) (.cons (.set (.app .nil (.v 3)) (.ar .sub .i64 (.v 4) (.ki .i64 1)) (.ar .rem .i64 (.ar .add .i64 (.get (.v 3) (.ar .sub .i64 (.v 4) (.ki .i64 1))) (.ki .i64 1)) (.ki .i64 3))) .nil))))), (.cmp .eql (.get (.set (.app .nil (.v 3)) (.ar .sub .i64 (.v 4) (.ki .i64 1)) (.ar .rem .i64 (.ar .add .i64 (.get (.v 3) (.ar .sub .i64 (.v 4) (.ki .i64 1))) (.ki .i64 1)) (.ki .i64 3))) (.ar .sub .i64 (.v 4) (.ki .i64 1))) (.ki .i64 0))])))))
        (.ret [(.rc (.cons (.v 0) (.cons (.v 1) (.cons (.v 2) (.cons (.v 3) .nil))))), (.kb false)])))
      (.ret [(.rc (.cons (.v 0) (.cons (.v 1) (.cons (.v 2) (.cons (.v 3) .nil))))), (.kb false)])))
    (.ret [(.rc (.cons (.v 0) (.cons (.v 1) (.cons (.v 2) (.cons (.v 3) .nil))))), (.kb false)])))))
theorem rwatch_ent : EntOK Try.prog [] ⟨21, [(.g [(.int .i64), (.int .i64), (.int .i64), (.lst [(.int .i64)])]), (.c (.int .i64)), (.c (.int .i64)), (.c (.int .i64))], [(.g [(.int .i64), (.int .i64), (.int .i64), (.lst [(.int .i64)])]), (.c .bool)], vcrwatch⟩ :=
  ent_of_gen hP Try.func21 rfl (by decide) (sg := sgs) (by kernel_rfl)
def vcex : VC := (.cal 13 [(.c (.int .i64)), (.c (.int .i64)), (.c (.int .i64))] [(.ki .i64 2), (.ki .i64 30), (.ki .i64 2000)] [(.g [(.int .i64), (.int .i64), (.int .i64), (.lst [(.int .i64)])]), (.c (.int .i64))] 0
 (.ite (.cmp .neq (.v 4) (.ki .i64 0))
  (.ret [(.kb false)])
  (.ite (.cmp .neq (.len (.v 3)) (.ki .i64 2))
   (.ret [(.kb false)])
   (.ev [(.ob (.cmp .lss (.ki .i64 0) (.len (.v 3))))]
    (.ite (.cmp .neq (.get (.v 3) (.ki .i64 0)) (.ki .i64 0))
     (.ret [(.kb false)])
     (.ev [(.ob (.cmp .lss (.ki .i64 1) (.len (.v 3))))]
      (.ite (.cmp .neq (.get (.v 3) (.ki .i64 1)) (.ki .i64 0))
       (.ret [(.kb false)])
       (.cal 16 [(.g [(.int .i64), (.int .i64), (.int .i64), (.lst [(.int .i64)])]), (.c (.int .i64))] [(.rc (.cons (.v 0) (.cons (.v 1) (.cons (.v 2) (.cons (.v 3) .nil))))), (.ki .i64 10)] [(.g [(.int .i64), (.int .i64), (.int .i64), (.lst [(.int .i64)])]), (.c (.int .i64))] 5
        (.ite (.cmp .neq (.v 9) (.ki .i64 0))
         (.ret [(.kb false)])
         (.cal 18 [(.g [(.int .i64), (.int .i64), (.int .i64), (.lst [(.int .i64)])]), (.c (.int .i64)), (.c (.int .i64))] [(.rc (.cons (.v 5) (.cons (.v 6) (.cons (.v 7) (.cons (.v 8) .nil))))), (.ki .i64 40), (.ki .i64 7000)] [(.c (.int .i64))] 10
          (.ite (.cmp .neq (.v 10) (.ki .i64 2000))
           (.ret [(.kb false)])
           (.cal 18 [(.g [(.int .i64), (.int .i64), (.int .i64), (.lst [(.int .i64)])]), (.c (.int .i64)), (.c (.int .i64))] [(.rc (.cons (.v 5) (.cons (.v 6) (.cons (.v 7) (.cons (.v 8) .nil))))), (.ki .i64 39), (.ki .i64 7000)] [(.c (.int .i64))] 11
            (.ite (.cmp .neq (.v 11) (.ki .i64 7000))
             (.ret [(.kb false)])
             (.cal 20 [(.g [(.int .i64), (.int .i64), (.int .i64), (.lst [(.int .i64)])]), (.c (.int .i64)), (.c (.int .i64)), (.c (.int .i64))] [(.rc (.cons (.v 5) (.cons (.v 6) (.cons (.v 7) (.cons (.v 8) .nil))))), (.ki .i64 1), (.ki .i64 1201), (.ki .i64 1000)] [(.g [(.int .i64), (.int .i64), (.int .i64), (.lst [(.int .i64)])]), (.c .bool)] 12
              (.cal 20 [(.g [(.int .i64), (.int .i64), (.int .i64), (.lst [(.int .i64)])]), (.c (.int .i64)), (.c (.int .i64)), (.c (.int .i64))] [(.rc (.cons (.v 12) (.cons (.v 13) (.cons (.v 14) (.cons (.v 15) .nil))))), (.ki .i64 1), (.ki .i64 1201), (.ki .i64 1000)] [(.g [(.int .i64), (.int .i64), (.int .i64), (.lst [(.int .i64)])]), (.c .bool)] 17
               (.cal 20 [(.g [(.int .i64), (.int .i64), (.int .i64), (.lst [(.int .i64)])]), (.c (.int .i64)), (.c (.int .i64)), (.c (.int .i64))] [(.rc (.cons (.v 17) (.cons (.v 18) (.cons (.v 19) (.cons (.v 20) .nil))))), (.ki .i64 1), (.ki .i64 1201), (.ki .i64 1000)] [(.g [(.int .i64), (.int .i64), (.int .i64), (.lst [(.int .i64)])]), (.c .bool)] 22
                (.cal 20 [(.g [(.int .i64), (.int .i64), (.int .i64), (.lst [(.int .i64)])]), (.c (.int .i64)), (.c (.int .i64)), (.c (.int .i64))] [(.rc (.cons (.v 17) (.cons (.v 18) (.cons (.v 19) (.cons (.v 20) .nil))))), (.ki .i64 1), (.ki .i64 1200), (.ki .i64 1000)] [(.g [(.int .i64), (.int .i64), (.int .i64), (.lst [(.int .i64)])]), (.c .bool)] 27
                 (.ite (.v 16)
                  (.ret [(.kb false)])
                  (.ite (.v 21)
                   (.ret [(.kb false)])
                   (.ite (.v 26)
                    (.ite (.v 31)
                     (.ret [(.kb false)])
                     (.ite (.cmp .eql (.len (.v 25)) (.ki .i64 2))
                      (.ev [(.ob (.cmp .lss (.ki .i64 0) (.len (.v 25))))]
                       (.ite (.cmp .eql (.get (.v 25) (.ki .i64 0)) (.ki .i64 0))
                        (.ite (.cmp .eql (.len (.v 30)) (.ki .i64 2))
                         (.ev [(.ob (.cmp .lss (.ki .i64 0) (.len (.v 30))))]
                          (.ret [(.cmp .eql (.get (.v 30) (.ki .i64 0)) (.ki .i64 0))]))
                         (.ret [(.kb false)]))
                        (.ret [(.kb false)])))
                      (.ret [(.kb false)])))
                    (.ret [(.kb false)])))))))))))))))))))))
theorem ex_ent : EntOK Try.prog [] ⟨10, [], [(.c .bool)], vcex⟩ :=
  ent_of_gen hP Try.func10 rfl (by decide) (sg := sgs) (by kernel_rfl)
def ents : List Ent := [⟨21, [(.g [(.int .i64), (.int .i64), (.int .i64), (.lst [(.int .i64)])]), (.c (.int .i64)), (.c (.int .i64)), (.c (.int .i64))], [(.g [(.int .i64), (.int .i64), (.int .i64), (.lst [(.int .i64)])]), (.c .bool)], vcrwatch⟩, ⟨20, [(.g [(.int .i64), (.int .i64), (.int .i64), (.lst [(.int .i64)])]), (.c (.int .i64)), (.c (.int .i64)), (.c (.int .i64))], [(.g [(.int .i64), (.int .i64), (.int .i64), (.lst [(.int .i64)])]), (.c .bool)], vcwatch⟩, ⟨19, [(.g [(.int .i64), (.int .i64), (.int .i64), (.lst [(.int .i64)])]), (.c (.int .i64)), (.c (.int .i64))], [(.c (.int .i64))], vcrlimit⟩, ⟨18, [(.g [(.int .i64), (.int .i64), (.int .i64), (.lst [(.int .i64)])]), (.c (.int .i64)), (.c (.int .i64))], [(.c (.int .i64))], vclimit⟩, ⟨17, [(.g [(.int .i64), (.int .i64), (.int .i64), (.lst [(.int .i64)])]), (.c (.int .i64))], [(.g [(.int .i64), (.int .i64), (.int .i64), (.lst [(.int .i64)])]), (.c (.int .i64))], vcrcontact⟩, ⟨16, [(.g [(.int .i64), (.int .i64), (.int .i64), (.lst [(.int .i64)])]), (.c (.int .i64))], [(.g [(.int .i64), (.int .i64), (.int .i64), (.lst [(.int .i64)])]), (.c (.int .i64))], vccontact⟩, ⟨15, [(.g [(.int .i64), (.int .i64), (.int .i64), (.lst [(.int .i64)])]), (.g [(.int .i64), (.int .i64), (.int .i64), (.lst [(.int .i64)])])], [(.c .bool)], vcsame⟩, ⟨14, [(.c (.int .i64)), (.c (.int .i64)), (.c (.int .i64))], [(.g [(.int .i64), (.int .i64), (.int .i64), (.lst [(.int .i64)])]), (.c (.int .i64))], vcrnew⟩, ⟨13, [(.c (.int .i64)), (.c (.int .i64)), (.c (.int .i64))], [(.g [(.int .i64), (.int .i64), (.int .i64), (.lst [(.int .i64)])]), (.c (.int .i64))], vcnew⟩, ⟨12, [(.g [(.int .i64), (.int .i64), (.int .i64), (.lst [(.int .i64)])])], [(.c (.int .i64))], vcrvalid⟩, ⟨11, [(.g [(.int .i64), (.int .i64), (.int .i64), (.lst [(.int .i64)])])], [(.c (.int .i64))], vcvalid⟩, ⟨24, [(.c (.lst [(.int .i64)]))], [(.r [(.int .i64)])], vccopy⟩, ⟨25, [(.c (.int .i64)), (.c (.int .i64)), (.c (.int .i64))], [(.c .bool)], vcelapsed⟩, ⟨22, [(.c (.int .i64))], [(.c .bool)], vcright⟩, ⟨23, [(.c (.int .i64)), (.c (.int .i64)), (.c (.int .i64))], [(.c .bool)], vcinn⟩]
theorem ents_ok : ∀ e ∈ ents, EntOK Try.prog [] e := by
  intro e he
  simp only [ents, List.mem_cons, List.not_mem_nil, or_false] at he
  rcases he with rfl | rfl | rfl | rfl | rfl | rfl | rfl | rfl | rfl | rfl | rfl | rfl | rfl | rfl | rfl
  · exact rwatch_ent
  · exact watch_ent
  · exact rlimit_ent
  · exact limit_ent
  · exact rcontact_ent
  · exact contact_ent
  · exact same_ent
  · exact rnew_ent
  · exact new_ent
  · exact rvalid_ent
  · exact valid_ent
  · exact copy_ent
  · exact elapsed_ent
  · exact right_ent
  · exact inn_ent
theorem ex_ok : Fun Try.prog [] 10 [] [] [.c .bool] (.ok [.bool true]) :=
  fun_of_eval (l := ⟨10, [], [.c .bool], vcex⟩ :: ents) (fun e he => (List.mem_cons.1 he).elim (fun h => by rw [h]; exact ex_ent) (ents_ok e)) 100 (by kernel_rfl)
end Go.Proofs.Ytggmgfkefbfhpaa
