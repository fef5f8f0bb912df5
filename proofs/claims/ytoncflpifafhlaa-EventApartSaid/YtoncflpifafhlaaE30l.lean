/-
  Layer 30: what the laws have in common. No conditions stand ahead of what is proved.
-/
import Derived.Test.YtoncflpifafhlaaE30c
import Derived.Test.YtoncflpifafhlaaE30x
set_option maxRecDepth 100000
set_option linter.unusedSimpArgs false
set_option linter.unusedVariables false
namespace Go.Proofs.Ytoncflpifafhlaa.E30l
open Go.Proofs.Ytoncflpifafhlaa Go.Proofs.Ytoncflpifafhlaa.Sy Go.Proofs.Ytoncflpifafhlaa.L7 Go.Proofs.Ytoncflpifafhlaa.Id Go.Proofs.Ytoncflpifafhlaa.R26 Go.Proofs.Ytoncflpifafhlaa.E30 Go.Proofs.Ytoncflpifafhlaa.E30x Go.RowKit Go.WideShapes Go.ChangeShapes Go.ChangeAt
theorem hP : NoNum Try.prog := by unfold NoNum; kernel_rfl
def sgs : Nat → Option (List TS × List TS) := fun _ => none
def vcsmall : VC := (.ite (.cmp .leq (.len (.v 9)) (.ki .i64 130))
 (.ite (.cmp .leq (.len (.v 0)) (.ki .i64 200))
  (.ite (.cmp .leq (.len (.v 1)) (.ki .i64 200))
   (.ret [(.cmp .leq (.len (.v 6)) (.ki .i64 200))])
   (.ret [(.kb false)]))
  (.ret [(.kb false)]))
 (.ret [(.kb false)]))
theorem small_ent : EntOK Try.prog [] ⟨9, [(.g [.str, .str, (.int .i64), (.int .i64), (.int .i64), (.int .i64), .str, .bool, (.int .i64), (.lst [(.int .i64), (.int .i64)])])], [(.c .bool)], vcsmall⟩ :=
  ent_of_gen hP Try.func9 rfl (by decide) (sg := sgs) (by kernel_rfl)
def vclEventValid : VC := (.cal 9 [(.g [.str, .str, (.int .i64), (.int .i64), (.int .i64), (.int .i64), .str, .bool, (.int .i64), (.lst [(.int .i64), (.int .i64)])])] [(.rc (.cons (.v 0) (.cons (.v 1) (.cons (.v 2) (.cons (.v 3) (.cons (.v 4) (.cons (.v 5) (.cons (.v 6) (.cons (.v 7) (.cons (.v 8) (.cons (.v 9) .nil)))))))))))] [(.c .bool)] 10
 (.ite (.v 10)
  (.ev [(.call 11 [(.g [.str, .str, (.int .i64), (.int .i64), (.int .i64), (.int .i64), .str, .bool, (.int .i64), (.lst [(.int .i64), (.int .i64)])])] [(.rc (.cons (.v 0) (.cons (.v 1) (.cons (.v 2) (.cons (.v 3) (.cons (.v 4) (.cons (.v 5) (.cons (.v 6) (.cons (.v 7) (.cons (.v 8) (.cons (.v 9) .nil)))))))))))] [(.c (.int .i64))] 11), (.call 12 [(.g [.str, .str, (.int .i64), (.int .i64), (.int .i64), (.int .i64), .str, .bool, (.int .i64), (.lst [(.int .i64), (.int .i64)])])] [(.rc (.cons (.v 0) (.cons (.v 1) (.cons (.v 2) (.cons (.v 3) (.cons (.v 4) (.cons (.v 5) (.cons (.v 6) (.cons (.v 7) (.cons (.v 8) (.cons (.v 9) .nil)))))))))))] [(.c (.int .i64))] 12)]
   (.ite (.cmp .eql (.v 11) (.v 12))
    (.ev [(.call 10 [] [] [(.c .bool)] 13)]
     (.ret [(.v 13)]))
    (.ret [(.kb false)])))
  (.cal 10 [] [] [(.c .bool)] 11
   (.ret [(.v 11)]))))
theorem lEventValid_ent : EntOK Try.prog [] ⟨3, [(.g [.str, .str, (.int .i64), (.int .i64), (.int .i64), (.int .i64), .str, .bool, (.int .i64), (.lst [(.int .i64), (.int .i64)])])], [(.c .bool)], vclEventValid⟩ :=
  ent_of_gen hP Try.func3 rfl (by decide) (sg := sgs) (by kernel_rfl)
def vclEventEncodes : VC := (.cal 9 [(.g [.str, .str, (.int .i64), (.int .i64), (.int .i64), (.int .i64), .str, .bool, (.int .i64), (.lst [(.int .i64), (.int .i64)])])] [(.rc (.cons (.v 0) (.cons (.v 1) (.cons (.v 2) (.cons (.v 3) (.cons (.v 4) (.cons (.v 5) (.cons (.v 6) (.cons (.v 7) (.cons (.v 8) (.cons (.v 9) .nil)))))))))))] [(.c .bool)] 10
 (.ite (.v 10)
  (.cal 13 [(.g [.str, .str, (.int .i64), (.int .i64), (.int .i64), (.int .i64), .str, .bool, (.int .i64), (.lst [(.int .i64), (.int .i64)])])] [(.rc (.cons (.v 0) (.cons (.v 1) (.cons (.v 2) (.cons (.v 3) (.cons (.v 4) (.cons (.v 5) (.cons (.v 6) (.cons (.v 7) (.cons (.v 8) (.cons (.v 9) .nil)))))))))))] [(.c (.lst [(.int .u8)])), (.c (.int .i64))] 11
   (.cal 14 [(.g [.str, .str, (.int .i64), (.int .i64), (.int .i64), (.int .i64), .str, .bool, (.int .i64), (.lst [(.int .i64), (.int .i64)])])] [(.rc (.cons (.v 0) (.cons (.v 1) (.cons (.v 2) (.cons (.v 3) (.cons (.v 4) (.cons (.v 5) (.cons (.v 6) (.cons (.v 7) (.cons (.v 8) (.cons (.v 9) .nil)))))))))))] [(.c (.lst [(.int .u8)])), (.c (.int .i64))] 13
    (.ite (.cmp .eql (.v 12) (.v 14))
     (.ite (.seq (.b2s (.v 11)) (.b2s (.v 13)))
      (.cal 10 [] [] [(.c .bool)] 15
       (.ret [(.v 15)]))
      (.ret [(.kb false)]))
     (.ret [(.kb false)]))))
  (.cal 10 [] [] [(.c .bool)] 11
   (.ret [(.v 11)]))))
theorem lEventEncodes_ent : EntOK Try.prog [] ⟨4, [(.g [.str, .str, (.int .i64), (.int .i64), (.int .i64), (.int .i64), .str, .bool, (.int .i64), (.lst [(.int .i64), (.int .i64)])])], [(.c .bool)], vclEventEncodes⟩ :=
  ent_of_gen hP Try.func4 rfl (by decide) (sg := sgs) (by kernel_rfl)
def vclEventMessages : VC := (.cal 9 [(.g [.str, .str, (.int .i64), (.int .i64), (.int .i64), (.int .i64), .str, .bool, (.int .i64), (.lst [(.int .i64), (.int .i64)])])] [(.rc (.cons (.v 0) (.cons (.v 1) (.cons (.v 2) (.cons (.v 3) (.cons (.v 4) (.cons (.v 5) (.cons (.v 6) (.cons (.v 7) (.cons (.v 8) (.cons (.v 9) .nil)))))))))))] [(.c .bool)] 10
 (.ite (.v 10)
  (.cal 15 [(.g [.str, .str, (.int .i64), (.int .i64), (.int .i64), (.int .i64), .str, .bool, (.int .i64), (.lst [(.int .i64), (.int .i64)])])] [(.rc (.cons (.v 0) (.cons (.v 1) (.cons (.v 2) (.cons (.v 3) (.cons (.v 4) (.cons (.v 5) (.cons (.v 6) (.cons (.v 7) (.cons (.v 8) (.cons (.v 9) .nil)))))))))))] [(.g [(.int .i64), (.int .i64), (.int .i64), (.int .i64), (.int .i64), (.int .i64), (.int .i64), (.int .i64), .str, .str, .str, .bool, (.lst [(.int .i64), (.int .i64)]), (.int .i64), (.int .i64), (.int .i64), (.int .i64), (.int .i64), .str, (.int .i64), (.int .i64), (.int .i64), (.int .i64), (.lst [(.int .i64), (.int .i64)]), (.lst [.str, .str, .str, (.int .i64), (.int .i64), (.int .i64)])]), (.c (.int .i64))] 11
   (.cal 16 [(.g [.str, .str, (.int .i64), (.int .i64), (.int .i64), (.int .i64), .str, .bool, (.int .i64), (.lst [(.int .i64), (.int .i64)])])] [(.rc (.cons (.v 0) (.cons (.v 1) (.cons (.v 2) (.cons (.v 3) (.cons (.v 4) (.cons (.v 5) (.cons (.v 6) (.cons (.v 7) (.cons (.v 8) (.cons (.v 9) .nil)))))))))))] [(.g [(.int .i64), (.int .i64), (.int .i64), (.int .i64), (.int .i64), (.int .i64), (.int .i64), (.int .i64), .str, .str, .str, .bool, (.lst [(.int .i64), (.int .i64)]), (.int .i64), (.int .i64), (.int .i64), (.int .i64), (.int .i64), .str, (.int .i64), (.int .i64), (.int .i64), (.int .i64), (.lst [(.int .i64), (.int .i64)]), (.lst [.str, .str, .str, (.int .i64), (.int .i64), (.int .i64)])]), (.c (.int .i64))] 37
    (.ite (.cmp .eql (.v 36) (.v 62))
     (.cal 17 [(.g [(.int .i64), (.int .i64), (.int .i64), (.int .i64), (.int .i64), (.int .i64), (.int .i64), (.int .i64), .str, .str, .str, .bool, (.lst [(.int .i64), (.int .i64)]), (.int .i64), (.int .i64), (.int .i64), (.int .i64), (.int .i64), .str, (.int .i64), (.int .i64), (.int .i64), (.int .i64), (.lst [(.int .i64), (.int .i64)]), (.lst [.str, .str, .str, (.int .i64), (.int .i64), (.int .i64)])]), (.g [(.int .i64), (.int .i64), (.int .i64), (.int .i64), (.int .i64), (.int .i64), (.int .i64), (.int .i64), .str, .str, .str, .bool, (.lst [(.int .i64), (.int .i64)]), (.int .i64), (.int .i64), (.int .i64), (.int .i64), (.int .i64), .str, (.int .i64), (.int .i64), (.int .i64), (.int .i64), (.lst [(.int .i64), (.int .i64)]), (.lst [.str, .str, .str, (.int .i64), (.int .i64), (.int .i64)])])] [(.rc (.cons (.v 11) (.cons (.v 12) (.cons (.v 13) (.cons (.v 14) (.cons (.v 15) (.cons (.v 16) (.cons (.v 17) (.cons (.v 18) (.cons (.v 19) (.cons (.v 20) (.cons (.v 21) (.cons (.v 22) (.cons (.v 23) (.cons (.v 24) (.cons (.v 25) (.cons (.v 26) (.cons (.v 27) (.cons (.v 28) (.cons (.v 29) (.cons (.v 30) (.cons (.v 31) (.cons (.v 32) (.cons (.v 33) (.cons (.v 34) (.cons (.v 35) .nil)))))))))))))))))))))))))), (.rc (.cons (.v 37) (.cons (.v 38) (.cons (.v 39) (.cons (.v 40) (.cons (.v 41) (.cons (.v 42) (.cons (.v 43) (.cons (.v 44) (.cons (.v 45) (.cons (.v 46) (.cons (.v 47) (.cons (.v 48) (.cons (.v 49) (.cons (.v 50) (.cons (.v 51) (.cons (.v 52) (.cons (.v 53) (.cons (.v 54) (.cons (.v 55) (.cons (.v 56) (.cons (.v 57) (.cons (.v 58) (.cons (.v 59) (.cons (.v 60) (.cons (.v 61) .nil))))))))))))))))))))))))))] [(.c .bool)] 63
      (.ite (.v 63)
       (.cal 10 [] [] [(.c .bool)] 64
        (.ret [(.v 64)]))
       (.ret [(.kb false)])))
     (.ret [(.kb false)]))))
  (.cal 10 [] [] [(.c .bool)] 11
   (.ret [(.v 11)]))))
theorem lEventMessages_ent : EntOK Try.prog [] ⟨5, [(.g [.str, .str, (.int .i64), (.int .i64), (.int .i64), (.int .i64), .str, .bool, (.int .i64), (.lst [(.int .i64), (.int .i64)])])], [(.c .bool)], vclEventMessages⟩ :=
  ent_of_gen hP Try.func5 rfl (by decide) (sg := sgs) (by kernel_rfl)
def vclEventFrom : VC := (.ite (.cmp .gtr (.len (.v 0)) (.ki .i64 200))
 (.cal 10 [] [] [(.c .bool)] 26
  (.ret [(.v 26)]))
 (.ite (.cmp .gtr (.len (.v 13)) (.ki .i64 130))
  (.cal 10 [] [] [(.c .bool)] 26
   (.ret [(.v 26)]))
  (.ite (.cmp .gtr (.len (.v 25)) (.ki .i64 130))
   (.cal 10 [] [] [(.c .bool)] 26
    (.ret [(.v 26)]))
   (.ite (.cmp .gtr (.len (.v 24)) (.ki .i64 40))
    (.cal 10 [] [] [(.c .bool)] 26
     (.ret [(.v 26)]))
    (.cal 18 [(.c .str), (.g [(.int .i64), (.int .i64), (.int .i64), (.int .i64), (.int .i64), (.int .i64), (.int .i64), (.int .i64), .str, .str, .str, .bool, (.lst [(.int .i64), (.int .i64)]), (.int .i64), (.int .i64), (.int .i64), (.int .i64), (.int .i64), .str, (.int .i64), (.int .i64), (.int .i64), (.int .i64), (.lst [(.int .i64), (.int .i64)]), (.lst [.str, .str, .str, (.int .i64), (.int .i64), (.int .i64)])])] [(.v 0), (.rc (.cons (.v 1) (.cons (.v 2) (.cons (.v 3) (.cons (.v 4) (.cons (.v 5) (.cons (.v 6) (.cons (.v 7) (.cons (.v 8) (.cons (.v 9) (.cons (.v 10) (.cons (.v 11) (.cons (.v 12) (.cons (.v 13) (.cons (.v 14) (.cons (.v 15) (.cons (.v 16) (.cons (.v 17) (.cons (.v 18) (.cons (.v 19) (.cons (.v 20) (.cons (.v 21) (.cons (.v 22) (.cons (.v 23) (.cons (.v 24) (.cons (.v 25) .nil))))))))))))))))))))))))))] [(.g [.str, .str, (.int .i64), (.int .i64), (.int .i64), (.int .i64), .str, .bool, (.int .i64), (.lst [(.int .i64), (.int .i64)])]), (.c (.int .i64))] 26
     (.cal 19 [(.c .str), (.g [(.int .i64), (.int .i64), (.int .i64), (.int .i64), (.int .i64), (.int .i64), (.int .i64), (.int .i64), .str, .str, .str, .bool, (.lst [(.int .i64), (.int .i64)]), (.int .i64), (.int .i64), (.int .i64), (.int .i64), (.int .i64), .str, (.int .i64), (.int .i64), (.int .i64), (.int .i64), (.lst [(.int .i64), (.int .i64)]), (.lst [.str, .str, .str, (.int .i64), (.int .i64), (.int .i64)])])] [(.v 0), (.rc (.cons (.v 1) (.cons (.v 2) (.cons (.v 3) (.cons (.v 4) (.cons (.v 5) (.cons (.v 6) (.cons (.v 7) (.cons (.v 8) (.cons (.v 9) (.cons (.v 10) (.cons (.v 11) (.cons (.v 12) (.cons (.v 13) (.cons (.v 14) (.cons (.v 15) (.cons (.v 16) (.cons (.v 17) (.cons (.v 18) (.cons (.v 19) (.cons (.v 20) (.cons (.v 21) (.cons (.v 22) (.cons (.v 23) (.cons (.v 24) (.cons (.v 25) .nil))))))))))))))))))))))))))] [(.g [.str, .str, (.int .i64), (.int .i64), (.int .i64), (.int .i64), .str, .bool, (.int .i64), (.lst [(.int .i64), (.int .i64)])]), (.c (.int .i64))] 37
      (.ite (.cmp .eql (.v 36) (.v 47))
       (.cal 20 [(.g [.str, .str, (.int .i64), (.int .i64), (.int .i64), (.int .i64), .str, .bool, (.int .i64), (.lst [(.int .i64), (.int .i64)])]), (.g [.str, .str, (.int .i64), (.int .i64), (.int .i64), (.int .i64), .str, .bool, (.int .i64), (.lst [(.int .i64), (.int .i64)])])] [(.rc (.cons (.v 26) (.cons (.v 27) (.cons (.v 28) (.cons (.v 29) (.cons (.v 30) (.cons (.v 31) (.cons (.v 32) (.cons (.v 33) (.cons (.v 34) (.cons (.v 35) .nil))))))))))), (.rc (.cons (.v 37) (.cons (.v 38) (.cons (.v 39) (.cons (.v 40) (.cons (.v 41) (.cons (.v 42) (.cons (.v 43) (.cons (.v 44) (.cons (.v 45) (.cons (.v 46) .nil)))))))))))] [(.c .bool)] 48
        (.ite (.v 48)
         (.cal 10 [] [] [(.c .bool)] 49
          (.ret [(.v 49)]))
         (.ret [(.kb false)])))
       (.ret [(.kb false)]))))))))
theorem lEventFrom_ent : EntOK Try.prog [] ⟨6, [(.c .str), (.g [(.int .i64), (.int .i64), (.int .i64), (.int .i64), (.int .i64), (.int .i64), (.int .i64), (.int .i64), .str, .str, .str, .bool, (.lst [(.int .i64), (.int .i64)]), (.int .i64), (.int .i64), (.int .i64), (.int .i64), (.int .i64), .str, (.int .i64), (.int .i64), (.int .i64), (.int .i64), (.lst [(.int .i64), (.int .i64)]), (.lst [.str, .str, .str, (.int .i64), (.int .i64), (.int .i64)])])], [(.c .bool)], vclEventFrom⟩ :=
  ent_of_gen hP Try.func6 rfl (by decide) (sg := sgs) (by kernel_rfl)
def vclEventSame : VC := (.cal 9 [(.g [.str, .str, (.int .i64), (.int .i64), (.int .i64), (.int .i64), .str, .bool, (.int .i64), (.lst [(.int .i64), (.int .i64)])])] [(.rc (.cons (.v 0) (.cons (.v 1) (.cons (.v 2) (.cons (.v 3) (.cons (.v 4) (.cons (.v 5) (.cons (.v 6) (.cons (.v 7) (.cons (.v 8) (.cons (.v 9) .nil)))))))))))] [(.c .bool)] 20
 (.ite (.v 20)
  (.cal 9 [(.g [.str, .str, (.int .i64), (.int .i64), (.int .i64), (.int .i64), .str, .bool, (.int .i64), (.lst [(.int .i64), (.int .i64)])])] [(.rc (.cons (.v 10) (.cons (.v 11) (.cons (.v 12) (.cons (.v 13) (.cons (.v 14) (.cons (.v 15) (.cons (.v 16) (.cons (.v 17) (.cons (.v 18) (.cons (.v 19) .nil)))))))))))] [(.c .bool)] 21
   (.ite (.v 21)
    (.ev [(.call 21 [(.g [.str, .str, (.int .i64), (.int .i64), (.int .i64), (.int .i64), .str, .bool, (.int .i64), (.lst [(.int .i64), (.int .i64)])]), (.g [.str, .str, (.int .i64), (.int .i64), (.int .i64), (.int .i64), .str, .bool, (.int .i64), (.lst [(.int .i64), (.int .i64)])])] [(.rc (.cons (.v 0) (.cons (.v 1) (.cons (.v 2) (.cons (.v 3) (.cons (.v 4) (.cons (.v 5) (.cons (.v 6) (.cons (.v 7) (.cons (.v 8) (.cons (.v 9) .nil))))))))))), (.rc (.cons (.v 10) (.cons (.v 11) (.cons (.v 12) (.cons (.v 13) (.cons (.v 14) (.cons (.v 15) (.cons (.v 16) (.cons (.v 17) (.cons (.v 18) (.cons (.v 19) .nil)))))))))))] [(.c .bool)] 22), (.call 20 [(.g [.str, .str, (.int .i64), (.int .i64), (.int .i64), (.int .i64), .str, .bool, (.int .i64), (.lst [(.int .i64), (.int .i64)])]), (.g [.str, .str, (.int .i64), (.int .i64), (.int .i64), (.int .i64), .str, .bool, (.int .i64), (.lst [(.int .i64), (.int .i64)])])] [(.rc (.cons (.v 0) (.cons (.v 1) (.cons (.v 2) (.cons (.v 3) (.cons (.v 4) (.cons (.v 5) (.cons (.v 6) (.cons (.v 7) (.cons (.v 8) (.cons (.v 9) .nil))))))))))), (.rc (.cons (.v 10) (.cons (.v 11) (.cons (.v 12) (.cons (.v 13) (.cons (.v 14) (.cons (.v 15) (.cons (.v 16) (.cons (.v 17) (.cons (.v 18) (.cons (.v 19) .nil)))))))))))] [(.c .bool)] 23)]
     (.ite (.beq (.v 22) (.v 23))
      (.ev [(.call 21 [(.g [.str, .str, (.int .i64), (.int .i64), (.int .i64), (.int .i64), .str, .bool, (.int .i64), (.lst [(.int .i64), (.int .i64)])]), (.g [.str, .str, (.int .i64), (.int .i64), (.int .i64), (.int .i64), .str, .bool, (.int .i64), (.lst [(.int .i64), (.int .i64)])])] [(.rc (.cons (.v 10) (.cons (.v 11) (.cons (.v 12) (.cons (.v 13) (.cons (.v 14) (.cons (.v 15) (.cons (.v 16) (.cons (.v 17) (.cons (.v 18) (.cons (.v 19) .nil))))))))))), (.rc (.cons (.v 0) (.cons (.v 1) (.cons (.v 2) (.cons (.v 3) (.cons (.v 4) (.cons (.v 5) (.cons (.v 6) (.cons (.v 7) (.cons (.v 8) (.cons (.v 9) .nil)))))))))))] [(.c .bool)] 24), (.call 21 [(.g [.str, .str, (.int .i64), (.int .i64), (.int .i64), (.int .i64), .str, .bool, (.int .i64), (.lst [(.int .i64), (.int .i64)])]), (.g [.str, .str, (.int .i64), (.int .i64), (.int .i64), (.int .i64), .str, .bool, (.int .i64), (.lst [(.int .i64), (.int .i64)])])] [(.rc (.cons (.v 0) (.cons (.v 1) (.cons (.v 2) (.cons (.v 3) (.cons (.v 4) (.cons (.v 5) (.cons (.v 6) (.cons (.v 7) (.cons (.v 8) (.cons (.v 9) .nil))))))))))), (.rc (.cons (.v 10) (.cons (.v 11) (.cons (.v 12) (.cons (.v 13) (.cons (.v 14) (.cons (.v 15) (.cons (.v 16) (.cons (.v 17) (.cons (.v 18) (.cons (.v 19) .nil)))))))))))] [(.c .bool)] 25)]
       (.ite (.beq (.v 24) (.v 25))
        (.ev [(.call 21 [(.g [.str, .str, (.int .i64), (.int .i64), (.int .i64), (.int .i64), .str, .bool, (.int .i64), (.lst [(.int .i64), (.int .i64)])]), (.g [.str, .str, (.int .i64), (.int .i64), (.int .i64), (.int .i64), .str, .bool, (.int .i64), (.lst [(.int .i64), (.int .i64)])])] [(.rc (.cons (.v 0) (.cons (.v 1) (.cons (.v 2) (.cons (.v 3) (.cons (.v 4) (.cons (.v 5) (.cons (.v 6) (.cons (.v 7) (.cons (.v 8) (.cons (.v 9) .nil))))))))))), (.rc (.cons (.v 0) (.cons (.v 1) (.cons (.v 2) (.cons (.v 3) (.cons (.v 4) (.cons (.v 5) (.cons (.v 6) (.cons (.v 7) (.cons (.v 8) (.cons (.v 9) .nil)))))))))))] [(.c .bool)] 26)]
         (.ite (.v 26)
          (.ev [(.call 10 [] [] [(.c .bool)] 27)]
           (.ret [(.v 27)]))
          (.ret [(.kb false)])))
        (.ret [(.kb false)])))
      (.ret [(.kb false)])))
    (.cal 10 [] [] [(.c .bool)] 22
     (.ret [(.v 22)]))))
  (.cal 10 [] [] [(.c .bool)] 21
   (.ret [(.v 21)]))))
theorem lEventSame_ent : EntOK Try.prog [] ⟨7, [(.g [.str, .str, (.int .i64), (.int .i64), (.int .i64), (.int .i64), .str, .bool, (.int .i64), (.lst [(.int .i64), (.int .i64)])]), (.g [.str, .str, (.int .i64), (.int .i64), (.int .i64), (.int .i64), .str, .bool, (.int .i64), (.lst [(.int .i64), (.int .i64)])])], [(.c .bool)], vclEventSame⟩ :=
  ent_of_gen hP Try.func7 rfl (by decide) (sg := sgs) (by kernel_rfl)
def vclEventApart : VC := (.cal 9 [(.g [.str, .str, (.int .i64), (.int .i64), (.int .i64), (.int .i64), .str, .bool, (.int .i64), (.lst [(.int .i64), (.int .i64)])])] [(.rc (.cons (.v 0) (.cons (.v 1) (.cons (.v 2) (.cons (.v 3) (.cons (.v 4) (.cons (.v 5) (.cons (.v 6) (.cons (.v 7) (.cons (.v 8) (.cons (.v 9) .nil)))))))))))] [(.c .bool)] 20
 (.ite (.v 20)
  (.cal 9 [(.g [.str, .str, (.int .i64), (.int .i64), (.int .i64), (.int .i64), .str, .bool, (.int .i64), (.lst [(.int .i64), (.int .i64)])])] [(.rc (.cons (.v 10) (.cons (.v 11) (.cons (.v 12) (.cons (.v 13) (.cons (.v 14) (.cons (.v 15) (.cons (.v 16) (.cons (.v 17) (.cons (.v 18) (.cons (.v 19) .nil)))))))))))] [(.c .bool)] 21
   (.ite (.v 21)
    (.cal 13 [(.g [.str, .str, (.int .i64), (.int .i64), (.int .i64), (.int .i64), .str, .bool, (.int .i64), (.lst [(.int .i64), (.int .i64)])])] [(.rc (.cons (.v 0) (.cons (.v 1) (.cons (.v 2) (.cons (.v 3) (.cons (.v 4) (.cons (.v 5) (.cons (.v 6) (.cons (.v 7) (.cons (.v 8) (.cons (.v 9) .nil)))))))))))] [(.c (.lst [(.int .u8)])), (.c (.int .i64))] 22
     (.cal 13 [(.g [.str, .str, (.int .i64), (.int .i64), (.int .i64), (.int .i64), .str, .bool, (.int .i64), (.lst [(.int .i64), (.int .i64)])])] [(.rc (.cons (.v 10) (.cons (.v 11) (.cons (.v 12) (.cons (.v 13) (.cons (.v 14) (.cons (.v 15) (.cons (.v 16) (.cons (.v 17) (.cons (.v 18) (.cons (.v 19) .nil)))))))))))] [(.c (.lst [(.int .u8)])), (.c (.int .i64))] 24
      (.ite (.cmp .neq (.v 23) (.ki .i64 0))
       (.cal 10 [] [] [(.c .bool)] 26
        (.ret [(.v 26)]))
       (.ite (.cmp .neq (.v 25) (.ki .i64 0))
        (.cal 10 [] [] [(.c .bool)] 26
         (.ret [(.v 26)]))
        (.ev [(.call 21 [(.g [.str, .str, (.int .i64), (.int .i64), (.int .i64), (.int .i64), .str, .bool, (.int .i64), (.lst [(.int .i64), (.int .i64)])]), (.g [.str, .str, (.int .i64), (.int .i64), (.int .i64), (.int .i64), .str, .bool, (.int .i64), (.lst [(.int .i64), (.int .i64)])])] [(.rc (.cons (.v 0) (.cons (.v 1) (.cons (.v 2) (.cons (.v 3) (.cons (.v 4) (.cons (.v 5) (.cons (.v 6) (.cons (.v 7) (.cons (.v 8) (.cons (.v 9) .nil))))))))))), (.rc (.cons (.v 10) (.cons (.v 11) (.cons (.v 12) (.cons (.v 13) (.cons (.v 14) (.cons (.v 15) (.cons (.v 16) (.cons (.v 17) (.cons (.v 18) (.cons (.v 19) .nil)))))))))))] [(.c .bool)] 26)]
         (.ite (.beq (.seq (.b2s (.v 22)) (.b2s (.v 24))) (.v 26))
          (.ev [(.call 10 [] [] [(.c .bool)] 27)]
           (.ret [(.v 27)]))
          (.ret [(.kb false)])))))))
    (.cal 10 [] [] [(.c .bool)] 22
     (.ret [(.v 22)]))))
  (.cal 10 [] [] [(.c .bool)] 21
   (.ret [(.v 21)]))))
theorem lEventApart_ent : EntOK Try.prog [] ⟨8, [(.g [.str, .str, (.int .i64), (.int .i64), (.int .i64), (.int .i64), .str, .bool, (.int .i64), (.lst [(.int .i64), (.int .i64)])]), (.g [.str, .str, (.int .i64), (.int .i64), (.int .i64), (.int .i64), .str, .bool, (.int .i64), (.lst [(.int .i64), (.int .i64)])])], [(.c .bool)], vclEventApart⟩ :=
  ent_of_gen hP Try.func8 rfl (by decide) (sg := sgs) (by kernel_rfl)
def smallB (e : E30.Ev) : Bool := decide (e.rd.length ≤ 130 ∧ e.st.size ≤ 200 ∧ e.tx.size ≤ 200 ∧ e.tk.size ≤ 200)
theorem small_fn (e : E30.Ev) : Fun Try.prog [] 9 [tE] [evD e] [tB] (.ok [.bool (smallB e)]) := by
  refine small_ent _ _ ?_
  show vcsmall.den _ _ _ _ _
  unfold vcsmall
  refine den_ite (fun h1 => ?_) (fun h1 => ?_)
  · simp only [E.den, D.toI, D.toB, D.toL, D.toS, D.len, D.mapL, flatD, dE] at h1
    refine den_ite (fun h2 => ?_) (fun h2 => ?_)
    · simp only [E.den, D.toI, D.toB, D.toL, D.toS, D.len, D.mapL, flatD, dE] at h2
      refine den_ite (fun h3 => ?_) (fun h3 => ?_)
      · simp only [E.den, D.toI, D.toB, D.toL, D.toS, D.len, D.mapL, flatD, dE] at h3
        refine den_ret ?_
        simp only [E.den, D.toI, D.toB, D.toL, D.toS, D.len, D.mapL, flatD, dE]
        (first | (simp [smallB, *]; done) | (simp [smallB, *]; omega) | (simp only [smallB, FR.ok.injEq, List.cons.injEq, D.bool.injEq, and_true, decide_eq_decide, Bool.false_eq, decide_eq_false_iff_not]; omega))
      · simp only [E.den, D.toI, D.toB, D.toL, D.toS, D.len, D.mapL, flatD, dE] at h3
        refine den_ret ?_
        simp only [E.den, D.toI, D.toB, D.toL, D.toS, D.len, D.mapL, flatD, dE]
        (first | (simp [smallB, *]; done) | (simp [smallB, *]; omega) | (simp only [smallB, FR.ok.injEq, List.cons.injEq, D.bool.injEq, and_true, decide_eq_decide, Bool.false_eq, decide_eq_false_iff_not]; omega))
    · simp only [E.den, D.toI, D.toB, D.toL, D.toS, D.len, D.mapL, flatD, dE] at h2
      refine den_ret ?_
      simp only [E.den, D.toI, D.toB, D.toL, D.toS, D.len, D.mapL, flatD, dE]
      (first | (simp [smallB, *]; done) | (simp [smallB, *]; omega) | (simp only [smallB, FR.ok.injEq, List.cons.injEq, D.bool.injEq, and_true, decide_eq_decide, Bool.false_eq, decide_eq_false_iff_not]; omega))
  · simp only [E.den, D.toI, D.toB, D.toL, D.toS, D.len, D.mapL, flatD, dE] at h1
    refine den_ret ?_
    simp only [E.den, D.toI, D.toB, D.toL, D.toS, D.len, D.mapL, flatD, dE]
    (first | (simp [smallB, *]; done) | (simp [smallB, *]; omega) | (simp only [smallB, FR.ok.injEq, List.cons.injEq, D.bool.injEq, and_true, decide_eq_decide, Bool.false_eq, decide_eq_false_iff_not]; omega))
theorem apart_eq {a b : E30.Ev} (ha : EvT a) (hb : EvT b) (h3 : validS a = 0) (h4 : validS b = 0) : (decide (byE a = byE b) == decide (a = b)) = true := by
  by_cases h : a = b
  · subst h; simp
  · have : byE a ≠ byE b := fun e => h (byE_inj ha hb (ok_of h3) (ok_of h4) e)
    simp [h, this]
theorem msgR_ok {e : E30.Ev} (he : EvT e) : msOK (msgR e) := by
  unfold msgR
  split
  · exact ⟨he.rl, Nat.zero_le _, Nat.zero_le _⟩
  · exact ⟨Nat.zero_le _, Nat.zero_le _, Nat.zero_le _⟩
end Go.Proofs.Ytoncflpifafhlaa.E30l
