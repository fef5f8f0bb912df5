/-
  The examples of layer 30, reckoned out. No conditions stand ahead of what is proved.
-/
import Derived.Test.YtoncflpifafhlaaE30b
import Derived.Test.YtoncflpifafhlaaL7n
set_option maxRecDepth 100000
set_option linter.unusedSimpArgs false
set_option linter.unusedVariables false
namespace Go.Proofs.Ytoncflpifafhlaa.E30x
open Go.Proofs.Ytoncflpifafhlaa Go.Proofs.Ytoncflpifafhlaa.Sy Go.Proofs.Ytoncflpifafhlaa.L7 Go.Proofs.Ytoncflpifafhlaa.Id Go.Proofs.Ytoncflpifafhlaa.R26 Go.Proofs.Ytoncflpifafhlaa.E30 Go.Proofs.Ytoncflpifafhlaa.L7n Go.RowKit Go.WideShapes Go.ChangeShapes Go.ChangeAt
theorem hP : NoNum Try.prog := by unfold NoNum; kernel_rfl
def sgs : Nat → Option (List TS × List TS) := fun f => if Nat.beq f 45 then some ([.p [.s .str, .s .str, .s (.int .i64), .s (.int .i64), .s (.int .i64), .s (.int .i64), .s .str, .s .bool, .s (.int .i64), .s (.lst [.int .i64, .int .i64])], .g [.int .i64, .lst [.int .u8]]], [.c .bool]) else none
def vcex : VC := (.cal 22 [] [] [(.g [.str, .str, (.int .i64), (.int .i64), (.int .i64), (.int .i64), .str, .bool, (.int .i64), (.lst [(.int .i64), (.int .i64)])])] 0
 (.cal 13 [(.g [.str, .str, (.int .i64), (.int .i64), (.int .i64), (.int .i64), .str, .bool, (.int .i64), (.lst [(.int .i64), (.int .i64)])])] [(.rc (.cons (.v 0) (.cons (.v 1) (.cons (.v 2) (.cons (.v 3) (.cons (.v 4) (.cons (.v 5) (.cons (.v 6) (.cons (.v 7) (.cons (.v 8) (.cons (.v 9) .nil)))))))))))] [(.c (.lst [(.int .u8)])), (.c (.int .i64))] 10
  (.cal 23 [(.c (.lst [(.int .u8)]))] [(.v 10)] [(.g [.str, .str, (.int .i64), (.int .i64), (.int .i64), (.int .i64), .str, .bool, (.int .i64), (.lst [(.int .i64), (.int .i64)])]), (.c (.int .i64))] 12
   (.cal 15 [(.g [.str, .str, (.int .i64), (.int .i64), (.int .i64), (.int .i64), .str, .bool, (.int .i64), (.lst [(.int .i64), (.int .i64)])])] [(.rc (.cons (.v 0) (.cons (.v 1) (.cons (.v 2) (.cons (.v 3) (.cons (.v 4) (.cons (.v 5) (.cons (.v 6) (.cons (.v 7) (.cons (.v 8) (.cons (.v 9) .nil)))))))))))] [(.g [(.int .i64), (.int .i64), (.int .i64), (.int .i64), (.int .i64), (.int .i64), (.int .i64), (.int .i64), .str, .str, .str, .bool, (.lst [(.int .i64), (.int .i64)]), (.int .i64), (.int .i64), (.int .i64), (.int .i64), (.int .i64), .str, (.int .i64), (.int .i64), (.int .i64), (.int .i64), (.lst [(.int .i64), (.int .i64)]), (.lst [.str, .str, .str, (.int .i64), (.int .i64), (.int .i64)])]), (.c (.int .i64))] 23
    (.cal 18 [(.c .str), (.g [(.int .i64), (.int .i64), (.int .i64), (.int .i64), (.int .i64), (.int .i64), (.int .i64), (.int .i64), .str, .str, .str, .bool, (.lst [(.int .i64), (.int .i64)]), (.int .i64), (.int .i64), (.int .i64), (.int .i64), (.int .i64), .str, (.int .i64), (.int .i64), (.int .i64), (.int .i64), (.lst [(.int .i64), (.int .i64)]), (.lst [.str, .str, .str, (.int .i64), (.int .i64), (.int .i64)])])] [(.ks ⟨List.toArray [83]⟩), (.rc (.cons (.v 23) (.cons (.v 24) (.cons (.v 25) (.cons (.v 26) (.cons (.v 27) (.cons (.v 28) (.cons (.v 29) (.cons (.v 30) (.cons (.v 31) (.cons (.v 32) (.cons (.v 33) (.cons (.v 34) (.cons (.v 35) (.cons (.v 36) (.cons (.v 37) (.cons (.v 38) (.cons (.v 39) (.cons (.v 40) (.cons (.v 41) (.cons (.v 42) (.cons (.v 43) (.cons (.v 44) (.cons (.v 45) (.cons (.v 46) (.cons (.v 47) .nil))))))))))))))))))))))))))] [(.g [.str, .str, (.int .i64), (.int .i64), (.int .i64), (.int .i64), .str, .bool, (.int .i64), (.lst [(.int .i64), (.int .i64)])]), (.c (.int .i64))] 49
     (.cal 11 [(.g [.str, .str, (.int .i64), (.int .i64), (.int .i64), (.int .i64), .str, .bool, (.int .i64), (.lst [(.int .i64), (.int .i64)])])] [(.rc (.cons (.v 0) (.cons (.v 1) (.cons (.v 2) (.cons (.v 3) (.cons (.v 4) (.cons (.v 5) (.cons (.v 6) (.cons (.v 7) (.cons (.v 8) (.cons (.v 9) .nil)))))))))))] [(.c (.int .i64))] 60
      (.ite (.cmp .neq (.v 60) (.ki .i64 0))
       (.ret [(.kb false)])
       (.ite (.cmp .neq (.v 11) (.ki .i64 0))
        (.ret [(.kb false)])
        (.ite (.cmp .neq (.v 22) (.ki .i64 0))
         (.ret [(.kb false)])
         (.ite (.cmp .neq (.v 48) (.ki .i64 0))
          (.ret [(.kb false)])
          (.ite (.cmp .neq (.v 59) (.ki .i64 0))
           (.ret [(.kb false)])
           (.cal 21 [(.g [.str, .str, (.int .i64), (.int .i64), (.int .i64), (.int .i64), .str, .bool, (.int .i64), (.lst [(.int .i64), (.int .i64)])]), (.g [.str, .str, (.int .i64), (.int .i64), (.int .i64), (.int .i64), .str, .bool, (.int .i64), (.lst [(.int .i64), (.int .i64)])])] [(.rc (.cons (.v 0) (.cons (.v 1) (.cons (.v 2) (.cons (.v 3) (.cons (.v 4) (.cons (.v 5) (.cons (.v 6) (.cons (.v 7) (.cons (.v 8) (.cons (.v 9) .nil))))))))))), (.rc (.cons (.v 12) (.cons (.v 13) (.cons (.v 14) (.cons (.v 15) (.cons (.v 16) (.cons (.v 17) (.cons (.v 18) (.cons (.v 19) (.cons (.v 20) (.cons (.v 21) .nil)))))))))))] [(.c .bool)] 61
            (.ite (.v 61)
             (.cal 21 [(.g [.str, .str, (.int .i64), (.int .i64), (.int .i64), (.int .i64), .str, .bool, (.int .i64), (.lst [(.int .i64), (.int .i64)])]), (.g [.str, .str, (.int .i64), (.int .i64), (.int .i64), (.int .i64), .str, .bool, (.int .i64), (.lst [(.int .i64), (.int .i64)])])] [(.rc (.cons (.v 0) (.cons (.v 1) (.cons (.v 2) (.cons (.v 3) (.cons (.v 4) (.cons (.v 5) (.cons (.v 6) (.cons (.v 7) (.cons (.v 8) (.cons (.v 9) .nil))))))))))), (.rc (.cons (.v 49) (.cons (.v 50) (.cons (.v 51) (.cons (.v 52) (.cons (.v 53) (.cons (.v 54) (.cons (.v 55) (.cons (.v 56) (.cons (.v 57) (.cons (.v 58) .nil)))))))))))] [(.c .bool)] 62
              (.ite (.v 62)
               (.ite (.cmp .neq (.v 30) (.ki .i64 1))
                (.ret [(.kb false)])
                (.cal 22 [] [] [(.g [.str, .str, (.int .i64), (.int .i64), (.int .i64), (.int .i64), .str, .bool, (.int .i64), (.lst [(.int .i64), (.int .i64)])])] 63
                 (.cal 23 [(.c (.lst [(.int .u8)]))] [.nil] [(.g [.str, .str, (.int .i64), (.int .i64), (.int .i64), (.int .i64), .str, .bool, (.int .i64), (.lst [(.int .i64), (.int .i64)])]), (.c (.int .i64))] 73
                  (.cal 11 [(.g [.str, .str, (.int .i64), (.int .i64), (.int .i64), (.int .i64), .str, .bool, (.int .i64), (.lst [(.int .i64), (.int .i64)])])] [(.rc (.cons (.v 0) (.cons (.v 1) (.cons (.v 2) (.cons (.v 3) (.cons (.v 4) (.cons (.v 5) (.cons (.v 6) (.cons (.v 7) (.cons (.v 8) (.cons (.cons (.rc (.cons (.ki .i64 9) (.cons (.ki .i64 100) .nil))) .nil) .nil)))))))))))] [(.c (.int .i64))] 84
                   (.ite (.cmp .eql (.v 84) (.ki .i64 1))
                    (.cal 11 [(.g [.str, .str, (.int .i64), (.int .i64), (.int .i64), (.int .i64), .str, .bool, (.int .i64), (.lst [(.int .i64), (.int .i64)])])] [(.rc (.cons (.v 63) (.cons (.v 64) (.cons (.v 65) (.cons (.v 66) (.cons (.ki .i64 2) (.cons (.v 68) (.cons (.ks ⟨List.toArray []⟩) (.cons (.v 70) (.cons (.ki .i64 0) (.cons (.v 72) .nil)))))))))))] [(.c (.int .i64))] 85
                     (.ite (.cmp .eql (.v 85) (.ki .i64 1))
                      (.ret [(.cmp .eql (.v 83) (.ki .i64 4))])
                      (.ret [(.kb false)])))
                    (.ret [(.kb false)]))))))
               (.ret [(.kb false)])))
             (.ret [(.kb false)]))))))))))))))
theorem ex_ent : EntOK Try.prog [] ⟨10, [], [(.c .bool)], vcex⟩ :=
  ent_of_gen hP Try.func10 rfl (by decide) (sg := sgs) (by kernel_rfl)
def vcstart : VC := (.ret [(.rc (.cons (.ks ⟨List.toArray [83]⟩) (.cons (.ks ⟨List.toArray [83, 45, 49]⟩) (.cons (.ki .i64 1) (.cons (.ki .i64 0) (.cons (.ki .i64 1) (.cons (.ki .i64 10) (.cons (.ks ⟨List.toArray [65]⟩) (.cons (.kb false) (.cons (.ki .i64 0) (.cons (.cons (.rc (.cons (.ki .i64 10) (.cons (.ki .i64 100) .nil))) .nil) .nil)))))))))))])
theorem start_ent : EntOK Try.prog [] ⟨22, [], [(.g [.str, .str, (.int .i64), (.int .i64), (.int .i64), (.int .i64), .str, .bool, (.int .i64), (.lst [(.int .i64), (.int .i64)])])], vcstart⟩ :=
  ent_of_gen hP Try.func22 rfl (by decide) (sg := sgs) (by kernel_rfl)
def vcdecode : VC := (.cal 44 [(.c (.lst [(.int .u8)]))] [(.v 0)] [(.c (.lst [(.int .i64), (.lst [(.int .u8)])])), (.c (.int .i64))] 1
 (.ite (.cmp .neq (.v 2) (.ki .i64 0))
  (.ret [(.rc (.cons (.ks ⟨List.toArray []⟩) (.cons (.ks ⟨List.toArray []⟩) (.cons (.ki .i64 0) (.cons (.ki .i64 0) (.cons (.ki .i64 0) (.cons (.ki .i64 0) (.cons (.ks ⟨List.toArray []⟩) (.cons (.kb false) (.cons (.ki .i64 0) (.cons .nil .nil))))))))))), (.v 2)])
  (.loop [.str, .str, (.int .i64), (.int .i64), (.int .i64), (.int .i64), .str, .bool, (.int .i64), (.lst [(.int .i64), (.int .i64)]), (.int .i64), (.int .i64)] [(.ks ⟨List.toArray []⟩), (.ks ⟨List.toArray []⟩), (.ki .i64 0), (.ki .i64 0), (.ki .i64 0), (.ki .i64 0), (.ks ⟨List.toArray []⟩), (.kb false), (.ki .i64 0), .nil, (.ki .i64 0), (.ki .i64 0)]
   (.ite (.cmp .lss (.v 14) (.len (.v 1)))
    (.ev [(.ob (.cmp .geq (.v 14) (.ki .i64 0))), (.ob (.cmp .lss (.v 14) (.len (.v 1))))]
     (.cal 45 [(.p [(.s .str), (.s .str), (.s (.int .i64)), (.s (.int .i64)), (.s (.int .i64)), (.s (.int .i64)), (.s .str), (.s .bool), (.s (.int .i64)), (.s (.lst [(.int .i64), (.int .i64)]))]), (.g [(.int .i64), (.lst [(.int .u8)])])] [(.rc (.cons (.v 3) (.cons (.v 4) (.cons (.v 5) (.cons (.v 6) (.cons (.v 7) (.cons (.v 8) (.cons (.v 9) (.cons (.v 10) (.cons (.v 11) (.cons (.v 12) .nil))))))))))), (.rc (.cons (.cell (.get (.v 1) (.v 14)) 0) (.cons (.cell (.get (.v 1) (.v 14)) 1) .nil)))] [(.c .bool)] 15
      (.ite (.v 15)
       (.back 0 [(.v 16), (.v 17), (.v 18), (.v 19), (.v 20), (.v 21), (.v 22), (.v 23), (.v 24), (.v 25), (.v 13), (.ar .add .i64 (.v 14) (.ki .i64 1))])
       (.ret [(.rc (.cons (.ks ⟨List.toArray []⟩) (.cons (.ks ⟨List.toArray []⟩) (.cons (.ki .i64 0) (.cons (.ki .i64 0) (.cons (.ki .i64 0) (.cons (.ki .i64 0) (.cons (.ks ⟨List.toArray []⟩) (.cons (.kb false) (.cons (.ki .i64 0) (.cons .nil .nil))))))))))), (.ki .i64 5)]))))
    (.cal 11 [(.g [.str, .str, (.int .i64), (.int .i64), (.int .i64), (.int .i64), .str, .bool, (.int .i64), (.lst [(.int .i64), (.int .i64)])])] [(.rc (.cons (.v 3) (.cons (.v 4) (.cons (.v 5) (.cons (.v 6) (.cons (.v 7) (.cons (.v 8) (.cons (.v 9) (.cons (.v 10) (.cons (.v 11) (.cons (.v 12) .nil)))))))))))] [(.c (.int .i64))] 15
     (.ite (.cmp .neq (.v 15) (.ki .i64 0))
      (.ret [(.rc (.cons (.ks ⟨List.toArray []⟩) (.cons (.ks ⟨List.toArray []⟩) (.cons (.ki .i64 0) (.cons (.ki .i64 0) (.cons (.ki .i64 0) (.cons (.ki .i64 0) (.cons (.ks ⟨List.toArray []⟩) (.cons (.kb false) (.cons (.ki .i64 0) (.cons .nil .nil))))))))))), (.v 15)])
      (.ret [(.rc (.cons (.v 3) (.cons (.v 4) (.cons (.v 5) (.cons (.v 6) (.cons (.v 7) (.cons (.v 8) (.cons (.v 9) (.cons (.v 10) (.cons (.v 11) (.cons (.v 12) .nil))))))))))), (.ki .i64 0)])))))))
theorem decode_ent : EntOK Try.prog [] ⟨23, [(.c (.lst [(.int .u8)]))], [(.g [.str, .str, (.int .i64), (.int .i64), (.int .i64), (.int .i64), .str, .bool, (.int .i64), (.lst [(.int .i64), (.int .i64)])]), (.c (.int .i64))], vcdecode⟩ :=
  ent_of_gen hP Try.func23 rfl (by decide) (sg := sgs) (by kernel_rfl)
def vctakefield : VC := (.ite (.cmp .eql (.v 10) (.ki .i64 1))
 (.ret [(.not (.seq (.b2s (.v 11)) (.ks ⟨List.toArray []⟩))), (.rc (.cons (.b2s (.v 11)) (.cons (.v 1) (.cons (.v 2) (.cons (.v 3) (.cons (.v 4) (.cons (.v 5) (.cons (.v 6) (.cons (.v 7) (.cons (.v 8) (.cons (.v 9) .nil)))))))))))])
 (.ite (.cmp .eql (.v 10) (.ki .i64 2))
  (.ret [(.not (.seq (.b2s (.v 11)) (.ks ⟨List.toArray []⟩))), (.rc (.cons (.v 0) (.cons (.b2s (.v 11)) (.cons (.v 2) (.cons (.v 3) (.cons (.v 4) (.cons (.v 5) (.cons (.v 6) (.cons (.v 7) (.cons (.v 8) (.cons (.v 9) .nil)))))))))))])
  (.ite (.cmp .eql (.v 10) (.ki .i64 7))
   (.ret [(.not (.seq (.b2s (.v 11)) (.ks ⟨List.toArray []⟩))), (.rc (.cons (.v 0) (.cons (.v 1) (.cons (.v 2) (.cons (.v 3) (.cons (.v 4) (.cons (.v 5) (.cons (.b2s (.v 11)) (.cons (.v 7) (.cons (.v 8) (.cons (.v 9) .nil)))))))))))])
   (.ite (.cmp .eql (.v 10) (.ki .i64 10))
    (.cal 62 [(.c (.lst [(.int .u8)]))] [(.v 11)] [(.c (.lst [(.int .i64), (.int .i64)])), (.c .bool)] 12
     (.ite (.v 13)
      (.ret [(.cmp .gtr (.len (.v 12)) (.ki .i64 0)), (.rc (.cons (.v 0) (.cons (.v 1) (.cons (.v 2) (.cons (.v 3) (.cons (.v 4) (.cons (.v 5) (.cons (.v 6) (.cons (.v 7) (.cons (.v 8) (.cons (.v 12) .nil)))))))))))])
      (.ret [(.kb false), (.rc (.cons (.v 0) (.cons (.v 1) (.cons (.v 2) (.cons (.v 3) (.cons (.v 4) (.cons (.v 5) (.cons (.v 6) (.cons (.v 7) (.cons (.v 8) (.cons (.v 12) .nil)))))))))))])))
    (.cal 63 [(.c (.lst [(.int .u8)]))] [(.v 11)] [(.c (.int .i64)), (.c (.int .i64))] 12
     (.ite (.cmp .neq (.v 13) (.ki .i64 0))
      (.ret [(.kb false), (.rc (.cons (.v 0) (.cons (.v 1) (.cons (.v 2) (.cons (.v 3) (.cons (.v 4) (.cons (.v 5) (.cons (.v 6) (.cons (.v 7) (.cons (.v 8) (.cons (.v 9) .nil)))))))))))])
      (.ite (.cmp .eql (.v 12) (.ki .i64 0))
       (.ret [(.kb false), (.rc (.cons (.v 0) (.cons (.v 1) (.cons (.v 2) (.cons (.v 3) (.cons (.v 4) (.cons (.v 5) (.cons (.v 6) (.cons (.v 7) (.cons (.v 8) (.cons (.v 9) .nil)))))))))))])
       (.ite (.cmp .eql (.v 10) (.ki .i64 3))
        (.ret [(.kb true), (.rc (.cons (.v 0) (.cons (.v 1) (.cons (.v 12) (.cons (.v 3) (.cons (.v 4) (.cons (.v 5) (.cons (.v 6) (.cons (.v 7) (.cons (.v 8) (.cons (.v 9) .nil)))))))))))])
        (.ite (.cmp .eql (.v 10) (.ki .i64 4))
         (.ret [(.kb true), (.rc (.cons (.v 0) (.cons (.v 1) (.cons (.v 2) (.cons (.v 12) (.cons (.v 4) (.cons (.v 5) (.cons (.v 6) (.cons (.v 7) (.cons (.v 8) (.cons (.v 9) .nil)))))))))))])
         (.ite (.cmp .eql (.v 10) (.ki .i64 5))
          (.ret [(.kb true), (.rc (.cons (.v 0) (.cons (.v 1) (.cons (.v 2) (.cons (.v 3) (.cons (.v 12) (.cons (.v 5) (.cons (.v 6) (.cons (.v 7) (.cons (.v 8) (.cons (.v 9) .nil)))))))))))])
          (.ite (.cmp .eql (.v 10) (.ki .i64 6))
           (.ret [(.kb true), (.rc (.cons (.v 0) (.cons (.v 1) (.cons (.v 2) (.cons (.v 3) (.cons (.v 4) (.cons (.v 12) (.cons (.v 6) (.cons (.v 7) (.cons (.v 8) (.cons (.v 9) .nil)))))))))))])
           (.ite (.cmp .eql (.v 10) (.ki .i64 8))
            (.ret [(.cmp .eql (.v 12) (.ki .i64 1)), (.rc (.cons (.v 0) (.cons (.v 1) (.cons (.v 2) (.cons (.v 3) (.cons (.v 4) (.cons (.v 5) (.cons (.v 6) (.cons (.kb true) (.cons (.v 8) (.cons (.v 9) .nil)))))))))))])
            (.ite (.cmp .eql (.v 10) (.ki .i64 9))
             (.ret [(.kb true), (.rc (.cons (.v 0) (.cons (.v 1) (.cons (.v 2) (.cons (.v 3) (.cons (.v 4) (.cons (.v 5) (.cons (.v 6) (.cons (.v 7) (.cons (.v 12) (.cons (.v 9) .nil)))))))))))])
             (.ret [(.kb false), (.rc (.cons (.v 0) (.cons (.v 1) (.cons (.v 2) (.cons (.v 3) (.cons (.v 4) (.cons (.v 5) (.cons (.v 6) (.cons (.v 7) (.cons (.v 8) (.cons (.v 9) .nil)))))))))))]))))))))))))))
theorem takefield_ent : EntOK Try.prog [] ⟨45, [(.p [(.s .str), (.s .str), (.s (.int .i64)), (.s (.int .i64)), (.s (.int .i64)), (.s (.int .i64)), (.s .str), (.s .bool), (.s (.int .i64)), (.s (.lst [(.int .i64), (.int .i64)]))]), (.g [(.int .i64), (.lst [(.int .u8)])])], [(.c .bool)], vctakefield⟩ :=
  ent_of_gen hP Try.func45 rfl (by decide) (sg := sgs) (by kernel_rfl)
def vctakerd : VC := (.cal 69 [(.c (.lst [(.int .u8)]))] [(.v 0)] [(.c (.lst [(.lst [(.int .u8)])])), (.c (.int .i64))] 1
 (.ite (.cmp .neq (.v 2) (.ki .i64 0))
  (.ret [.nil, (.kb false)])
  (.ite (.cmp .neq (.ar .rem .i64 (.len (.v 1)) (.ki .i64 2)) (.ki .i64 0))
   (.ret [.nil, (.kb false)])
   (.ev [(.ob (.cmp .leq (.ki .i64 0) (.ar .quo .i64 (.len (.v 1)) (.ki .i64 2)))), (.ob (.cmp .leq (.ar .quo .i64 (.len (.v 1)) (.ki .i64 2)) (.ki .i64 4294967296)))]
    (.loop [(.lst [(.int .i64), (.int .i64)]), (.lst [(.int .i64), (.int .i64)]), .bool, (.int .i64)] [(.rep (.ki .i64 0) (.rc (.cons (.ki .i64 0) (.cons (.ki .i64 0) .nil)))), .nil, (.kb false), (.ki .i64 0)]
     (.ite (.cmp .lss (.v 6) (.len (.v 1)))
      (.ev [(.ob (.cmp .geq (.v 6) (.ki .i64 0))), (.ob (.cmp .lss (.v 6) (.len (.v 1))))]
       (.cal 63 [(.c (.lst [(.int .u8)]))] [(.get (.v 1) (.v 6))] [(.c (.int .i64)), (.c (.int .i64))] 7
        (.ite (.cmp .neq (.v 8) (.ki .i64 0))
         (.ret [.nil, (.kb false)])
         (.ev [(.ob (.cmp .geq (.ar .add .i64 (.v 6) (.ki .i64 1)) (.ki .i64 0))), (.ob (.cmp .lss (.ar .add .i64 (.v 6) (.ki .i64 1)) (.len (.v 1))))]
          (.cal 63 [(.c (.lst [(.int .u8)]))] [(.get (.v 1) (.ar .add .i64 (.v 6) (.ki .i64 1)))] [(.c (.int .i64)), (.c (.int .i64))] 9
           (.ite (.cmp .neq (.v 10) (.ki .i64 0))
            (.ret [.nil, (.kb false)])
            (.ev [(.ob (.cmp .leq (.len (.app (.v 3) (.cons (.rc (.cons (.v 7) (.cons (.v 9) .nil))) .nil))) (.ki .i64 4294967296)))]
             (.back 0 [(.app (.v 3) (.cons (.rc (.cons (.v 7) (.cons (.v 9) .nil))) .nil)), (.v 4), (.v 5), (.ar .add .i64 (.v 6) (.ki .i64 2))]))))))))
      (.ret [(.v 3), (.kb true)])))))))
theorem takerd_ent : EntOK Try.prog [] ⟨62, [(.c (.lst [(.int .u8)]))], [(.c (.lst [(.int .i64), (.int .i64)])), (.c .bool)], vctakerd⟩ :=
  ent_of_gen hP Try.func62 rfl (by decide) (sg := sgs) (by kernel_rfl)
def rdOf : List D → Option (List (Int × Int))
  | [] => some []
  | .rc [.int .i64 a, .int .i64 b] :: l => match rdOf l with | some m => some ((a, b) :: m) | none => none
  | _ :: _ => none
theorem rdOf_eq : ∀ {l : List D} {m : List (Int × Int)}, rdOf l = some m → l = m.map rD
  | [], m, h => by simp only [rdOf, Option.some.injEq] at h; subst h; rfl
  | d :: l, m, h => by
    unfold rdOf at h
    split at h
    · cases ‹_ :: _ = []›
    · rename_i a b l' e
      cases e
      split at h
      · rename_i m' hm
        cases h
        rw [rdOf_eq hm]
        rfl
      · cases h
    · cases h
def nCloneRd : NEnt := ⟨37, [tR], [tR], fun ds => match ds with
  | [.lst l] => (match rdOf l with | some m => (if Nat.ble m.length 4294967296 then some (.ok [rdD m]) else none) | none => none)
  | _ => none⟩
theorem nCloneRd_ok : NEntOK Try.prog [] nCloneRd := by
  intro ds r h
  simp only [nCloneRd] at h
  split at h
  · rename_i l
    split at h
    · rename_i m hm
      split at h
      · rename_i hl
        cases h
        have := rdOf_eq hm
        subst this
        exact clonerd_fn m (Nat.le_of_ble_eq_true hl)
      · cases h
    · cases h
  · cases h
def natX : List NEnt := nCloneRd :: nats
theorem natX_ok : ∀ e ∈ natX, NEntOK Try.prog [] e := by
  intro e he
  rcases List.mem_cons.1 he with rfl | he
  · exact nCloneRd_ok
  · exact nats_ok e he
def entX : List Ent := [⟨10, [], [(.c .bool)], vcex⟩,
  ⟨22, [], [(.g [.str, .str, (.int .i64), (.int .i64), (.int .i64), (.int .i64), .str, .bool, (.int .i64), (.lst [(.int .i64), (.int .i64)])])], vcstart⟩,
  ⟨23, [(.c (.lst [(.int .u8)]))], [(.g [.str, .str, (.int .i64), (.int .i64), (.int .i64), (.int .i64), .str, .bool, (.int .i64), (.lst [(.int .i64), (.int .i64)])]), (.c (.int .i64))], vcdecode⟩,
  ⟨45, [(.p [(.s .str), (.s .str), (.s (.int .i64)), (.s (.int .i64)), (.s (.int .i64)), (.s (.int .i64)), (.s .str), (.s .bool), (.s (.int .i64)), (.s (.lst [(.int .i64), (.int .i64)]))]), (.g [(.int .i64), (.lst [(.int .u8)])])], [(.c .bool)], vctakefield⟩,
  ⟨62, [(.c (.lst [(.int .u8)]))], [(.c (.lst [(.int .i64), (.int .i64)])), (.c .bool)], vctakerd⟩,
  ⟨13, [(.g [.str, .str, (.int .i64), (.int .i64), (.int .i64), (.int .i64), .str, .bool, (.int .i64), (.lst [(.int .i64), (.int .i64)])])], [(.c (.lst [(.int .u8)])), (.c (.int .i64))], E30.vcencode⟩,
  ⟨31, [(.c (.int .i64)), (.c .str), (.p [(.r [(.int .i64), (.lst [(.int .u8)])])])], [], E30.vcenc1⟩,
  ⟨32, [(.c (.int .i64)), (.c (.int .i64)), (.p [(.r [(.int .i64), (.lst [(.int .u8)])])])], [], E30.vcenc2⟩,
  ⟨15, [(.g [.str, .str, (.int .i64), (.int .i64), (.int .i64), (.int .i64), .str, .bool, (.int .i64), (.lst [(.int .i64), (.int .i64)])])], [(.g [(.int .i64), (.int .i64), (.int .i64), (.int .i64), (.int .i64), (.int .i64), (.int .i64), (.int .i64), .str, .str, .str, .bool, (.lst [(.int .i64), (.int .i64)]), (.int .i64), (.int .i64), (.int .i64), (.int .i64), (.int .i64), .str, (.int .i64), (.int .i64), (.int .i64), (.int .i64), (.lst [(.int .i64), (.int .i64)]), (.lst [.str, .str, .str, (.int .i64), (.int .i64), (.int .i64)])]), (.c (.int .i64))], E30.vcmessage⟩,
  ⟨18, [(.c .str), (.g [(.int .i64), (.int .i64), (.int .i64), (.int .i64), (.int .i64), (.int .i64), (.int .i64), (.int .i64), .str, .str, .str, .bool, (.lst [(.int .i64), (.int .i64)]), (.int .i64), (.int .i64), (.int .i64), (.int .i64), (.int .i64), .str, (.int .i64), (.int .i64), (.int .i64), (.int .i64), (.lst [(.int .i64), (.int .i64)]), (.lst [.str, .str, .str, (.int .i64), (.int .i64), (.int .i64)])])], [(.g [.str, .str, (.int .i64), (.int .i64), (.int .i64), (.int .i64), .str, .bool, (.int .i64), (.lst [(.int .i64), (.int .i64)])]), (.c (.int .i64))], E30.vcfrom'⟩,
  ⟨21, [(.g [.str, .str, (.int .i64), (.int .i64), (.int .i64), (.int .i64), .str, .bool, (.int .i64), (.lst [(.int .i64), (.int .i64)])]), (.g [.str, .str, (.int .i64), (.int .i64), (.int .i64), (.int .i64), .str, .bool, (.int .i64), (.lst [(.int .i64), (.int .i64)])])], [(.c .bool)], E30.vcsame⟩,
  ⟨41, [(.g [(.int .i64), (.int .i64), (.int .i64), (.int .i64), (.int .i64), .str, (.int .i64), (.int .i64), (.int .i64), (.int .i64), (.lst [(.int .i64), (.int .i64)])])], [(.c .bool)], E30.vczprof⟩,
  ⟨11, [(.g [.str, .str, (.int .i64), (.int .i64), (.int .i64), (.int .i64), .str, .bool, (.int .i64), (.lst [(.int .i64), (.int .i64)])])], [(.c (.int .i64))], E30.vcvalid⟩,
  ⟨25, [(.g [.str, .str, (.int .i64), (.int .i64), (.int .i64), (.int .i64), .str, .bool, (.int .i64), (.lst [(.int .i64), (.int .i64)])])], [(.c (.int .i64))], E30.vckind⟩,
  ⟨26, [(.g [.str, .str, (.int .i64), (.int .i64), (.int .i64), (.int .i64), .str, .bool, (.int .i64), (.lst [(.int .i64), (.int .i64)])])], [(.c (.int .i64))], E30.vcvrd⟩,
  ⟨43, [(.c (.lst [(.int .i64), (.int .i64)])), (.c (.lst [(.int .i64), (.int .i64)]))], [(.c .bool)], R26.vceqrd⟩]
theorem entX_ok : ∀ e ∈ entX, EntOK Try.prog [] e := by
  intro e he
  simp only [entX, List.mem_cons, List.not_mem_nil, or_false] at he
  rcases he with rfl | rfl | rfl | rfl | rfl | rfl | rfl | rfl | rfl | rfl | rfl | rfl | rfl | rfl | rfl | rfl
  · exact ex_ent
  · exact start_ent
  · exact decode_ent
  · exact takefield_ent
  · exact takerd_ent
  · exact E30.encode_ent
  · exact E30.enc1_ent
  · exact E30.enc2_ent
  · exact E30.message_ent
  · exact E30.from'_ent
  · exact E30.same_ent
  · exact E30.zprof_ent
  · exact E30.valid_ent
  · exact E30.kind_ent
  · exact E30.vrd_ent
  · exact R26.eqrd_ent
theorem ex_fn : Fun Try.prog [] 10 [] [] [tB] (.ok [.bool true]) := fun_of_evalG natX_ok entX_ok 40 (by kernel_rfl)
end Go.Proofs.Ytoncflpifafhlaa.E30x
