/-
  Layer 30's functions: what they do with data. No conditions stand ahead of what is proved.
-/
import Derived.Test.YtmkkijgnlohieaaR26
set_option maxRecDepth 100000
set_option linter.unusedSimpArgs false
set_option linter.unusedVariables false
namespace Go.Proofs.Ytmkkijgnlohieaa.E30
open Go.Proofs.Ytmkkijgnlohieaa Go.Proofs.Ytmkkijgnlohieaa.Sy Go.Proofs.Ytmkkijgnlohieaa.L7 Go.Proofs.Ytmkkijgnlohieaa.Id Go.Proofs.Ytmkkijgnlohieaa.R26 Go.RowKit Go.WideShapes Go.ChangeShapes Go.ChangeAt
theorem hP : NoNum Try.prog := by unfold NoNum; kernel_rfl
def sgs : Nat → Option (List TS × List TS) := fun f => if Nat.beq f 61 then some ([.c (.int .i64), .c .str, .p [.r [.int .i64, .lst [.int .u8]]]], []) else if Nat.beq f 62 then some ([.c (.int .i64), .c (.int .i64), .p [.r [.int .i64, .lst [.int .u8]]]], []) else if Nat.beq f 82 then some ([.r [.int .i64, .lst [.int .u8]], .c (.int .i64), .c .str], [.r [.int .i64, .lst [.int .u8]]]) else if Nat.beq f 83 then some ([.r [.int .i64, .lst [.int .u8]], .c (.int .i64), .c (.int .i64)], [.r [.int .i64, .lst [.int .u8]]]) else if Nat.beq f 84 then some ([.r [.int .i64, .lst [.int .u8]], .c (.int .i64), .c .bool], [.r [.int .i64, .lst [.int .u8]]]) else if Nat.beq f 85 then some ([.r [.int .i64, .lst [.int .u8]], .c (.int .i64), .c (.lst [.lst [.int .u8]])], [.r [.int .i64, .lst [.int .u8]]]) else if Nat.beq f 42 then some ([.c (.int .i64)], [.r [.int .u8]]) else none
def vcvalid : VC := (.cal 52 [(.c .str)] [(.v 0)] [(.c .bool)] 10
 (.ite (.v 10)
  (.cal 52 [(.c .str)] [(.v 1)] [(.c .bool)] 11
   (.ite (.v 11)
    (.ite (.cmp .lss (.v 2) (.ki .i64 1))
     (.ret [(.ki .i64 2)])
     (.ite (.cmp .gtr (.v 2) (.ki .i64 32))
      (.ret [(.ki .i64 2)])
      (.ite (.cmp .lss (.v 3) (.ki .i64 0))
       (.ret [(.ki .i64 2)])
       (.ite (.cmp .gtr (.v 3) (.ki .i64 2147483647))
        (.ret [(.ki .i64 2)])
        (.ite (.cmp .lss (.v 5) (.ki .i64 0))
         (.ret [(.ki .i64 2)])
         (.ite (.cmp .gtr (.v 5) (.ki .i64 268435456))
          (.ret [(.ki .i64 2)])
          (.cal 53 [(.g [.str, .str, (.int .i64), (.int .i64), (.int .i64), (.int .i64), .str, .bool, (.int .i64), (.lst [(.int .i64), (.int .i64)])])] [(.rc (.cons (.v 0) (.cons (.v 1) (.cons (.v 2) (.cons (.v 3) (.cons (.v 4) (.cons (.v 5) (.cons (.v 6) (.cons (.v 7) (.cons (.v 8) (.cons (.v 9) .nil)))))))))))] [(.c (.int .i64))] 12
           (.ite (.cmp .neq (.v 12) (.ki .i64 0))
            (.ret [(.v 12)])
            (.cal 54 [(.g [.str, .str, (.int .i64), (.int .i64), (.int .i64), (.int .i64), .str, .bool, (.int .i64), (.lst [(.int .i64), (.int .i64)])])] [(.rc (.cons (.v 0) (.cons (.v 1) (.cons (.v 2) (.cons (.v 3) (.cons (.v 4) (.cons (.v 5) (.cons (.v 6) (.cons (.v 7) (.cons (.v 8) (.cons (.v 9) .nil)))))))))))] [(.c (.int .i64))] 13
             (.ret [(.v 13)]))))))))))
    (.ret [(.ki .i64 4)])))
  (.ret [(.ki .i64 4)])))
theorem valid_ent : EntOK Try.prog [] ⟨29, [(.g [.str, .str, (.int .i64), (.int .i64), (.int .i64), (.int .i64), .str, .bool, (.int .i64), (.lst [(.int .i64), (.int .i64)])])], [(.c (.int .i64))], vcvalid⟩ :=
  ent_of_gen hP Try.func29 rfl (by decide) (sg := sgs) (by kernel_rfl)
def vcrvalid : VC := (.cal 55 [(.c .str)] [(.v 0)] [(.c .bool)] 10
 (.ite (.v 10)
  (.cal 55 [(.c .str)] [(.v 1)] [(.c .bool)] 11
   (.ite (.v 11)
    (.cal 56 [(.c (.int .i64)), (.c (.int .i64)), (.c (.int .i64))] [(.v 2), (.ki .i64 1), (.ki .i64 32)] [(.c .bool)] 12
     (.ite (.v 12)
      (.cal 56 [(.c (.int .i64)), (.c (.int .i64)), (.c (.int .i64))] [(.v 3), (.ki .i64 0), (.ki .i64 2147483647)] [(.c .bool)] 13
       (.ite (.v 13)
        (.cal 57 [(.c (.int .i64))] [(.v 5)] [(.c .bool)] 14
         (.ite (.v 14)
          (.cal 56 [(.c (.int .i64)), (.c (.int .i64)), (.c (.int .i64))] [(.v 4), (.ki .i64 1), (.ki .i64 3)] [(.c .bool)] 15
           (.ite (.v 15)
            (.ite (.beq (.cmp .eql (.v 4) (.ki .i64 1)) (.cmp .eql (.v 3) (.ki .i64 0)))
             (.ite (.cmp .neq (.v 4) (.ki .i64 3))
              (.ite (.cmp .neq (.v 8) (.ki .i64 0))
               (.ret [(.ki .i64 1)])
               (.ite (.cmp .eql (.v 4) (.ki .i64 1))
                (.cal 55 [(.c .str)] [(.v 6)] [(.c .bool)] 16
                 (.ite (.v 16)
                  (.cal 58 [(.g [.str, .str, (.int .i64), (.int .i64), (.int .i64), (.int .i64), .str, .bool, (.int .i64), (.lst [(.int .i64), (.int .i64)])])] [(.rc (.cons (.v 0) (.cons (.v 1) (.cons (.v 2) (.cons (.v 3) (.cons (.v 4) (.cons (.v 5) (.cons (.v 6) (.cons (.v 7) (.cons (.v 8) (.cons (.v 9) .nil)))))))))))] [(.c (.int .i64))] 17
                   (.ret [(.v 17)]))
                  (.ret [(.ki .i64 4)])))
                (.ite (.seq (.v 6) (.ks ⟨List.toArray []⟩))
                 (.cal 58 [(.g [.str, .str, (.int .i64), (.int .i64), (.int .i64), (.int .i64), .str, .bool, (.int .i64), (.lst [(.int .i64), (.int .i64)])])] [(.rc (.cons (.v 0) (.cons (.v 1) (.cons (.v 2) (.cons (.v 3) (.cons (.v 4) (.cons (.v 5) (.cons (.v 6) (.cons (.v 7) (.cons (.v 8) (.cons (.v 9) .nil)))))))))))] [(.c (.int .i64))] 16
                  (.ret [(.v 16)]))
                 (.ret [(.ki .i64 1)]))))
              (.cal 56 [(.c (.int .i64)), (.c (.int .i64)), (.c (.int .i64))] [(.v 8), (.ki .i64 1), (.ki .i64 6)] [(.c .bool)] 16
               (.ite (.v 16)
                (.ite (.cmp .eql (.v 4) (.ki .i64 1))
                 (.cal 55 [(.c .str)] [(.v 6)] [(.c .bool)] 17
                  (.ite (.v 17)
                   (.cal 58 [(.g [.str, .str, (.int .i64), (.int .i64), (.int .i64), (.int .i64), .str, .bool, (.int .i64), (.lst [(.int .i64), (.int .i64)])])] [(.rc (.cons (.v 0) (.cons (.v 1) (.cons (.v 2) (.cons (.v 3) (.cons (.v 4) (.cons (.v 5) (.cons (.v 6) (.cons (.v 7) (.cons (.v 8) (.cons (.v 9) .nil)))))))))))] [(.c (.int .i64))] 18
                    (.ret [(.v 18)]))
                   (.ret [(.ki .i64 4)])))
                 (.ite (.seq (.v 6) (.ks ⟨List.toArray []⟩))
                  (.cal 58 [(.g [.str, .str, (.int .i64), (.int .i64), (.int .i64), (.int .i64), .str, .bool, (.int .i64), (.lst [(.int .i64), (.int .i64)])])] [(.rc (.cons (.v 0) (.cons (.v 1) (.cons (.v 2) (.cons (.v 3) (.cons (.v 4) (.cons (.v 5) (.cons (.v 6) (.cons (.v 7) (.cons (.v 8) (.cons (.v 9) .nil)))))))))))] [(.c (.int .i64))] 17
                   (.ret [(.v 17)]))
                  (.ret [(.ki .i64 1)])))
                (.ret [(.ki .i64 1)]))))
             (.ret [(.ki .i64 1)]))
            (.ret [(.ki .i64 1)])))
          (.ret [(.ki .i64 2)])))
        (.ret [(.ki .i64 2)])))
      (.ret [(.ki .i64 2)])))
    (.ret [(.ki .i64 4)])))
  (.ret [(.ki .i64 4)])))
theorem rvalid_ent : EntOK Try.prog [] ⟨30, [(.g [.str, .str, (.int .i64), (.int .i64), (.int .i64), (.int .i64), .str, .bool, (.int .i64), (.lst [(.int .i64), (.int .i64)])])], [(.c (.int .i64))], vcrvalid⟩ :=
  ent_of_gen hP Try.func30 rfl (by decide) (sg := sgs) (by kernel_rfl)
def vckind : VC := (.ite (.cmp .eql (.v 4) (.ki .i64 1))
 (.ite (.cmp .neq (.v 3) (.ki .i64 0))
  (.ret [(.ki .i64 1)])
  (.ite (.cmp .neq (.v 8) (.ki .i64 0))
   (.ret [(.ki .i64 1)])
   (.cal 52 [(.c .str)] [(.v 6)] [(.c .bool)] 10
    (.ite (.v 10)
     (.ret [(.ki .i64 0)])
     (.ret [(.ki .i64 4)])))))
 (.ite (.cmp .eql (.v 4) (.ki .i64 3))
  (.ite (.cmp .lss (.v 8) (.ki .i64 1))
   (.ret [(.ki .i64 1)])
   (.ite (.cmp .gtr (.v 8) (.ki .i64 6))
    (.ret [(.ki .i64 1)])
    (.ite (.cmp .eql (.v 4) (.ki .i64 2))
     (.ite (.cmp .neq (.v 8) (.ki .i64 0))
      (.ret [(.ki .i64 1)])
      (.ite (.cmp .eql (.v 3) (.ki .i64 0))
       (.ret [(.ki .i64 1)])
       (.ite (.seq (.v 6) (.ks ⟨List.toArray []⟩))
        (.ret [(.ki .i64 0)])
        (.ret [(.ki .i64 1)]))))
     (.ite (.cmp .eql (.v 3) (.ki .i64 0))
      (.ret [(.ki .i64 1)])
      (.ite (.seq (.v 6) (.ks ⟨List.toArray []⟩))
       (.ret [(.ki .i64 0)])
       (.ret [(.ki .i64 1)]))))))
  (.ite (.cmp .eql (.v 4) (.ki .i64 2))
   (.ite (.cmp .neq (.v 8) (.ki .i64 0))
    (.ret [(.ki .i64 1)])
    (.ite (.cmp .eql (.v 3) (.ki .i64 0))
     (.ret [(.ki .i64 1)])
     (.ite (.seq (.v 6) (.ks ⟨List.toArray []⟩))
      (.ret [(.ki .i64 0)])
      (.ret [(.ki .i64 1)]))))
   (.ret [(.ki .i64 1)]))))
theorem kind_ent : EntOK Try.prog [] ⟨53, [(.g [.str, .str, (.int .i64), (.int .i64), (.int .i64), (.int .i64), .str, .bool, (.int .i64), (.lst [(.int .i64), (.int .i64)])])], [(.c (.int .i64))], vckind⟩ :=
  ent_of_gen hP Try.func53 rfl (by decide) (sg := sgs) (by kernel_rfl)
def vcvrd : VC := (.ite (.cmp .gtr (.len (.v 9)) (.ki .i64 16))
 (.ret [(.ki .i64 3)])
 (.ite (.cmp .eql (.len (.v 9)) (.ki .i64 0))
  (.ret [(.ki .i64 1)])
  (.loop [(.int .i64), (.int .i64)] [(.ki .i64 0), (.ki .i64 0)]
   (.ite (.cmp .lss (.v 11) (.len (.v 9)))
    (.ev [(.ob (.cmp .geq (.v 11) (.ki .i64 0))), (.ob (.cmp .lss (.v 11) (.len (.v 9))))]
     (.ite (.cmp .lss (.cell (.get (.v 9) (.v 11)) 0) (.ki .i64 0))
      (.ret [(.ki .i64 2)])
      (.ite (.cmp .gtr (.cell (.get (.v 9) (.v 11)) 0) (.ki .i64 268435456))
       (.ret [(.ki .i64 2)])
       (.ite (.cmp .lss (.cell (.get (.v 9) (.v 11)) 1) (.ki .i64 0))
        (.ret [(.ki .i64 2)])
        (.ite (.cmp .gtr (.cell (.get (.v 9) (.v 11)) 1) (.ki .i64 1099511627775))
         (.ret [(.ki .i64 2)])
         (.ite (.cmp .gtr (.v 11) (.ki .i64 0))
          (.ev [(.ob (.cmp .geq (.ar .sub .i64 (.v 11) (.ki .i64 1)) (.ki .i64 0))), (.ob (.cmp .lss (.ar .sub .i64 (.v 11) (.ki .i64 1)) (.len (.v 9))))]
           (.ite (.cmp .leq (.cell (.get (.v 9) (.v 11)) 0) (.cell (.get (.v 9) (.ar .sub .i64 (.v 11) (.ki .i64 1))) 0))
            (.ret [(.ki .i64 1)])
            (.back 0 [(.v 10), (.ar .add .i64 (.v 11) (.ki .i64 1))])))
          (.back 0 [(.v 10), (.ar .add .i64 (.v 11) (.ki .i64 1))])))))))
    (.ev [(.ob (.cmp .geq (.ar .sub .i64 (.len (.v 9)) (.ki .i64 1)) (.ki .i64 0))), (.ob (.cmp .lss (.ar .sub .i64 (.len (.v 9)) (.ki .i64 1)) (.len (.v 9))))]
     (.ite (.cmp .neq (.cell (.get (.v 9) (.ar .sub .i64 (.len (.v 9)) (.ki .i64 1))) 0) (.v 5))
      (.ret [(.ki .i64 1)])
      (.ret [(.ki .i64 0)])))))))
theorem vrd_ent : EntOK Try.prog [] ⟨54, [(.g [.str, .str, (.int .i64), (.int .i64), (.int .i64), (.int .i64), .str, .bool, (.int .i64), (.lst [(.int .i64), (.int .i64)])])], [(.c (.int .i64))], vcvrd⟩ :=
  ent_of_gen hP Try.func54 rfl (by decide) (sg := sgs) (by kernel_rfl)
def vcrvrd : VC := (.ite (.cmp .gtr (.len (.v 9)) (.ki .i64 16))
 (.ret [(.ki .i64 3)])
 (.ite (.cmp .eql (.len (.v 9)) (.ki .i64 0))
  (.ret [(.ki .i64 1)])
  (.loop [(.int .i64), (.int .i64)] [(.ki .i64 0), (.ki .i64 0)]
   (.ite (.cmp .lss (.v 11) (.len (.v 9)))
    (.ev [(.ob (.cmp .geq (.v 11) (.ki .i64 0))), (.ob (.cmp .lss (.v 11) (.len (.v 9))))]
     (.cal 81 [(.g [(.int .i64), (.int .i64)])] [(.rc (.cons (.cell (.get (.v 9) (.v 11)) 0) (.cons (.cell (.get (.v 9) (.v 11)) 1) .nil)))] [(.c .bool)] 12
      (.ite (.v 12)
       (.ite (.cmp .gtr (.v 11) (.ki .i64 0))
        (.ev [(.ob (.cmp .geq (.v 11) (.ki .i64 0))), (.ob (.cmp .lss (.v 11) (.len (.v 9)))), (.ob (.cmp .geq (.ar .sub .i64 (.v 11) (.ki .i64 1)) (.ki .i64 0))), (.ob (.cmp .lss (.ar .sub .i64 (.v 11) (.ki .i64 1)) (.len (.v 9))))]
         (.ite (.cmp .leq (.cell (.get (.v 9) (.v 11)) 0) (.cell (.get (.v 9) (.ar .sub .i64 (.v 11) (.ki .i64 1))) 0))
          (.ret [(.ki .i64 1)])
          (.back 0 [(.v 10), (.ar .add .i64 (.v 11) (.ki .i64 1))])))
        (.back 0 [(.v 10), (.ar .add .i64 (.v 11) (.ki .i64 1))]))
       (.ret [(.ki .i64 2)]))))
    (.ev [(.ob (.cmp .geq (.ar .sub .i64 (.len (.v 9)) (.ki .i64 1)) (.ki .i64 0))), (.ob (.cmp .lss (.ar .sub .i64 (.len (.v 9)) (.ki .i64 1)) (.len (.v 9))))]
     (.ite (.cmp .neq (.cell (.get (.v 9) (.ar .sub .i64 (.len (.v 9)) (.ki .i64 1))) 0) (.v 5))
      (.ret [(.ki .i64 1)])
      (.ret [(.ki .i64 0)])))))))
theorem rvrd_ent : EntOK Try.prog [] ⟨58, [(.g [.str, .str, (.int .i64), (.int .i64), (.int .i64), (.int .i64), .str, .bool, (.int .i64), (.lst [(.int .i64), (.int .i64)])])], [(.c (.int .i64))], vcrvrd⟩ :=
  ent_of_gen hP Try.func58 rfl (by decide) (sg := sgs) (by kernel_rfl)
def vcin30 : VC := (.ite (.cmp .geq (.v 0) (.v 1))
 (.ret [(.cmp .leq (.v 0) (.v 2))])
 (.ret [(.kb false)]))
theorem in30_ent : EntOK Try.prog [] ⟨56, [(.c (.int .i64)), (.c (.int .i64)), (.c (.int .i64))], [(.c .bool)], vcin30⟩ :=
  ent_of_gen hP Try.func56 rfl (by decide) (sg := sgs) (by kernel_rfl)
def vcencode : VC := (.cal 29 [(.g [.str, .str, (.int .i64), (.int .i64), (.int .i64), (.int .i64), .str, .bool, (.int .i64), (.lst [(.int .i64), (.int .i64)])])] [(.rc (.cons (.v 0) (.cons (.v 1) (.cons (.v 2) (.cons (.v 3) (.cons (.v 4) (.cons (.v 5) (.cons (.v 6) (.cons (.v 7) (.cons (.v 8) (.cons (.v 9) .nil)))))))))))] [(.c (.int .i64))] 10
 (.ite (.cmp .neq (.v 10) (.ki .i64 0))
  (.ret [.nil, (.v 10)])
  (.cal 61 [(.c (.int .i64)), (.c .str), (.p [(.r [(.int .i64), (.lst [(.int .u8)])])])] [(.ki .i64 1), (.v 0), (.rc (.cons .nil .nil))] [] 11
   (.cal 61 [(.c (.int .i64)), (.c .str), (.p [(.r [(.int .i64), (.lst [(.int .u8)])])])] [(.ki .i64 2), (.v 1), (.rc (.cons (.v 11) .nil))] [] 12
    (.cal 62 [(.c (.int .i64)), (.c (.int .i64)), (.p [(.r [(.int .i64), (.lst [(.int .u8)])])])] [(.ki .i64 3), (.v 2), (.rc (.cons (.v 12) .nil))] [] 13
     (.cal 62 [(.c (.int .i64)), (.c (.int .i64)), (.p [(.r [(.int .i64), (.lst [(.int .u8)])])])] [(.ki .i64 4), (.v 3), (.rc (.cons (.v 13) .nil))] [] 14
      (.cal 62 [(.c (.int .i64)), (.c (.int .i64)), (.p [(.r [(.int .i64), (.lst [(.int .u8)])])])] [(.ki .i64 5), (.v 4), (.rc (.cons (.v 14) .nil))] [] 15
       (.cal 62 [(.c (.int .i64)), (.c (.int .i64)), (.p [(.r [(.int .i64), (.lst [(.int .u8)])])])] [(.ki .i64 6), (.v 5), (.rc (.cons (.v 15) .nil))] [] 16
        (.cal 61 [(.c (.int .i64)), (.c .str), (.p [(.r [(.int .i64), (.lst [(.int .u8)])])])] [(.ki .i64 7), (.v 6), (.rc (.cons (.v 16) .nil))] [] 17
         (.ite (.v 7)
          (.cal 62 [(.c (.int .i64)), (.c (.int .i64)), (.p [(.r [(.int .i64), (.lst [(.int .u8)])])])] [(.ki .i64 8), (.ki .i64 1), (.rc (.cons (.v 17) .nil))] [] 18
           (.cal 62 [(.c (.int .i64)), (.c (.int .i64)), (.p [(.r [(.int .i64), (.lst [(.int .u8)])])])] [(.ki .i64 9), (.v 8), (.rc (.cons (.v 18) .nil))] [] 19
            (.ev [(.ob (.cmp .leq (.ki .i64 0) (.ar .mul .i64 (.ki .i64 2) (.len (.v 9))))), (.ob (.cmp .leq (.ar .mul .i64 (.ki .i64 2) (.len (.v 9))) (.ki .i64 4294967296)))]
             (.loop [(.lst [(.lst [(.int .u8)])]), (.int .i64)] [(.rep (.ki .i64 0) .nil), (.ki .i64 0)]
              (.ite (.cmp .lss (.v 21) (.len (.v 9)))
               (.ev [(.ob (.cmp .geq (.v 21) (.ki .i64 0))), (.ob (.cmp .lss (.v 21) (.len (.v 9))))]
                (.ev [(.call 39 [(.c (.int .i64))] [(.cell (.get (.v 9) (.v 21)) 0)] [(.c (.lst [(.int .u8)]))] 22), (.call 39 [(.c (.int .i64))] [(.cell (.get (.v 9) (.v 21)) 1)] [(.c (.lst [(.int .u8)]))] 23), (.ob (.cmp .leq (.len (.app (.v 20) (.cons (.v 22) (.cons (.v 23) .nil)))) (.ki .i64 4294967296)))]
                 (.back 0 [(.app (.v 20) (.cons (.v 22) (.cons (.v 23) .nil))), (.ar .add .i64 (.v 21) (.ki .i64 1))])))
               (.cal 37 [(.c (.lst [(.lst [(.int .u8)])]))] [(.v 20)] [(.c (.lst [(.int .u8)])), (.c (.int .i64))] 22
                (.ite (.cmp .neq (.v 23) (.ki .i64 0))
                 (.ret [.nil, (.v 23)])
                 (.ev [(.ob (.cmp .leq (.len (.app (.v 19) (.cons (.rc (.cons (.ki .i64 10) (.cons (.v 22) .nil))) .nil))) (.ki .i64 4294967296)))]
                  (.cal 38 [(.c (.lst [(.int .i64), (.lst [(.int .u8)])]))] [(.app (.v 19) (.cons (.rc (.cons (.ki .i64 10) (.cons (.v 22) .nil))) .nil))] [(.c (.lst [(.int .u8)])), (.c (.int .i64))] 24
                   (.ret [(.v 24), (.v 25)]))))))))))
          (.cal 62 [(.c (.int .i64)), (.c (.int .i64)), (.p [(.r [(.int .i64), (.lst [(.int .u8)])])])] [(.ki .i64 9), (.v 8), (.rc (.cons (.v 17) .nil))] [] 18
           (.ev [(.ob (.cmp .leq (.ki .i64 0) (.ar .mul .i64 (.ki .i64 2) (.len (.v 9))))), (.ob (.cmp .leq (.ar .mul .i64 (.ki .i64 2) (.len (.v 9))) (.ki .i64 4294967296)))]
            (.loop [(.lst [(.lst [(.int .u8)])]), (.int .i64)] [(.rep (.ki .i64 0) .nil), (.ki .i64 0)]
             (.ite (.cmp .lss (.v 20) (.len (.v 9)))
              (.ev [(.ob (.cmp .geq (.v 20) (.ki .i64 0))), (.ob (.cmp .lss (.v 20) (.len (.v 9))))]
               (.ev [(.call 39 [(.c (.int .i64))] [(.cell (.get (.v 9) (.v 20)) 0)] [(.c (.lst [(.int .u8)]))] 21), (.call 39 [(.c (.int .i64))] [(.cell (.get (.v 9) (.v 20)) 1)] [(.c (.lst [(.int .u8)]))] 22), (.ob (.cmp .leq (.len (.app (.v 19) (.cons (.v 21) (.cons (.v 22) .nil)))) (.ki .i64 4294967296)))]
                (.back 0 [(.app (.v 19) (.cons (.v 21) (.cons (.v 22) .nil))), (.ar .add .i64 (.v 20) (.ki .i64 1))])))
              (.cal 37 [(.c (.lst [(.lst [(.int .u8)])]))] [(.v 19)] [(.c (.lst [(.int .u8)])), (.c (.int .i64))] 21
               (.ite (.cmp .neq (.v 22) (.ki .i64 0))
                (.ret [.nil, (.v 22)])
                (.ev [(.ob (.cmp .leq (.len (.app (.v 18) (.cons (.rc (.cons (.ki .i64 10) (.cons (.v 21) .nil))) .nil))) (.ki .i64 4294967296)))]
                 (.cal 38 [(.c (.lst [(.int .i64), (.lst [(.int .u8)])]))] [(.app (.v 18) (.cons (.rc (.cons (.ki .i64 10) (.cons (.v 21) .nil))) .nil))] [(.c (.lst [(.int .u8)])), (.c (.int .i64))] 23
                  (.ret [(.v 23), (.v 24)])))))))))))))))))))
theorem encode_ent : EntOK Try.prog [] ⟨36, [(.g [.str, .str, (.int .i64), (.int .i64), (.int .i64), (.int .i64), .str, .bool, (.int .i64), (.lst [(.int .i64), (.int .i64)])])], [(.c (.lst [(.int .u8)])), (.c (.int .i64))], vcencode⟩ :=
  ent_of_gen hP Try.func36 rfl (by decide) (sg := sgs) (by kernel_rfl)
def vcenc1 : VC := (.ite (.seq (.v 1) (.ks ⟨List.toArray []⟩))
 (.ret [(.rc (.cons (.v 2) .nil))])
 (.ev [(.ob (.cmp .leq (.len (.app (.v 2) (.cons (.rc (.cons (.v 0) (.cons (.s2b (.v 1)) .nil))) .nil))) (.ki .i64 4294967296)))]
  (.ret [(.rc (.cons (.app (.v 2) (.cons (.rc (.cons (.v 0) (.cons (.s2b (.v 1)) .nil))) .nil)) .nil))])))
theorem enc1_ent : EntOK Try.prog [] ⟨61, [(.c (.int .i64)), (.c .str), (.p [(.r [(.int .i64), (.lst [(.int .u8)])])])], [], vcenc1⟩ :=
  ent_of_gen hP Try.func61 rfl (by decide) (sg := sgs) (by kernel_rfl)
def vcenc2 : VC := (.ite (.cmp .neq (.v 1) (.ki .i64 0))
 (.cal 39 [(.c (.int .i64))] [(.v 1)] [(.c (.lst [(.int .u8)]))] 3
  (.ev [(.ob (.cmp .leq (.len (.app (.v 2) (.cons (.rc (.cons (.v 0) (.cons (.v 3) .nil))) .nil))) (.ki .i64 4294967296)))]
   (.ret [(.rc (.cons (.app (.v 2) (.cons (.rc (.cons (.v 0) (.cons (.v 3) .nil))) .nil)) .nil))])))
 (.ret [(.rc (.cons (.v 2) .nil))]))
theorem enc2_ent : EntOK Try.prog [] ⟨62, [(.c (.int .i64)), (.c (.int .i64)), (.p [(.r [(.int .i64), (.lst [(.int .u8)])])])], [], vcenc2⟩ :=
  ent_of_gen hP Try.func62 rfl (by decide) (sg := sgs) (by kernel_rfl)
def vcrencode : VC := (.cal 30 [(.g [.str, .str, (.int .i64), (.int .i64), (.int .i64), (.int .i64), .str, .bool, (.int .i64), (.lst [(.int .i64), (.int .i64)])])] [(.rc (.cons (.v 0) (.cons (.v 1) (.cons (.v 2) (.cons (.v 3) (.cons (.v 4) (.cons (.v 5) (.cons (.v 6) (.cons (.v 7) (.cons (.v 8) (.cons (.v 9) .nil)))))))))))] [(.c (.int .i64))] 10
 (.ite (.cmp .neq (.v 10) (.ki .i64 0))
  (.ret [.nil, (.v 10)])
  (.cal 64 [(.g [.str, .str, (.int .i64), (.int .i64), (.int .i64), (.int .i64), .str, .bool, (.int .i64), (.lst [(.int .i64), (.int .i64)])])] [(.rc (.cons (.v 0) (.cons (.v 1) (.cons (.v 2) (.cons (.v 3) (.cons (.v 4) (.cons (.v 5) (.cons (.v 6) (.cons (.v 7) (.cons (.v 8) (.cons (.v 9) .nil)))))))))))] [(.c (.lst [(.int .u8)]))] 11
   (.ret [(.v 11), (.ki .i64 0)]))))
theorem rencode_ent : EntOK Try.prog [] ⟨40, [(.g [.str, .str, (.int .i64), (.int .i64), (.int .i64), (.int .i64), .str, .bool, (.int .i64), (.lst [(.int .i64), (.int .i64)])])], [(.c (.lst [(.int .u8)])), (.c (.int .i64))], vcrencode⟩ :=
  ent_of_gen hP Try.func40 rfl (by decide) (sg := sgs) (by kernel_rfl)
def vcrfields : VC := (.ev [(.call 82 [(.r [(.int .i64), (.lst [(.int .u8)])]), (.c (.int .i64)), (.c .str)] [.nil, (.ki .i64 1), (.v 0)] [(.r [(.int .i64), (.lst [(.int .u8)])])] 10), (.call 82 [(.r [(.int .i64), (.lst [(.int .u8)])]), (.c (.int .i64)), (.c .str)] [(.v 10), (.ki .i64 2), (.v 1)] [(.r [(.int .i64), (.lst [(.int .u8)])])] 11)]
 (.ev [(.call 83 [(.r [(.int .i64), (.lst [(.int .u8)])]), (.c (.int .i64)), (.c (.int .i64))] [(.v 11), (.ki .i64 3), (.v 2)] [(.r [(.int .i64), (.lst [(.int .u8)])])] 12), (.call 83 [(.r [(.int .i64), (.lst [(.int .u8)])]), (.c (.int .i64)), (.c (.int .i64))] [(.v 12), (.ki .i64 4), (.v 3)] [(.r [(.int .i64), (.lst [(.int .u8)])])] 13), (.call 83 [(.r [(.int .i64), (.lst [(.int .u8)])]), (.c (.int .i64)), (.c (.int .i64))] [(.v 13), (.ki .i64 5), (.v 4)] [(.r [(.int .i64), (.lst [(.int .u8)])])] 14), (.call 83 [(.r [(.int .i64), (.lst [(.int .u8)])]), (.c (.int .i64)), (.c (.int .i64))] [(.v 14), (.ki .i64 6), (.v 5)] [(.r [(.int .i64), (.lst [(.int .u8)])])] 15)]
  (.ev [(.call 82 [(.r [(.int .i64), (.lst [(.int .u8)])]), (.c (.int .i64)), (.c .str)] [(.v 15), (.ki .i64 7), (.v 6)] [(.r [(.int .i64), (.lst [(.int .u8)])])] 16), (.call 84 [(.r [(.int .i64), (.lst [(.int .u8)])]), (.c (.int .i64)), (.c .bool)] [(.v 16), (.ki .i64 8), (.v 7)] [(.r [(.int .i64), (.lst [(.int .u8)])])] 17), (.call 83 [(.r [(.int .i64), (.lst [(.int .u8)])]), (.c (.int .i64)), (.c (.int .i64))] [(.v 17), (.ki .i64 9), (.v 8)] [(.r [(.int .i64), (.lst [(.int .u8)])])] 18)]
   (.cal 87 [(.c (.lst [(.int .i64), (.int .i64)]))] [(.v 9)] [(.c (.lst [(.int .i64)]))] 19
    (.cal 86 [(.c (.lst [(.int .i64)]))] [(.v 19)] [(.c (.lst [(.lst [(.int .u8)])]))] 20
     (.cal 85 [(.r [(.int .i64), (.lst [(.int .u8)])]), (.c (.int .i64)), (.c (.lst [(.lst [(.int .u8)])]))] [(.v 18), (.ki .i64 10), (.v 20)] [(.r [(.int .i64), (.lst [(.int .u8)])])] 21
      (.cal 43 [(.c (.lst [(.int .i64), (.lst [(.int .u8)])]))] [(.v 21)] [(.c (.lst [(.int .u8)])), (.c (.int .i64))] 22
       (.ret [(.v 22)]))))))))
theorem rfields_ent : EntOK Try.prog [] ⟨64, [(.g [.str, .str, (.int .i64), (.int .i64), (.int .i64), (.int .i64), .str, .bool, (.int .i64), (.lst [(.int .i64), (.int .i64)])])], [(.c (.lst [(.int .u8)]))], vcrfields⟩ :=
  ent_of_gen hP Try.func64 rfl (by decide) (sg := sgs) (by kernel_rfl)
def vcmessage : VC := (.cal 29 [(.g [.str, .str, (.int .i64), (.int .i64), (.int .i64), (.int .i64), .str, .bool, (.int .i64), (.lst [(.int .i64), (.int .i64)])])] [(.rc (.cons (.v 0) (.cons (.v 1) (.cons (.v 2) (.cons (.v 3) (.cons (.v 4) (.cons (.v 5) (.cons (.v 6) (.cons (.v 7) (.cons (.v 8) (.cons (.v 9) .nil)))))))))))] [(.c (.int .i64))] 10
 (.ite (.cmp .neq (.v 10) (.ki .i64 0))
  (.ret [(.rc (.cons (.ki .i64 0) (.cons (.ki .i64 0) (.cons (.ki .i64 0) (.cons (.ki .i64 0) (.cons (.ki .i64 0) (.cons (.ki .i64 0) (.cons (.ki .i64 0) (.cons (.ki .i64 0) (.cons (.ks ⟨List.toArray []⟩) (.cons (.ks ⟨List.toArray []⟩) (.cons (.ks ⟨List.toArray []⟩) (.cons (.kb false) (.cons .nil (.cons (.ki .i64 0) (.cons (.ki .i64 0) (.cons (.ki .i64 0) (.cons (.ki .i64 0) (.cons (.ki .i64 0) (.cons (.ks ⟨List.toArray []⟩) (.cons (.ki .i64 0) (.cons (.ki .i64 0) (.cons (.ki .i64 0) (.cons (.ki .i64 0) (.cons .nil (.cons .nil .nil)))))))))))))))))))))))))), (.v 10)])
  (.cal 59 [(.c (.lst [(.int .i64), (.int .i64)]))] [(.v 9)] [(.c (.lst [(.int .i64), (.int .i64)]))] 11
   (.ret [(.rc (.cons (.ki .i64 1) (.cons (.ki .i64 0) (.cons (.ki .i64 5) (.cons (.v 2) (.cons (.v 8) (.cons (.v 3) (.cons (.v 5) (.cons (.v 4) (.cons (.v 1) (.cons (.v 6) (.cons (.ks ⟨List.toArray []⟩) (.cons (.v 7) (.cons (.v 11) (.cons (.ki .i64 0) (.cons (.ki .i64 0) (.cons (.ki .i64 0) (.cons (.ki .i64 0) (.cons (.ki .i64 0) (.cons (.ks ⟨List.toArray []⟩) (.cons (.ki .i64 0) (.cons (.ki .i64 0) (.cons (.ki .i64 0) (.cons (.ki .i64 0) (.cons .nil (.cons .nil .nil)))))))))))))))))))))))))), (.ki .i64 0)]))))
def vcrmessage : VC := (.cal 30 [(.g [.str, .str, (.int .i64), (.int .i64), (.int .i64), (.int .i64), .str, .bool, (.int .i64), (.lst [(.int .i64), (.int .i64)])])] [(.rc (.cons (.v 0) (.cons (.v 1) (.cons (.v 2) (.cons (.v 3) (.cons (.v 4) (.cons (.v 5) (.cons (.v 6) (.cons (.v 7) (.cons (.v 8) (.cons (.v 9) .nil)))))))))))] [(.c (.int .i64))] 10
 (.ite (.cmp .neq (.v 10) (.ki .i64 0))
  (.ret [(.rc (.cons (.ki .i64 0) (.cons (.ki .i64 0) (.cons (.ki .i64 0) (.cons (.ki .i64 0) (.cons (.ki .i64 0) (.cons (.ki .i64 0) (.cons (.ki .i64 0) (.cons (.ki .i64 0) (.cons (.ks ⟨List.toArray []⟩) (.cons (.ks ⟨List.toArray []⟩) (.cons (.ks ⟨List.toArray []⟩) (.cons (.kb false) (.cons .nil (.cons (.ki .i64 0) (.cons (.ki .i64 0) (.cons (.ki .i64 0) (.cons (.ki .i64 0) (.cons (.ki .i64 0) (.cons (.ks ⟨List.toArray []⟩) (.cons (.ki .i64 0) (.cons (.ki .i64 0) (.cons (.ki .i64 0) (.cons (.ki .i64 0) (.cons .nil (.cons .nil .nil)))))))))))))))))))))))))), (.v 10)])
  (.ev [(.ob (.cmp .leq (.len (.app .nil (.v 9))) (.ki .i64 4294967296)))]
   (.ret [(.rc (.cons (.ki .i64 1) (.cons (.ki .i64 0) (.cons (.ki .i64 5) (.cons (.v 2) (.cons (.v 8) (.cons (.v 3) (.cons (.v 5) (.cons (.v 4) (.cons (.v 1) (.cons (.v 6) (.cons (.ks ⟨List.toArray []⟩) (.cons (.v 7) (.cons (.app .nil (.v 9)) (.cons (.ki .i64 0) (.cons (.ki .i64 0) (.cons (.ki .i64 0) (.cons (.ki .i64 0) (.cons (.ki .i64 0) (.cons (.ks ⟨List.toArray []⟩) (.cons (.ki .i64 0) (.cons (.ki .i64 0) (.cons (.ki .i64 0) (.cons (.ki .i64 0) (.cons .nil (.cons .nil .nil)))))))))))))))))))))))))), (.ki .i64 0)]))))
def vcrsame : VC := (.ite (.seq (.v 0) (.v 10))
 (.ite (.seq (.v 1) (.v 11))
  (.ite (.cmp .neq (.v 2) (.v 12))
   (.ret [(.kb false)])
   (.ite (.cmp .neq (.v 3) (.v 13))
    (.ret [(.kb false)])
    (.ite (.cmp .neq (.v 4) (.v 14))
     (.ret [(.kb false)])
     (.ite (.cmp .neq (.v 5) (.v 15))
      (.ret [(.kb false)])
      (.ite (.seq (.v 6) (.v 16))
       (.ite (.beq (.v 7) (.v 17))
        (.ite (.cmp .eql (.v 8) (.v 18))
         (.cal 60 [(.c (.lst [(.int .i64), (.int .i64)])), (.c (.lst [(.int .i64), (.int .i64)]))] [(.v 9), (.v 19)] [(.c .bool)] 20
          (.ret [(.v 20)]))
         (.ret [(.kb false)]))
        (.ret [(.kb false)]))
       (.ret [(.kb false)]))))))
  (.ret [(.kb false)]))
 (.ret [(.kb false)]))
theorem rsame_ent : EntOK Try.prog [] ⟨35, [(.g [.str, .str, (.int .i64), (.int .i64), (.int .i64), (.int .i64), .str, .bool, (.int .i64), (.lst [(.int .i64), (.int .i64)])]), (.g [.str, .str, (.int .i64), (.int .i64), (.int .i64), (.int .i64), .str, .bool, (.int .i64), (.lst [(.int .i64), (.int .i64)])])], [(.c .bool)], vcrsame⟩ :=
  ent_of_gen hP Try.func35 rfl (by decide) (sg := sgs) (by kernel_rfl)
def vczprof : VC := (.ite (.cmp .eql (.v 0) (.ki .i64 0))
 (.ite (.cmp .eql (.v 1) (.ki .i64 0))
  (.ite (.cmp .eql (.v 2) (.ki .i64 0))
   (.ite (.cmp .eql (.v 3) (.ki .i64 0))
    (.ite (.cmp .eql (.v 4) (.ki .i64 0))
     (.ite (.seq (.v 5) (.ks ⟨List.toArray []⟩))
      (.ite (.and (.cmp .eql (.v 6) (.ki .i64 0)) (.and (.cmp .eql (.v 7) (.ki .i64 0)) (.kb true)))
       (.ite (.cmp .eql (.v 8) (.ki .i64 0))
        (.ite (.cmp .eql (.v 9) (.ki .i64 0))
         (.ret [(.cmp .eql (.len (.v 10)) (.ki .i64 0))])
         (.ret [(.kb false)]))
        (.ret [(.kb false)]))
       (.ret [(.kb false)]))
      (.ret [(.kb false)]))
     (.ret [(.kb false)]))
    (.ret [(.kb false)]))
   (.ret [(.kb false)]))
  (.ret [(.kb false)]))
 (.ret [(.kb false)]))
structure Ev where
  st : ByteArray
  tx : ByteArray
  co : Int
  sq : Int
  ki : Int
  at' : Int
  tk : ByteArray
  off : Bool
  re : Int
  rd : List (Int × Int)
  deriving DecidableEq
abbrev evL (e : Ev) : List D := [.str e.st, .str e.tx, I64d e.co, I64d e.sq, I64d e.ki, I64d e.at', .str e.tk, .bool e.off, I64d e.re, rdD e.rd]
abbrev evD (e : Ev) : D := .rc (evL e)
abbrev tE : TS := .g [.str, .str, .int .i64, .int .i64, .int .i64, .int .i64, .str, .bool, .int .i64, .lst [.int .i64, .int .i64]]
def ev0 : Ev := ⟨⟨#[]⟩, ⟨#[]⟩, 0, 0, 0, 0, ⟨#[]⟩, false, 0, []⟩
structure EvT (e : Ev) : Prop where
  st : e.st.size ≤ maxLen
  tx : e.tx.size ≤ maxLen
  tk : e.tk.size ≤ maxLen
  rl : e.rd.length ≤ maxLen
  co : inI e.co
  sq : inI e.sq
  ki : inI e.ki
  at' : inI e.at'
  re : inI e.re
  rd : ∀ x ∈ e.rd, inI x.1 ∧ inI x.2
/-! what an event's error is -/
def rdgE : Int → List (Int × Int) → Int
  | _, [] => 0
  | p, x :: l => if rdgB x then (if x.1 ≤ p then 1 else rdgE x.1 l) else 2
def rdgV (rd : List (Int × Int)) (at' : Int) : Int :=
  if 16 < rd.length then 3 else if rd.length = 0 then 1 else if rdgE (-1) rd ≠ 0 then rdgE (-1) rd else if (rd.getD (rd.length - 1) (0, 0)).1 ≠ at' then 1 else 0
def kindV (e : Ev) : Int :=
  if e.ki = 1 then (if e.sq ≠ 0 ∨ e.re ≠ 0 then 1 else if nameS e.tk then 0 else 4)
  else if e.ki = 3 then (if e.re < 1 ∨ 6 < e.re ∨ e.sq = 0 ∨ e.tk.size ≠ 0 then 1 else 0)
  else if e.ki = 2 then (if e.re ≠ 0 ∨ e.sq = 0 ∨ e.tk.size ≠ 0 then 1 else 0) else 1
def validS (e : Ev) : Int :=
  if ¬ nameS e.st ∨ ¬ nameS e.tx then 4 else if e.co < 1 ∨ 32 < e.co ∨ e.sq < 0 ∨ 2147483647 < e.sq ∨ e.at' < 0 ∨ 268435456 < e.at' then 2
  else if kindV e ≠ 0 then kindV e else rdgV e.rd e.at'
def prv (rd : List (Int × Int)) (i : Nat) : Int := if i = 0 then -1 else (rd.getD (i - 1) (0, 0)).1
theorem prv_next (rd : List (Int × Int)) (i : Nat) : prv rd (i + 1) = (rd.getD i (0, 0)).1 := by simp [prv]
theorem rdg_two {rd : List (Int × Int)} {a : Int} {i : Nat} (h1 : rd.length ≤ 16) (hi : i < rd.length) (hv : rdgE (-1) rd = rdgE (prv rd i) (rd.drop i)) (hb : rdgB (rd.getD i (0, 0)) = false) : rdgV rd a = 2 := by
  rw [drop_get (0, 0) hi, rdgE, hb, if_neg (by decide)] at hv
  unfold rdgV
  rw [if_neg (by omega), if_neg (by omega), hv, if_pos (by decide)]
theorem rdg_one {rd : List (Int × Int)} {a : Int} {i : Nat} (h1 : rd.length ≤ 16) (hi : i < rd.length) (hv : rdgE (-1) rd = rdgE (prv rd i) (rd.drop i)) (hb : rdgB (rd.getD i (0, 0)) = true) (hp : (rd.getD i (0, 0)).1 ≤ prv rd i) : rdgV rd a = 1 := by
  rw [drop_get (0, 0) hi, rdgE, if_pos hb, if_pos hp] at hv
  unfold rdgV
  rw [if_neg (by omega), if_neg (by omega), hv, if_pos (by decide)]
theorem rdg_step {rd : List (Int × Int)} {i : Nat} (hi : i < rd.length) (hv : rdgE (-1) rd = rdgE (prv rd i) (rd.drop i)) (hb : rdgB (rd.getD i (0, 0)) = true) (hp : ¬ (rd.getD i (0, 0)).1 ≤ prv rd i) : rdgE (-1) rd = rdgE (prv rd (i + 1)) (rd.drop (i + 1)) := by
  rw [drop_get (0, 0) hi, rdgE, if_pos hb, if_neg hp] at hv
  rw [hv, prv_next]
theorem rdg_end {rd : List (Int × Int)} {a : Int} {i : Nat} (h1 : rd.length ≤ 16) (h2 : rd.length ≠ 0) (hi : i = rd.length) (hv : rdgE (-1) rd = rdgE (prv rd i) (rd.drop i)) : rdgV rd a = if (rd.getD (rd.length - 1) (0, 0)).1 ≠ a then 1 else 0 := by
  rw [hi, List.drop_length, rdgE] at hv
  unfold rdgV
  rw [if_neg (by omega), if_neg h2, hv]
  simp
theorem rdgB_first {x : Int × Int} (h : rdgB x = true) : 0 ≤ x.1 := by
  simp only [rdgB, decide_eq_true_eq] at h
  exact h.1
theorem vrd_fn (e : Ev) (he : EvT e) : Fun Try.prog [] 54 [tE] [evD e] [tI] (.ok [I64d (rdgV e.rd e.at')]) := by
  refine vrd_ent _ _ ?_
  show vcvrd.den _ _ _ _ _
  unfold vcvrd
  refine den_ite (fun h => den_ret ?_) (fun h => ?_)
  · simp only [E.den, D.toI, D.toB, D.toL, D.toS, D.len, D.mapL, flatD, dE] at h
    simp only [E.den, D.toI, D.toB, D.toL, D.toS, D.len, D.mapL, flatD, dE]
    rw [show rdgV e.rd e.at' = 3 from by unfold rdgV; rw [if_pos (by omega)]]
  simp only [E.den, D.toI, D.toB, D.toL, D.toS, D.len, D.mapL, flatD, dE] at h
  refine den_ite (fun h2 => den_ret ?_) (fun h2 => ?_)
  · simp only [E.den, D.toI, D.toB, D.toL, D.toS, D.len, D.mapL, flatD, dE] at h2
    simp only [E.den, D.toI, D.toB, D.toL, D.toS, D.len, D.mapL, flatD, dE]
    rw [show rdgV e.rd e.at' = 1 from by unfold rdgV; rw [if_neg (by omega), if_pos (by omega)]]
  simp only [E.den, D.toI, D.toB, D.toL, D.toS, D.len, D.mapL, flatD, dE] at h2
  have hl16 : e.rd.length ≤ 16 := by omega
  have hl0 : e.rd.length ≠ 0 := by omega
  refine den_loop (fun xs => ∃ (q : Int) (i : Nat), xs = [I64d q, I64d i] ∧ i ≤ e.rd.length ∧ rdgE (-1) e.rd = rdgE (prv e.rd i) (e.rd.drop i)) (fun xs => e.rd.length - (xs.getD 1 default).toI.toNat) ⟨0, 0, rfl, by omega, rfl⟩ ?_
  simp only [AllSh]
  intro q _ _ n _ _ ⟨_, i, hq, hi, hv⟩
  simp only [List.cons.injEq, D.int.injEq, true_and, and_true] at hq
  obtain ⟨rfl, rfl⟩ := hq
  (try simp only [List.cons_append, List.nil_append])
  refine den_ite (fun h3 => ?_) (fun h3 => ?_)
  · simp only [E.den, D.toI, D.toB, D.toL, D.toS, D.len, D.mapL, flatD, dE] at h3
    have hi' : i < e.rd.length := by omega
    have hw : IntKind.wrap .i64 ((i : Int) + 1) = ((i + 1 : Nat) : Int) := by rw [wrap_i64 (by omega) (by omega)]; omega
    have hg := getD_map (g := rD) (0, 0) hi'
    refine den_ev (evs_ob (by simp only [E.den, D.toI, D.toB, D.toL, D.toS, D.len, D.mapL, flatD, dE]; omega) (evs_ob (by simp only [E.den, D.toI, D.toB, D.toL, D.toS, D.len, D.mapL, flatD, dE]; omega) (evs_nil ?_)))
    refine den_ite (fun k1 => den_ret ?_) (fun k1 => ?_)
    · simp only [E.den, D.toI, D.toB, D.toL, D.toS, D.len, D.mapL, flatD, dE, hg] at k1
      simp only [E.den, D.toI, D.toB, D.toL, D.toS, D.len, D.mapL, flatD, dE]
      rw [rdg_two (a := e.at') hl16 hi' hv (by simp only [rdgB, decide_eq_false_iff_not]; omega)]
    simp only [E.den, D.toI, D.toB, D.toL, D.toS, D.len, D.mapL, flatD, dE, hg] at k1
    refine den_ite (fun k2 => den_ret ?_) (fun k2 => ?_)
    · simp only [E.den, D.toI, D.toB, D.toL, D.toS, D.len, D.mapL, flatD, dE, hg] at k2
      simp only [E.den, D.toI, D.toB, D.toL, D.toS, D.len, D.mapL, flatD, dE]
      rw [rdg_two (a := e.at') hl16 hi' hv (by simp only [rdgB, decide_eq_false_iff_not]; omega)]
    simp only [E.den, D.toI, D.toB, D.toL, D.toS, D.len, D.mapL, flatD, dE, hg] at k2
    refine den_ite (fun k3 => den_ret ?_) (fun k3 => ?_)
    · simp only [E.den, D.toI, D.toB, D.toL, D.toS, D.len, D.mapL, flatD, dE, hg] at k3
      simp only [E.den, D.toI, D.toB, D.toL, D.toS, D.len, D.mapL, flatD, dE]
      rw [rdg_two (a := e.at') hl16 hi' hv (by simp only [rdgB, decide_eq_false_iff_not]; omega)]
    simp only [E.den, D.toI, D.toB, D.toL, D.toS, D.len, D.mapL, flatD, dE, hg] at k3
    refine den_ite (fun k4 => den_ret ?_) (fun k4 => ?_)
    · simp only [E.den, D.toI, D.toB, D.toL, D.toS, D.len, D.mapL, flatD, dE, hg] at k4
      simp only [E.den, D.toI, D.toB, D.toL, D.toS, D.len, D.mapL, flatD, dE]
      rw [rdg_two (a := e.at') hl16 hi' hv (by simp only [rdgB, decide_eq_false_iff_not]; omega)]
    simp only [E.den, D.toI, D.toB, D.toL, D.toS, D.len, D.mapL, flatD, dE, hg] at k4
    have hb : rdgB (e.rd.getD i (0, 0)) = true := by simp only [rdgB, decide_eq_true_eq]; omega
    refine den_ite (fun k5 => ?_) (fun k5 => ?_)
    · simp only [E.den, D.toI, D.toB, D.toL, D.toS, D.len, D.mapL, flatD, dE] at k5
      have hw1 : IntKind.wrap .i64 ((i : Int) - 1) = ((i - 1 : Nat) : Int) := by rw [wrap_i64 (by omega) (by omega)]; omega
      have hg1 := getD_map (g := rD) (i := i - 1) (l := e.rd) (0, 0) (by omega)
      have hpv : prv e.rd i = (e.rd.getD (i - 1) (0, 0)).1 := by unfold prv; rw [if_neg (by omega)]
      refine den_ev (evs_ob (by simp only [E.den, D.toI, D.toB, D.toL, D.toS, D.len, D.mapL, flatD, dE]; rw [hw1]; omega) (evs_ob (by simp only [E.den, D.toI, D.toB, D.toL, D.toS, D.len, D.mapL, flatD, dE]; rw [hw1]; omega) (evs_nil ?_)))
      refine den_ite (fun k6 => ?_) (fun k6 => ?_)
      · simp only [E.den, D.toI, D.toB, D.toL, D.toS, D.len, D.mapL, flatD, dE, hw1, hg, hg1] at k6
        refine den_ret ?_
        simp only [E.den, D.toI, D.toB, D.toL, D.toS, D.len, D.mapL, flatD, dE]
        rw [rdg_one (a := e.at') hl16 hi' hv hb (by rw [hpv]; exact k6)]
      · simp only [E.den, D.toI, D.toB, D.toL, D.toS, D.len, D.mapL, flatD, dE, hw1, hg, hg1] at k6
        refine den_back rfl ⟨q, i + 1, (by simp only [E.den, D.toI, D.toB, D.toL, D.toS, D.len, D.mapL, flatD, dE]; rw [hw]), by omega, rdg_step hi' hv hb ?_⟩ (by simp only []; simp only [E.den, D.toI, D.toB, D.toL, D.toS, D.len, D.mapL, flatD, dE]; rw [hw]; omega)
        rw [hpv]
        omega
    · simp only [E.den, D.toI, D.toB, D.toL, D.toS, D.len, D.mapL, flatD, dE] at k5
      refine den_back rfl ⟨q, i + 1, (by simp only [E.den, D.toI, D.toB, D.toL, D.toS, D.len, D.mapL, flatD, dE]; rw [hw]), by omega, rdg_step hi' hv hb ?_⟩ (by simp only []; simp only [E.den, D.toI, D.toB, D.toL, D.toS, D.len, D.mapL, flatD, dE]; rw [hw]; omega)
      have h0 := rdgB_first hb
      unfold prv
      rw [if_pos (by omega)]
      omega
  · simp only [E.den, D.toI, D.toB, D.toL, D.toS, D.len, D.mapL, flatD, dE] at h3
    have hi' : i = e.rd.length := by omega
    have hw1 : IntKind.wrap .i64 ((e.rd.length : Int) - 1) = ((e.rd.length - 1 : Nat) : Int) := by rw [wrap_i64 (by omega) (by omega)]; omega
    have hg := getD_map (g := rD) (i := e.rd.length - 1) (l := e.rd) (0, 0) (by omega)
    have hend := rdg_end (a := e.at') hl16 hl0 hi' hv
    refine den_ev (evs_ob (by simp only [E.den, D.toI, D.toB, D.toL, D.toS, D.len, D.mapL, flatD, dE]; rw [hw1]; omega) (evs_ob (by simp only [E.den, D.toI, D.toB, D.toL, D.toS, D.len, D.mapL, flatD, dE]; rw [hw1]; omega) (evs_nil ?_)))
    refine den_ite (fun h4 => den_ret ?_) (fun h4 => den_ret ?_)
    · simp only [E.den, D.toI, D.toB, D.toL, D.toS, D.len, D.mapL, flatD, dE, hw1, hg] at h4
      simp only [E.den, D.toI, D.toB, D.toL, D.toS, D.len, D.mapL, flatD, dE]
      rw [hend, if_pos h4]
    · simp only [E.den, D.toI, D.toB, D.toL, D.toS, D.len, D.mapL, flatD, dE, hw1, hg] at h4
      simp only [E.den, D.toI, D.toB, D.toL, D.toS, D.len, D.mapL, flatD, dE]
      rw [hend, if_neg (fun c => c h4)]
theorem rvrd_fn (e : Ev) (he : EvT e) : Fun Try.prog [] 58 [tE] [evD e] [tI] (.ok [I64d (rdgV e.rd e.at')]) := by
  refine rvrd_ent _ _ ?_
  show vcrvrd.den _ _ _ _ _
  unfold vcrvrd
  refine den_ite (fun h => den_ret ?_) (fun h => ?_)
  · simp only [E.den, D.toI, D.toB, D.toL, D.toS, D.len, D.mapL, flatD, dE] at h
    simp only [E.den, D.toI, D.toB, D.toL, D.toS, D.len, D.mapL, flatD, dE]
    rw [show rdgV e.rd e.at' = 3 from by unfold rdgV; rw [if_pos (by omega)]]
  simp only [E.den, D.toI, D.toB, D.toL, D.toS, D.len, D.mapL, flatD, dE] at h
  refine den_ite (fun h2 => den_ret ?_) (fun h2 => ?_)
  · simp only [E.den, D.toI, D.toB, D.toL, D.toS, D.len, D.mapL, flatD, dE] at h2
    simp only [E.den, D.toI, D.toB, D.toL, D.toS, D.len, D.mapL, flatD, dE]
    rw [show rdgV e.rd e.at' = 1 from by unfold rdgV; rw [if_neg (by omega), if_pos (by omega)]]
  simp only [E.den, D.toI, D.toB, D.toL, D.toS, D.len, D.mapL, flatD, dE] at h2
  have hl16 : e.rd.length ≤ 16 := by omega
  have hl0 : e.rd.length ≠ 0 := by omega
  refine den_loop (fun xs => ∃ (q : Int) (i : Nat), xs = [I64d q, I64d i] ∧ i ≤ e.rd.length ∧ rdgE (-1) e.rd = rdgE (prv e.rd i) (e.rd.drop i)) (fun xs => e.rd.length - (xs.getD 1 default).toI.toNat) ⟨0, 0, rfl, by omega, rfl⟩ ?_
  simp only [AllSh]
  intro q _ _ n _ _ ⟨_, i, hq, hi, hv⟩
  simp only [List.cons.injEq, D.int.injEq, true_and, and_true] at hq
  obtain ⟨rfl, rfl⟩ := hq
  (try simp only [List.cons_append, List.nil_append])
  refine den_ite (fun h3 => ?_) (fun h3 => ?_)
  · simp only [E.den, D.toI, D.toB, D.toL, D.toS, D.len, D.mapL, flatD, dE] at h3
    have hi' : i < e.rd.length := by omega
    have hw : IntKind.wrap .i64 ((i : Int) + 1) = ((i + 1 : Nat) : Int) := by rw [wrap_i64 (by omega) (by omega)]; omega
    have hg := getD_map (g := rD) (0, 0) hi'
    refine den_ev (evs_ob (by simp only [E.den, D.toI, D.toB, D.toL, D.toS, D.len, D.mapL, flatD, dE]; omega) (evs_ob (by simp only [E.den, D.toI, D.toB, D.toL, D.toS, D.len, D.mapL, flatD, dE]; omega) (evs_nil ?_)))
    refine den_cal [.bool (rdgB (e.rd.getD i (0, 0)))] rfl (reading_fn (e.rd.getD i (0, 0))) (by simp only [E.den, D.toI, D.toB, D.toL, D.toS, D.len, D.mapL, flatD, dE, hg]) rfl ?_
    (try simp only [List.cons_append, List.nil_append])
    refine den_ite (fun hb => ?_) (fun hb => ?_)
    · simp only [E.den, D.toI, D.toB, D.toL, D.toS, D.len, D.mapL, flatD, dE] at hb
      refine den_ite (fun k5 => ?_) (fun k5 => ?_)
      · simp only [E.den, D.toI, D.toB, D.toL, D.toS, D.len, D.mapL, flatD, dE] at k5
        have hw1 : IntKind.wrap .i64 ((i : Int) - 1) = ((i - 1 : Nat) : Int) := by rw [wrap_i64 (by omega) (by omega)]; omega
        have hg1 := getD_map (g := rD) (i := i - 1) (l := e.rd) (0, 0) (by omega)
        have hpv : prv e.rd i = (e.rd.getD (i - 1) (0, 0)).1 := by unfold prv; rw [if_neg (by omega)]
        refine den_ev (evs_ob (by simp only [E.den, D.toI, D.toB, D.toL, D.toS, D.len, D.mapL, flatD, dE]; omega) (evs_ob (by simp only [E.den, D.toI, D.toB, D.toL, D.toS, D.len, D.mapL, flatD, dE]; omega) (evs_ob (by simp only [E.den, D.toI, D.toB, D.toL, D.toS, D.len, D.mapL, flatD, dE]; rw [hw1]; omega) (evs_ob (by simp only [E.den, D.toI, D.toB, D.toL, D.toS, D.len, D.mapL, flatD, dE]; rw [hw1]; omega) (evs_nil ?_)))))
        refine den_ite (fun k6 => ?_) (fun k6 => ?_)
        · simp only [E.den, D.toI, D.toB, D.toL, D.toS, D.len, D.mapL, flatD, dE, hw1, hg, hg1] at k6
          refine den_ret ?_
          simp only [E.den, D.toI, D.toB, D.toL, D.toS, D.len, D.mapL, flatD, dE]
          rw [rdg_one (a := e.at') hl16 hi' hv hb (by rw [hpv]; exact k6)]
        · simp only [E.den, D.toI, D.toB, D.toL, D.toS, D.len, D.mapL, flatD, dE, hw1, hg, hg1] at k6
          refine den_back rfl ⟨q, i + 1, (by simp only [E.den, D.toI, D.toB, D.toL, D.toS, D.len, D.mapL, flatD, dE]; rw [hw]), by omega, rdg_step hi' hv hb ?_⟩ (by simp only []; simp only [E.den, D.toI, D.toB, D.toL, D.toS, D.len, D.mapL, flatD, dE]; rw [hw]; omega)
          rw [hpv]
          omega
      · simp only [E.den, D.toI, D.toB, D.toL, D.toS, D.len, D.mapL, flatD, dE] at k5
        refine den_back rfl ⟨q, i + 1, (by simp only [E.den, D.toI, D.toB, D.toL, D.toS, D.len, D.mapL, flatD, dE]; rw [hw]), by omega, rdg_step hi' hv hb ?_⟩ (by simp only []; simp only [E.den, D.toI, D.toB, D.toL, D.toS, D.len, D.mapL, flatD, dE]; rw [hw]; omega)
        have h0 := rdgB_first hb
        unfold prv
        rw [if_pos (by omega)]
        omega
    · simp only [E.den, D.toI, D.toB, D.toL, D.toS, D.len, D.mapL, flatD, dE] at hb
      refine den_ret ?_
      simp only [E.den, D.toI, D.toB, D.toL, D.toS, D.len, D.mapL, flatD, dE]
      rw [rdg_two (a := e.at') hl16 hi' hv hb]
  · simp only [E.den, D.toI, D.toB, D.toL, D.toS, D.len, D.mapL, flatD, dE] at h3
    have hi' : i = e.rd.length := by omega
    have hw1 : IntKind.wrap .i64 ((e.rd.length : Int) - 1) = ((e.rd.length - 1 : Nat) : Int) := by rw [wrap_i64 (by omega) (by omega)]; omega
    have hg := getD_map (g := rD) (i := e.rd.length - 1) (l := e.rd) (0, 0) (by omega)
    have hend := rdg_end (a := e.at') hl16 hl0 hi' hv
    refine den_ev (evs_ob (by simp only [E.den, D.toI, D.toB, D.toL, D.toS, D.len, D.mapL, flatD, dE]; rw [hw1]; omega) (evs_ob (by simp only [E.den, D.toI, D.toB, D.toL, D.toS, D.len, D.mapL, flatD, dE]; rw [hw1]; omega) (evs_nil ?_)))
    refine den_ite (fun h4 => den_ret ?_) (fun h4 => den_ret ?_)
    · simp only [E.den, D.toI, D.toB, D.toL, D.toS, D.len, D.mapL, flatD, dE, hw1, hg] at h4
      simp only [E.den, D.toI, D.toB, D.toL, D.toS, D.len, D.mapL, flatD, dE]
      rw [hend, if_pos h4]
    · simp only [E.den, D.toI, D.toB, D.toL, D.toS, D.len, D.mapL, flatD, dE, hw1, hg] at h4
      simp only [E.den, D.toI, D.toB, D.toL, D.toS, D.len, D.mapL, flatD, dE]
      rw [hend, if_neg (fun c => c h4)]
theorem in30_fn (a b c : Int) : Fun Try.prog [] 56 [tI, tI, tI] [I64d a, I64d b, I64d c] [tB] (.ok [.bool (decide (b ≤ a ∧ a ≤ c))]) := by
  refine in30_ent _ _ ?_
  show vcin30.den _ _ _ _ _
  unfold vcin30
  refine den_ite (fun h => den_ret ?_) (fun h => den_ret ?_) <;> simp only [E.den, D.toI, D.toB, D.toL, D.toS, D.len, D.mapL, flatD, dE] at h <;> simp only [E.den, D.toI, D.toB, D.toL, D.toS, D.len, D.mapL, flatD, dE] <;> simp [h] <;> omega
theorem kind_fn (e : Ev) (he : EvT e) : Fun Try.prog [] 53 [tE] [evD e] [tI] (.ok [I64d (kindV e)]) := by
  refine kind_ent _ _ ?_
  show vckind.den _ _ _ _ _
  unfold vckind
  refine den_ite (fun h1 => ?_) (fun h1 => ?_)
  · simp only [E.den, D.toI, D.toB, D.toL, D.toS, D.len, D.mapL, flatD, dE, str_eq, emp_iff] at h1
    refine den_ite (fun h2 => ?_) (fun h2 => ?_)
    · simp only [E.den, D.toI, D.toB, D.toL, D.toS, D.len, D.mapL, flatD, dE, str_eq, emp_iff] at h2
      refine den_ret ?_
      simp only [E.den, D.toI, D.toB, D.toL, D.toS, D.len, D.mapL, flatD, dE]
      (first | (simp [kindV, *]; done) | (simp [kindV, *]; omega) | (unfold kindV; (repeat' split) <;> (first | rfl | (exfalso; omega) | simp_all | (simp_all; omega))))
    · simp only [E.den, D.toI, D.toB, D.toL, D.toS, D.len, D.mapL, flatD, dE, str_eq, emp_iff] at h2
      refine den_ite (fun h3 => ?_) (fun h3 => ?_)
      · simp only [E.den, D.toI, D.toB, D.toL, D.toS, D.len, D.mapL, flatD, dE, str_eq, emp_iff] at h3
        refine den_ret ?_
        simp only [E.den, D.toI, D.toB, D.toL, D.toS, D.len, D.mapL, flatD, dE]
        (first | (simp [kindV, *]; done) | (simp [kindV, *]; omega) | (unfold kindV; (repeat' split) <;> (first | rfl | (exfalso; omega) | simp_all | (simp_all; omega))))
      · simp only [E.den, D.toI, D.toB, D.toL, D.toS, D.len, D.mapL, flatD, dE, str_eq, emp_iff] at h3
        refine den_cal [.bool (nameS e.tk)] rfl (ident_fn e.tk he.tk) rfl rfl ?_
        refine den_ite (fun h4 => ?_) (fun h4 => ?_)
        · simp only [E.den, D.toI, D.toB, D.toL, D.toS, D.len, D.mapL, flatD, dE, str_eq, emp_iff] at h4
          refine den_ret ?_
          simp only [E.den, D.toI, D.toB, D.toL, D.toS, D.len, D.mapL, flatD, dE]
          (first | (simp [kindV, *]; done) | (simp [kindV, *]; omega) | (unfold kindV; (repeat' split) <;> (first | rfl | (exfalso; omega) | simp_all | (simp_all; omega))))
        · simp only [E.den, D.toI, D.toB, D.toL, D.toS, D.len, D.mapL, flatD, dE, str_eq, emp_iff] at h4
          refine den_ret ?_
          simp only [E.den, D.toI, D.toB, D.toL, D.toS, D.len, D.mapL, flatD, dE]
          (first | (simp [kindV, *]; done) | (simp [kindV, *]; omega) | (unfold kindV; (repeat' split) <;> (first | rfl | (exfalso; omega) | simp_all | (simp_all; omega))))
  · simp only [E.den, D.toI, D.toB, D.toL, D.toS, D.len, D.mapL, flatD, dE, str_eq, emp_iff] at h1
    refine den_ite (fun h5 => ?_) (fun h5 => ?_)
    · simp only [E.den, D.toI, D.toB, D.toL, D.toS, D.len, D.mapL, flatD, dE, str_eq, emp_iff] at h5
      refine den_ite (fun h6 => ?_) (fun h6 => ?_)
      · simp only [E.den, D.toI, D.toB, D.toL, D.toS, D.len, D.mapL, flatD, dE, str_eq, emp_iff] at h6
        refine den_ret ?_
        simp only [E.den, D.toI, D.toB, D.toL, D.toS, D.len, D.mapL, flatD, dE]
        (first | (simp [kindV, *]; done) | (simp [kindV, *]; omega) | (unfold kindV; (repeat' split) <;> (first | rfl | (exfalso; omega) | simp_all | (simp_all; omega))))
      · simp only [E.den, D.toI, D.toB, D.toL, D.toS, D.len, D.mapL, flatD, dE, str_eq, emp_iff] at h6
        refine den_ite (fun h7 => ?_) (fun h7 => ?_)
        · simp only [E.den, D.toI, D.toB, D.toL, D.toS, D.len, D.mapL, flatD, dE, str_eq, emp_iff] at h7
          refine den_ret ?_
          simp only [E.den, D.toI, D.toB, D.toL, D.toS, D.len, D.mapL, flatD, dE]
          (first | (simp [kindV, *]; done) | (simp [kindV, *]; omega) | (unfold kindV; (repeat' split) <;> (first | rfl | (exfalso; omega) | simp_all | (simp_all; omega))))
        · simp only [E.den, D.toI, D.toB, D.toL, D.toS, D.len, D.mapL, flatD, dE, str_eq, emp_iff] at h7
          refine den_ite (fun h8 => ?_) (fun h8 => ?_)
          · simp only [E.den, D.toI, D.toB, D.toL, D.toS, D.len, D.mapL, flatD, dE, str_eq, emp_iff] at h8
            refine den_ite (fun h9 => ?_) (fun h9 => ?_)
            · simp only [E.den, D.toI, D.toB, D.toL, D.toS, D.len, D.mapL, flatD, dE, str_eq, emp_iff] at h9
              refine den_ret ?_
              simp only [E.den, D.toI, D.toB, D.toL, D.toS, D.len, D.mapL, flatD, dE]
              (first | (simp [kindV, *]; done) | (simp [kindV, *]; omega) | (unfold kindV; (repeat' split) <;> (first | rfl | (exfalso; omega) | simp_all | (simp_all; omega))))
            · simp only [E.den, D.toI, D.toB, D.toL, D.toS, D.len, D.mapL, flatD, dE, str_eq, emp_iff] at h9
              refine den_ite (fun h10 => ?_) (fun h10 => ?_)
              · simp only [E.den, D.toI, D.toB, D.toL, D.toS, D.len, D.mapL, flatD, dE, str_eq, emp_iff] at h10
                refine den_ret ?_
                simp only [E.den, D.toI, D.toB, D.toL, D.toS, D.len, D.mapL, flatD, dE]
                (first | (simp [kindV, *]; done) | (simp [kindV, *]; omega) | (unfold kindV; (repeat' split) <;> (first | rfl | (exfalso; omega) | simp_all | (simp_all; omega))))
              · simp only [E.den, D.toI, D.toB, D.toL, D.toS, D.len, D.mapL, flatD, dE, str_eq, emp_iff] at h10
                refine den_ite (fun h11 => ?_) (fun h11 => ?_)
                · simp only [E.den, D.toI, D.toB, D.toL, D.toS, D.len, D.mapL, flatD, dE, str_eq, emp_iff] at h11
                  refine den_ret ?_
                  simp only [E.den, D.toI, D.toB, D.toL, D.toS, D.len, D.mapL, flatD, dE]
                  (first | (simp [kindV, *]; done) | (simp [kindV, *]; omega) | (unfold kindV; (repeat' split) <;> (first | rfl | (exfalso; omega) | simp_all | (simp_all; omega))))
                · simp only [E.den, D.toI, D.toB, D.toL, D.toS, D.len, D.mapL, flatD, dE, str_eq, emp_iff] at h11
                  refine den_ret ?_
                  simp only [E.den, D.toI, D.toB, D.toL, D.toS, D.len, D.mapL, flatD, dE]
                  (first | (simp [kindV, *]; done) | (simp [kindV, *]; omega) | (unfold kindV; (repeat' split) <;> (first | rfl | (exfalso; omega) | simp_all | (simp_all; omega))))
          · simp only [E.den, D.toI, D.toB, D.toL, D.toS, D.len, D.mapL, flatD, dE, str_eq, emp_iff] at h8
            refine den_ite (fun h12 => ?_) (fun h12 => ?_)
            · simp only [E.den, D.toI, D.toB, D.toL, D.toS, D.len, D.mapL, flatD, dE, str_eq, emp_iff] at h12
              refine den_ret ?_
              simp only [E.den, D.toI, D.toB, D.toL, D.toS, D.len, D.mapL, flatD, dE]
              (first | (simp [kindV, *]; done) | (simp [kindV, *]; omega) | (unfold kindV; (repeat' split) <;> (first | rfl | (exfalso; omega) | simp_all | (simp_all; omega))))
            · simp only [E.den, D.toI, D.toB, D.toL, D.toS, D.len, D.mapL, flatD, dE, str_eq, emp_iff] at h12
              refine den_ite (fun h13 => ?_) (fun h13 => ?_)
              · simp only [E.den, D.toI, D.toB, D.toL, D.toS, D.len, D.mapL, flatD, dE, str_eq, emp_iff] at h13
                refine den_ret ?_
                simp only [E.den, D.toI, D.toB, D.toL, D.toS, D.len, D.mapL, flatD, dE]
                (first | (simp [kindV, *]; done) | (simp [kindV, *]; omega) | (unfold kindV; (repeat' split) <;> (first | rfl | (exfalso; omega) | simp_all | (simp_all; omega))))
              · simp only [E.den, D.toI, D.toB, D.toL, D.toS, D.len, D.mapL, flatD, dE, str_eq, emp_iff] at h13
                refine den_ret ?_
                simp only [E.den, D.toI, D.toB, D.toL, D.toS, D.len, D.mapL, flatD, dE]
                (first | (simp [kindV, *]; done) | (simp [kindV, *]; omega) | (unfold kindV; (repeat' split) <;> (first | rfl | (exfalso; omega) | simp_all | (simp_all; omega))))
    · simp only [E.den, D.toI, D.toB, D.toL, D.toS, D.len, D.mapL, flatD, dE, str_eq, emp_iff] at h5
      refine den_ite (fun h14 => ?_) (fun h14 => ?_)
      · simp only [E.den, D.toI, D.toB, D.toL, D.toS, D.len, D.mapL, flatD, dE, str_eq, emp_iff] at h14
        refine den_ite (fun h15 => ?_) (fun h15 => ?_)
        · simp only [E.den, D.toI, D.toB, D.toL, D.toS, D.len, D.mapL, flatD, dE, str_eq, emp_iff] at h15
          refine den_ret ?_
          simp only [E.den, D.toI, D.toB, D.toL, D.toS, D.len, D.mapL, flatD, dE]
          (first | (simp [kindV, *]; done) | (simp [kindV, *]; omega) | (unfold kindV; (repeat' split) <;> (first | rfl | (exfalso; omega) | simp_all | (simp_all; omega))))
        · simp only [E.den, D.toI, D.toB, D.toL, D.toS, D.len, D.mapL, flatD, dE, str_eq, emp_iff] at h15
          refine den_ite (fun h16 => ?_) (fun h16 => ?_)
          · simp only [E.den, D.toI, D.toB, D.toL, D.toS, D.len, D.mapL, flatD, dE, str_eq, emp_iff] at h16
            refine den_ret ?_
            simp only [E.den, D.toI, D.toB, D.toL, D.toS, D.len, D.mapL, flatD, dE]
            (first | (simp [kindV, *]; done) | (simp [kindV, *]; omega) | (unfold kindV; (repeat' split) <;> (first | rfl | (exfalso; omega) | simp_all | (simp_all; omega))))
          · simp only [E.den, D.toI, D.toB, D.toL, D.toS, D.len, D.mapL, flatD, dE, str_eq, emp_iff] at h16
            refine den_ite (fun h17 => ?_) (fun h17 => ?_)
            · simp only [E.den, D.toI, D.toB, D.toL, D.toS, D.len, D.mapL, flatD, dE, str_eq, emp_iff] at h17
              refine den_ret ?_
              simp only [E.den, D.toI, D.toB, D.toL, D.toS, D.len, D.mapL, flatD, dE]
              (first | (simp [kindV, *]; done) | (simp [kindV, *]; omega) | (unfold kindV; (repeat' split) <;> (first | rfl | (exfalso; omega) | simp_all | (simp_all; omega))))
            · simp only [E.den, D.toI, D.toB, D.toL, D.toS, D.len, D.mapL, flatD, dE, str_eq, emp_iff] at h17
              refine den_ret ?_
              simp only [E.den, D.toI, D.toB, D.toL, D.toS, D.len, D.mapL, flatD, dE]
              (first | (simp [kindV, *]; done) | (simp [kindV, *]; omega) | (unfold kindV; (repeat' split) <;> (first | rfl | (exfalso; omega) | simp_all | (simp_all; omega))))
      · simp only [E.den, D.toI, D.toB, D.toL, D.toS, D.len, D.mapL, flatD, dE, str_eq, emp_iff] at h14
        refine den_ret ?_
        simp only [E.den, D.toI, D.toB, D.toL, D.toS, D.len, D.mapL, flatD, dE]
        (first | (simp [kindV, *]; done) | (simp [kindV, *]; omega) | (unfold kindV; (repeat' split) <;> (first | rfl | (exfalso; omega) | simp_all | (simp_all; omega))))
theorem valid_fn (e : Ev) (he : EvT e) : Fun Try.prog [] 29 [tE] [evD e] [tI] (.ok [I64d (validS e)]) := by
  refine valid_ent _ _ ?_
  show vcvalid.den _ _ _ _ _
  unfold vcvalid
  refine den_cal [.bool (nameS e.st)] rfl (ident_fn e.st he.st) rfl rfl ?_
  refine den_ite (fun h1 => ?_) (fun h1 => ?_)
  · simp only [E.den, D.toI, D.toB, D.toL, D.toS, D.len, D.mapL, flatD, dE, str_eq, emp_iff] at h1
    refine den_cal [.bool (nameS e.tx)] rfl (ident_fn e.tx he.tx) rfl rfl ?_
    refine den_ite (fun h2 => ?_) (fun h2 => ?_)
    · simp only [E.den, D.toI, D.toB, D.toL, D.toS, D.len, D.mapL, flatD, dE, str_eq, emp_iff] at h2
      refine den_ite (fun h3 => ?_) (fun h3 => ?_)
      · simp only [E.den, D.toI, D.toB, D.toL, D.toS, D.len, D.mapL, flatD, dE, str_eq, emp_iff] at h3
        refine den_ret ?_
        simp only [E.den, D.toI, D.toB, D.toL, D.toS, D.len, D.mapL, flatD, dE]
        simp only [FR.ok.injEq, List.cons.injEq, D.int.injEq, true_and, and_true]
        (first | (simp [validS, *]; done) | (simp [validS, *]; omega) | (unfold validS; (repeat' split) <;> (first | rfl | (exfalso; omega) | simp_all | (simp_all; omega))))
      · simp only [E.den, D.toI, D.toB, D.toL, D.toS, D.len, D.mapL, flatD, dE, str_eq, emp_iff] at h3
        refine den_ite (fun h4 => ?_) (fun h4 => ?_)
        · simp only [E.den, D.toI, D.toB, D.toL, D.toS, D.len, D.mapL, flatD, dE, str_eq, emp_iff] at h4
          refine den_ret ?_
          simp only [E.den, D.toI, D.toB, D.toL, D.toS, D.len, D.mapL, flatD, dE]
          simp only [FR.ok.injEq, List.cons.injEq, D.int.injEq, true_and, and_true]
          (first | (simp [validS, *]; done) | (simp [validS, *]; omega) | (unfold validS; (repeat' split) <;> (first | rfl | (exfalso; omega) | simp_all | (simp_all; omega))))
        · simp only [E.den, D.toI, D.toB, D.toL, D.toS, D.len, D.mapL, flatD, dE, str_eq, emp_iff] at h4
          refine den_ite (fun h5 => ?_) (fun h5 => ?_)
          · simp only [E.den, D.toI, D.toB, D.toL, D.toS, D.len, D.mapL, flatD, dE, str_eq, emp_iff] at h5
            refine den_ret ?_
            simp only [E.den, D.toI, D.toB, D.toL, D.toS, D.len, D.mapL, flatD, dE]
            simp only [FR.ok.injEq, List.cons.injEq, D.int.injEq, true_and, and_true]
            (first | (simp [validS, *]; done) | (simp [validS, *]; omega) | (unfold validS; (repeat' split) <;> (first | rfl | (exfalso; omega) | simp_all | (simp_all; omega))))
          · simp only [E.den, D.toI, D.toB, D.toL, D.toS, D.len, D.mapL, flatD, dE, str_eq, emp_iff] at h5
            refine den_ite (fun h6 => ?_) (fun h6 => ?_)
            · simp only [E.den, D.toI, D.toB, D.toL, D.toS, D.len, D.mapL, flatD, dE, str_eq, emp_iff] at h6
              refine den_ret ?_
              simp only [E.den, D.toI, D.toB, D.toL, D.toS, D.len, D.mapL, flatD, dE]
              simp only [FR.ok.injEq, List.cons.injEq, D.int.injEq, true_and, and_true]
              (first | (simp [validS, *]; done) | (simp [validS, *]; omega) | (unfold validS; (repeat' split) <;> (first | rfl | (exfalso; omega) | simp_all | (simp_all; omega))))
            · simp only [E.den, D.toI, D.toB, D.toL, D.toS, D.len, D.mapL, flatD, dE, str_eq, emp_iff] at h6
              refine den_ite (fun h7 => ?_) (fun h7 => ?_)
              · simp only [E.den, D.toI, D.toB, D.toL, D.toS, D.len, D.mapL, flatD, dE, str_eq, emp_iff] at h7
                refine den_ret ?_
                simp only [E.den, D.toI, D.toB, D.toL, D.toS, D.len, D.mapL, flatD, dE]
                simp only [FR.ok.injEq, List.cons.injEq, D.int.injEq, true_and, and_true]
                (first | (simp [validS, *]; done) | (simp [validS, *]; omega) | (unfold validS; (repeat' split) <;> (first | rfl | (exfalso; omega) | simp_all | (simp_all; omega))))
              · simp only [E.den, D.toI, D.toB, D.toL, D.toS, D.len, D.mapL, flatD, dE, str_eq, emp_iff] at h7
                refine den_ite (fun h8 => ?_) (fun h8 => ?_)
                · simp only [E.den, D.toI, D.toB, D.toL, D.toS, D.len, D.mapL, flatD, dE, str_eq, emp_iff] at h8
                  refine den_ret ?_
                  simp only [E.den, D.toI, D.toB, D.toL, D.toS, D.len, D.mapL, flatD, dE]
                  simp only [FR.ok.injEq, List.cons.injEq, D.int.injEq, true_and, and_true]
                  (first | (simp [validS, *]; done) | (simp [validS, *]; omega) | (unfold validS; (repeat' split) <;> (first | rfl | (exfalso; omega) | simp_all | (simp_all; omega))))
                · simp only [E.den, D.toI, D.toB, D.toL, D.toS, D.len, D.mapL, flatD, dE, str_eq, emp_iff] at h8
                  refine den_cal [I64d (kindV e)] rfl (kind_fn e he) rfl rfl ?_
                  refine den_ite (fun h9 => ?_) (fun h9 => ?_)
                  · simp only [E.den, D.toI, D.toB, D.toL, D.toS, D.len, D.mapL, flatD, dE, str_eq, emp_iff] at h9
                    refine den_ret ?_
                    simp only [E.den, D.toI, D.toB, D.toL, D.toS, D.len, D.mapL, flatD, dE]
                    simp only [FR.ok.injEq, List.cons.injEq, D.int.injEq, true_and, and_true]
                    (first | (simp [validS, *]; done) | (simp [validS, *]; omega) | (unfold validS; (repeat' split) <;> (first | rfl | (exfalso; omega) | simp_all | (simp_all; omega))))
                  · simp only [E.den, D.toI, D.toB, D.toL, D.toS, D.len, D.mapL, flatD, dE, str_eq, emp_iff] at h9
                    refine den_cal [I64d (rdgV e.rd e.at')] rfl (vrd_fn e he) rfl rfl ?_
                    refine den_ret ?_
                    simp only [E.den, D.toI, D.toB, D.toL, D.toS, D.len, D.mapL, flatD, dE]
                    simp only [FR.ok.injEq, List.cons.injEq, D.int.injEq, true_and, and_true]
                    (first | (simp [validS, *]; done) | (simp [validS, *]; omega) | (unfold validS; (repeat' split) <;> (first | rfl | (exfalso; omega) | simp_all | (simp_all; omega))))
    · simp only [E.den, D.toI, D.toB, D.toL, D.toS, D.len, D.mapL, flatD, dE, str_eq, emp_iff] at h2
      refine den_ret ?_
      simp only [E.den, D.toI, D.toB, D.toL, D.toS, D.len, D.mapL, flatD, dE]
      simp only [FR.ok.injEq, List.cons.injEq, D.int.injEq, true_and, and_true]
      (first | (simp [validS, *]; done) | (simp [validS, *]; omega) | (unfold validS; (repeat' split) <;> (first | rfl | (exfalso; omega) | simp_all | (simp_all; omega))))
  · simp only [E.den, D.toI, D.toB, D.toL, D.toS, D.len, D.mapL, flatD, dE, str_eq, emp_iff] at h1
    refine den_ret ?_
    simp only [E.den, D.toI, D.toB, D.toL, D.toS, D.len, D.mapL, flatD, dE]
    simp only [FR.ok.injEq, List.cons.injEq, D.int.injEq, true_and, and_true]
    (first | (simp [validS, *]; done) | (simp [validS, *]; omega) | (unfold validS; (repeat' split) <;> (first | rfl | (exfalso; omega) | simp_all | (simp_all; omega))))
theorem rvalid_fn (e : Ev) (he : EvT e) : Fun Try.prog [] 30 [tE] [evD e] [tI] (.ok [I64d (validS e)]) := by
  refine rvalid_ent _ _ ?_
  show vcrvalid.den _ _ _ _ _
  unfold vcrvalid
  refine den_cal [.bool (nameS e.st)] rfl (Id.rvalid_fn e.st he.st) rfl rfl ?_
  refine den_ite (fun h1 => ?_) (fun h1 => ?_)
  · simp only [E.den, D.toI, D.toB, D.toL, D.toS, D.len, D.mapL, flatD, dE, str_eq, emp_iff] at h1
    refine den_cal [.bool (nameS e.tx)] rfl (Id.rvalid_fn e.tx he.tx) rfl rfl ?_
    refine den_ite (fun h2 => ?_) (fun h2 => ?_)
    · simp only [E.den, D.toI, D.toB, D.toL, D.toS, D.len, D.mapL, flatD, dE, str_eq, emp_iff] at h2
      refine den_cal [.bool (decide (1 ≤ e.co ∧ e.co ≤ 32))] rfl (in30_fn e.co 1 32) rfl rfl ?_
      refine den_ite (fun h3 => ?_) (fun h3 => ?_)
      · simp only [E.den, D.toI, D.toB, D.toL, D.toS, D.len, D.mapL, flatD, dE, str_eq, emp_iff] at h3
        refine den_cal [.bool (decide (0 ≤ e.sq ∧ e.sq ≤ 2147483647))] rfl (in30_fn e.sq 0 2147483647) rfl rfl ?_
        refine den_ite (fun h4 => ?_) (fun h4 => ?_)
        · simp only [E.den, D.toI, D.toB, D.toL, D.toS, D.len, D.mapL, flatD, dE, str_eq, emp_iff] at h4
          refine den_cal [.bool (decide (0 ≤ e.at' ∧ e.at' ≤ 268435456))] rfl (right_fn e.at') rfl rfl ?_
          refine den_ite (fun h5 => ?_) (fun h5 => ?_)
          · simp only [E.den, D.toI, D.toB, D.toL, D.toS, D.len, D.mapL, flatD, dE, str_eq, emp_iff] at h5
            refine den_cal [.bool (decide (1 ≤ e.ki ∧ e.ki ≤ 3))] rfl (in30_fn e.ki 1 3) rfl rfl ?_
            refine den_ite (fun h6 => ?_) (fun h6 => ?_)
            · simp only [E.den, D.toI, D.toB, D.toL, D.toS, D.len, D.mapL, flatD, dE, str_eq, emp_iff] at h6
              refine den_ite (fun h7 => ?_) (fun h7 => ?_)
              · simp only [E.den, D.toI, D.toB, D.toL, D.toS, D.len, D.mapL, flatD, dE, str_eq, emp_iff] at h7; rw [Bool.eq_iff_iff, beq_iff_eq, beq_iff_eq] at h7
                refine den_ite (fun h8 => ?_) (fun h8 => ?_)
                · simp only [E.den, D.toI, D.toB, D.toL, D.toS, D.len, D.mapL, flatD, dE, str_eq, emp_iff] at h8
                  refine den_ite (fun h9 => ?_) (fun h9 => ?_)
                  · simp only [E.den, D.toI, D.toB, D.toL, D.toS, D.len, D.mapL, flatD, dE, str_eq, emp_iff] at h9
                    refine den_ret ?_
                    simp only [E.den, D.toI, D.toB, D.toL, D.toS, D.len, D.mapL, flatD, dE]
                    simp only [FR.ok.injEq, List.cons.injEq, D.int.injEq, true_and, and_true]
                    (have hnm : ¬(¬ nameS e.st = true ∨ ¬ nameS e.tx = true) := (by simp [*]); unfold validS; rw [if_neg hnm, if_neg (by omega)]; have hk : kindV e = 1 := (by unfold kindV; (repeat' split) <;> (first | rfl | omega | simp_all)); rw [hk, if_pos (by decide)])
                  · simp only [E.den, D.toI, D.toB, D.toL, D.toS, D.len, D.mapL, flatD, dE, str_eq, emp_iff] at h9
                    refine den_ite (fun h10 => ?_) (fun h10 => ?_)
                    · simp only [E.den, D.toI, D.toB, D.toL, D.toS, D.len, D.mapL, flatD, dE, str_eq, emp_iff] at h10
                      refine den_cal [.bool (nameS e.tk)] rfl (Id.rvalid_fn e.tk he.tk) rfl rfl ?_
                      refine den_ite (fun h11 => ?_) (fun h11 => ?_)
                      · simp only [E.den, D.toI, D.toB, D.toL, D.toS, D.len, D.mapL, flatD, dE, str_eq, emp_iff] at h11
                        refine den_cal [I64d (rdgV e.rd e.at')] rfl (rvrd_fn e he) rfl rfl ?_
                        refine den_ret ?_
                        simp only [E.den, D.toI, D.toB, D.toL, D.toS, D.len, D.mapL, flatD, dE]
                        simp only [FR.ok.injEq, List.cons.injEq, D.int.injEq, true_and, and_true]
                        (have hnm : ¬(¬ nameS e.st = true ∨ ¬ nameS e.tx = true) := (by simp [*]); unfold validS; rw [if_neg hnm, if_neg (by omega)]; have hk : kindV e = 0 := (by unfold kindV; (repeat' split) <;> (first | rfl | omega | simp_all)); rw [hk, if_neg (by decide)])
                      · simp only [E.den, D.toI, D.toB, D.toL, D.toS, D.len, D.mapL, flatD, dE, str_eq, emp_iff] at h11
                        refine den_ret ?_
                        simp only [E.den, D.toI, D.toB, D.toL, D.toS, D.len, D.mapL, flatD, dE]
                        simp only [FR.ok.injEq, List.cons.injEq, D.int.injEq, true_and, and_true]
                        (have hnm : ¬(¬ nameS e.st = true ∨ ¬ nameS e.tx = true) := (by simp [*]); unfold validS; rw [if_neg hnm, if_neg (by omega)]; have hk : kindV e = 4 := (by unfold kindV; (repeat' split) <;> (first | rfl | omega | simp_all)); rw [hk, if_pos (by decide)])
                    · simp only [E.den, D.toI, D.toB, D.toL, D.toS, D.len, D.mapL, flatD, dE, str_eq, emp_iff] at h10
                      refine den_ite (fun h12 => ?_) (fun h12 => ?_)
                      · simp only [E.den, D.toI, D.toB, D.toL, D.toS, D.len, D.mapL, flatD, dE, str_eq, emp_iff] at h12
                        refine den_cal [I64d (rdgV e.rd e.at')] rfl (rvrd_fn e he) rfl rfl ?_
                        refine den_ret ?_
                        simp only [E.den, D.toI, D.toB, D.toL, D.toS, D.len, D.mapL, flatD, dE]
                        simp only [FR.ok.injEq, List.cons.injEq, D.int.injEq, true_and, and_true]
                        (have hnm : ¬(¬ nameS e.st = true ∨ ¬ nameS e.tx = true) := (by simp [*]); unfold validS; rw [if_neg hnm, if_neg (by omega)]; have hk : kindV e = 0 := (by unfold kindV; (repeat' split) <;> (first | rfl | omega | simp_all)); rw [hk, if_neg (by decide)])
                      · simp only [E.den, D.toI, D.toB, D.toL, D.toS, D.len, D.mapL, flatD, dE, str_eq, emp_iff] at h12
                        refine den_ret ?_
                        simp only [E.den, D.toI, D.toB, D.toL, D.toS, D.len, D.mapL, flatD, dE]
                        simp only [FR.ok.injEq, List.cons.injEq, D.int.injEq, true_and, and_true]
                        (have hnm : ¬(¬ nameS e.st = true ∨ ¬ nameS e.tx = true) := (by simp [*]); unfold validS; rw [if_neg hnm, if_neg (by omega)]; have hk : kindV e = 1 := (by unfold kindV; (repeat' split) <;> (first | rfl | omega | simp_all)); rw [hk, if_pos (by decide)])
                · simp only [E.den, D.toI, D.toB, D.toL, D.toS, D.len, D.mapL, flatD, dE, str_eq, emp_iff] at h8
                  refine den_cal [.bool (decide (1 ≤ e.re ∧ e.re ≤ 6))] rfl (in30_fn e.re 1 6) rfl rfl ?_
                  refine den_ite (fun h13 => ?_) (fun h13 => ?_)
                  · simp only [E.den, D.toI, D.toB, D.toL, D.toS, D.len, D.mapL, flatD, dE, str_eq, emp_iff] at h13
                    refine den_ite (fun h14 => ?_) (fun h14 => ?_)
                    · simp only [E.den, D.toI, D.toB, D.toL, D.toS, D.len, D.mapL, flatD, dE, str_eq, emp_iff] at h14
                      refine den_cal [.bool (nameS e.tk)] rfl (Id.rvalid_fn e.tk he.tk) rfl rfl ?_
                      refine den_ite (fun h15 => ?_) (fun h15 => ?_)
                      · simp only [E.den, D.toI, D.toB, D.toL, D.toS, D.len, D.mapL, flatD, dE, str_eq, emp_iff] at h15
                        refine den_cal [I64d (rdgV e.rd e.at')] rfl (rvrd_fn e he) rfl rfl ?_
                        refine den_ret ?_
                        simp only [E.den, D.toI, D.toB, D.toL, D.toS, D.len, D.mapL, flatD, dE]
                        simp only [FR.ok.injEq, List.cons.injEq, D.int.injEq, true_and, and_true]
                        (have hnm : ¬(¬ nameS e.st = true ∨ ¬ nameS e.tx = true) := (by simp [*]); unfold validS; rw [if_neg hnm, if_neg (by omega)]; have hk : kindV e = 0 := (by unfold kindV; (repeat' split) <;> (first | rfl | omega | simp_all)); rw [hk, if_neg (by decide)])
                      · simp only [E.den, D.toI, D.toB, D.toL, D.toS, D.len, D.mapL, flatD, dE, str_eq, emp_iff] at h15
                        refine den_ret ?_
                        simp only [E.den, D.toI, D.toB, D.toL, D.toS, D.len, D.mapL, flatD, dE]
                        simp only [FR.ok.injEq, List.cons.injEq, D.int.injEq, true_and, and_true]
                        (have hnm : ¬(¬ nameS e.st = true ∨ ¬ nameS e.tx = true) := (by simp [*]); unfold validS; rw [if_neg hnm, if_neg (by omega)]; have hk : kindV e = 4 := (by unfold kindV; (repeat' split) <;> (first | rfl | omega | simp_all)); rw [hk, if_pos (by decide)])
                    · simp only [E.den, D.toI, D.toB, D.toL, D.toS, D.len, D.mapL, flatD, dE, str_eq, emp_iff] at h14
                      refine den_ite (fun h16 => ?_) (fun h16 => ?_)
                      · simp only [E.den, D.toI, D.toB, D.toL, D.toS, D.len, D.mapL, flatD, dE, str_eq, emp_iff] at h16
                        refine den_cal [I64d (rdgV e.rd e.at')] rfl (rvrd_fn e he) rfl rfl ?_
                        refine den_ret ?_
                        simp only [E.den, D.toI, D.toB, D.toL, D.toS, D.len, D.mapL, flatD, dE]
                        simp only [FR.ok.injEq, List.cons.injEq, D.int.injEq, true_and, and_true]
                        (have hnm : ¬(¬ nameS e.st = true ∨ ¬ nameS e.tx = true) := (by simp [*]); unfold validS; rw [if_neg hnm, if_neg (by omega)]; have hk : kindV e = 0 := (by unfold kindV; (repeat' split) <;> (first | rfl | omega | simp_all)); rw [hk, if_neg (by decide)])
                      · simp only [E.den, D.toI, D.toB, D.toL, D.toS, D.len, D.mapL, flatD, dE, str_eq, emp_iff] at h16
                        refine den_ret ?_
                        simp only [E.den, D.toI, D.toB, D.toL, D.toS, D.len, D.mapL, flatD, dE]
                        simp only [FR.ok.injEq, List.cons.injEq, D.int.injEq, true_and, and_true]
                        (have hnm : ¬(¬ nameS e.st = true ∨ ¬ nameS e.tx = true) := (by simp [*]); unfold validS; rw [if_neg hnm, if_neg (by omega)]; have hk : kindV e = 1 := (by unfold kindV; (repeat' split) <;> (first | rfl | omega | simp_all)); rw [hk, if_pos (by decide)])
                  · simp only [E.den, D.toI, D.toB, D.toL, D.toS, D.len, D.mapL, flatD, dE, str_eq, emp_iff] at h13
                    refine den_ret ?_
                    simp only [E.den, D.toI, D.toB, D.toL, D.toS, D.len, D.mapL, flatD, dE]
                    simp only [FR.ok.injEq, List.cons.injEq, D.int.injEq, true_and, and_true]
                    (have hnm : ¬(¬ nameS e.st = true ∨ ¬ nameS e.tx = true) := (by simp [*]); unfold validS; rw [if_neg hnm, if_neg (by omega)]; have hk : kindV e = 1 := (by unfold kindV; (repeat' split) <;> (first | rfl | omega | simp_all)); rw [hk, if_pos (by decide)])
              · simp only [E.den, D.toI, D.toB, D.toL, D.toS, D.len, D.mapL, flatD, dE, str_eq, emp_iff] at h7; rw [Bool.eq_iff_iff, beq_iff_eq, beq_iff_eq] at h7
                refine den_ret ?_
                simp only [E.den, D.toI, D.toB, D.toL, D.toS, D.len, D.mapL, flatD, dE]
                simp only [FR.ok.injEq, List.cons.injEq, D.int.injEq, true_and, and_true]
                (have hnm : ¬(¬ nameS e.st = true ∨ ¬ nameS e.tx = true) := (by simp [*]); unfold validS; rw [if_neg hnm, if_neg (by omega)]; have hk : kindV e = 1 := (by unfold kindV; (repeat' split) <;> (first | rfl | omega | simp_all)); rw [hk, if_pos (by decide)])
            · simp only [E.den, D.toI, D.toB, D.toL, D.toS, D.len, D.mapL, flatD, dE, str_eq, emp_iff] at h6
              refine den_ret ?_
              simp only [E.den, D.toI, D.toB, D.toL, D.toS, D.len, D.mapL, flatD, dE]
              simp only [FR.ok.injEq, List.cons.injEq, D.int.injEq, true_and, and_true]
              (have hnm : ¬(¬ nameS e.st = true ∨ ¬ nameS e.tx = true) := (by simp [*]); unfold validS; rw [if_neg hnm, if_neg (by omega)]; have hk : kindV e = 1 := (by unfold kindV; (repeat' split) <;> (first | rfl | omega | simp_all)); rw [hk, if_pos (by decide)])
          · simp only [E.den, D.toI, D.toB, D.toL, D.toS, D.len, D.mapL, flatD, dE, str_eq, emp_iff] at h5
            refine den_ret ?_
            simp only [E.den, D.toI, D.toB, D.toL, D.toS, D.len, D.mapL, flatD, dE]
            simp only [FR.ok.injEq, List.cons.injEq, D.int.injEq, true_and, and_true]
            have hnm : ¬(¬ nameS e.st = true ∨ ¬ nameS e.tx = true) := (by simp [*])
            unfold validS
            rw [if_neg hnm, if_pos (by omega)]
        · simp only [E.den, D.toI, D.toB, D.toL, D.toS, D.len, D.mapL, flatD, dE, str_eq, emp_iff] at h4
          refine den_ret ?_
          simp only [E.den, D.toI, D.toB, D.toL, D.toS, D.len, D.mapL, flatD, dE]
          simp only [FR.ok.injEq, List.cons.injEq, D.int.injEq, true_and, and_true]
          have hnm : ¬(¬ nameS e.st = true ∨ ¬ nameS e.tx = true) := (by simp [*])
          unfold validS
          rw [if_neg hnm, if_pos (by omega)]
      · simp only [E.den, D.toI, D.toB, D.toL, D.toS, D.len, D.mapL, flatD, dE, str_eq, emp_iff] at h3
        refine den_ret ?_
        simp only [E.den, D.toI, D.toB, D.toL, D.toS, D.len, D.mapL, flatD, dE]
        simp only [FR.ok.injEq, List.cons.injEq, D.int.injEq, true_and, and_true]
        have hnm : ¬(¬ nameS e.st = true ∨ ¬ nameS e.tx = true) := (by simp [*])
        unfold validS
        rw [if_neg hnm, if_pos (by omega)]
    · simp only [E.den, D.toI, D.toB, D.toL, D.toS, D.len, D.mapL, flatD, dE, str_eq, emp_iff] at h2
      refine den_ret ?_
      simp only [E.den, D.toI, D.toB, D.toL, D.toS, D.len, D.mapL, flatD, dE]
      simp only [FR.ok.injEq, List.cons.injEq, D.int.injEq, true_and, and_true]
      unfold validS
      rw [if_pos (by simp [*])]
  · simp only [E.den, D.toI, D.toB, D.toL, D.toS, D.len, D.mapL, flatD, dE, str_eq, emp_iff] at h1
    refine den_ret ?_
    simp only [E.den, D.toI, D.toB, D.toL, D.toS, D.len, D.mapL, flatD, dE]
    simp only [FR.ok.injEq, List.cons.injEq, D.int.injEq, true_and, and_true]
    unfold validS
    rw [if_pos (by simp [*])]

end Go.Proofs.Ytmkkijgnlohieaa.E30
