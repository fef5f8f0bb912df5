/-
  Links and the law: conditions. No conditions stand ahead of what is proved.
-/
import Derived.Test.YtindphofgojfbaaO14
set_option maxRecDepth 100000
set_option linter.unusedSimpArgs false
set_option linter.unusedVariables false
namespace Go.Proofs.Ytindphofgojfbaa.V14
open Go.Proofs.Ytindphofgojfbaa Go.Proofs.Ytindphofgojfbaa.Sy Go.Proofs.Ytindphofgojfbaa.L7 Go.Proofs.Ytindphofgojfbaa.Id Go.Proofs.Ytindphofgojfbaa.R26 Go.Proofs.Ytindphofgojfbaa.V26 Go.Proofs.Ytindphofgojfbaa.N27 Go.Proofs.Ytindphofgojfbaa.C27 Go.Proofs.Ytindphofgojfbaa.O14 Go.RowKit Go.WideShapes Go.ChangeShapes Go.ChangeAt
theorem hP : NoNum Try.prog := by unfold NoNum; kernel_rfl
abbrev shL : List Sh := [(.int .i64), (.int .i64), .bool, (.int .i64), (.lst [(.int .i64)]), (.lst [(.int .i64), (.lst [(.int .u8)])])]
abbrev shE : List Sh := [(.int .i64), (.int .i64), (.int .i64), (.lst shM), (.lst shM), (.int .i64), (.int .i64), (.lst shM)]
def sgs : Nat → Option (List TS × List TS) := fun f => if Nat.beq f 11 then some ([.g [.int .i64, .int .i64, .int .i64, .lst [.int .i64, .int .i64, .int .i64, .int .i64, .int .i64, .int .i64, .int .i64, .int .i64, .str, .str, .str, .bool, .lst [.int .i64, .int .i64], .int .i64, .int .i64, .int .i64, .int .i64, .int .i64, .str, .int .i64, .int .i64, .int .i64, .int .i64, .lst [.int .i64, .int .i64], .lst [.str, .str, .str, .int .i64, .int .i64, .int .i64]], .lst [.int .i64, .int .i64, .int .i64, .int .i64, .int .i64, .int .i64, .int .i64, .int .i64, .str, .str, .str, .bool, .lst [.int .i64, .int .i64], .int .i64, .int .i64, .int .i64, .int .i64, .int .i64, .str, .int .i64, .int .i64, .int .i64, .int .i64, .lst [.int .i64, .int .i64], .lst [.str, .str, .str, .int .i64, .int .i64, .int .i64]], .int .i64, .int .i64, .lst [.int .i64, .int .i64, .int .i64, .int .i64, .int .i64, .int .i64, .int .i64, .int .i64, .str, .str, .str, .bool, .lst [.int .i64, .int .i64], .int .i64, .int .i64, .int .i64, .int .i64, .int .i64, .str, .int .i64, .int .i64, .int .i64, .int .i64, .lst [.int .i64, .int .i64], .lst [.str, .str, .str, .int .i64, .int .i64, .int .i64]]], .g [.int .i64, .int .i64, .int .i64, .int .i64, .int .i64, .int .i64, .int .i64, .int .i64, .str, .str, .str, .bool, .lst [.int .i64, .int .i64], .int .i64, .int .i64, .int .i64, .int .i64, .int .i64, .str, .int .i64, .int .i64, .int .i64, .int .i64, .lst [.int .i64, .int .i64], .lst [.str, .str, .str, .int .i64, .int .i64, .int .i64]]], [.g [.int .i64, .int .i64, .int .i64, .lst [.int .i64, .int .i64, .int .i64, .int .i64, .int .i64, .int .i64, .int .i64, .int .i64, .str, .str, .str, .bool, .lst [.int .i64, .int .i64], .int .i64, .int .i64, .int .i64, .int .i64, .int .i64, .str, .int .i64, .int .i64, .int .i64, .int .i64, .lst [.int .i64, .int .i64], .lst [.str, .str, .str, .int .i64, .int .i64, .int .i64]], .lst [.int .i64, .int .i64, .int .i64, .int .i64, .int .i64, .int .i64, .int .i64, .int .i64, .str, .str, .str, .bool, .lst [.int .i64, .int .i64], .int .i64, .int .i64, .int .i64, .int .i64, .int .i64, .str, .int .i64, .int .i64, .int .i64, .int .i64, .lst [.int .i64, .int .i64], .lst [.str, .str, .str, .int .i64, .int .i64, .int .i64]], .int .i64, .int .i64, .lst [.int .i64, .int .i64, .int .i64, .int .i64, .int .i64, .int .i64, .int .i64, .int .i64, .str, .str, .str, .bool, .lst [.int .i64, .int .i64], .int .i64, .int .i64, .int .i64, .int .i64, .int .i64, .str, .int .i64, .int .i64, .int .i64, .int .i64, .lst [.int .i64, .int .i64], .lst [.str, .str, .str, .int .i64, .int .i64, .int .i64]]], .c (.lst [.int .i64, .int .i64, .int .i64, .int .i64, .int .i64, .int .i64, .int .i64, .int .i64, .str, .str, .str, .bool, .lst [.int .i64, .int .i64], .int .i64, .int .i64, .int .i64, .int .i64, .int .i64, .str, .int .i64, .int .i64, .int .i64, .int .i64, .lst [.int .i64, .int .i64], .lst [.str, .str, .str, .int .i64, .int .i64, .int .i64]]), .c (.lst [.int .i64, .int .i64, .int .i64, .int .i64, .int .i64, .int .i64, .int .i64, .int .i64, .str, .str, .str, .bool, .lst [.int .i64, .int .i64], .int .i64, .int .i64, .int .i64, .int .i64, .int .i64, .str, .int .i64, .int .i64, .int .i64, .int .i64, .lst [.int .i64, .int .i64], .lst [.str, .str, .str, .int .i64, .int .i64, .int .i64]]), .r [.int .i64, .int .i64, .int .i64, .int .i64, .int .i64, .int .i64, .int .i64, .int .i64, .str, .str, .str, .bool, .lst [.int .i64, .int .i64], .int .i64, .int .i64, .int .i64, .int .i64, .int .i64, .str, .int .i64, .int .i64, .int .i64, .int .i64, .lst [.int .i64, .int .i64], .lst [.str, .str, .str, .int .i64, .int .i64, .int .i64]]]) else if Nat.beq f 79 then some ([.r [.int .u8], .c (.int .i64)], [.r [.int .u8]]) else if Nat.beq f 70 then some ([.p [.s (.lst [.int .u8])]], [.c (.int .i64)]) else if Nat.beq f 72 then some ([.p [.s (.lst [.int .u8])]], [.c (.lst [.int .u8])]) else if Nat.beq f 22 then some ([.c (.lst [.int .u8])], [.c (.lst [.int .u8])]) else if Nat.beq f 50 then some ([.i 25 (.int .i64), .c (.lst [.int .u8])], []) else if Nat.beq f 58 then some ([.p [.r [.int .i64, .lst [.int .u8]]], .c (.int .i64), .c (.int .i64)], []) else if Nat.beq f 59 then some ([.p [.r [.int .i64, .lst [.int .u8]]], .c (.int .i64), .c .str], []) else if Nat.beq f 61 then some ([.p [.r [.int .i64, .lst [.int .u8]]], .c (.int .i64), .c (.lst [.lst [.int .u8]])], []) else if Nat.beq f 57 then some ([.r [.int .u8], .c (.int .u8)], [.r [.int .u8]]) else if Nat.beq f 38 then some ([.c (.lst [.int .u8])], [.r [.int .u8], .c (.int .i64)]) else if Nat.beq f 41 then some ([.c (.lst [.int .u8]), .c .bool], [.r [.int .u8], .c (.int .i64)]) else if Nat.beq f 19 then some ([.c (.lst [.int .i64, .int .i64, .int .i64, .int .i64, .int .i64, .int .i64, .int .i64, .int .i64, .str, .str, .str, .bool, .lst [.int .i64, .int .i64], .int .i64, .int .i64, .int .i64, .int .i64, .int .i64, .str, .int .i64, .int .i64, .int .i64, .int .i64, .lst [.int .i64, .int .i64], .lst [.str, .str, .str, .int .i64, .int .i64, .int .i64]])], [.r [.int .i64, .int .i64, .int .i64, .int .i64, .int .i64, .int .i64, .int .i64, .int .i64, .str, .str, .str, .bool, .lst [.int .i64, .int .i64], .int .i64, .int .i64, .int .i64, .int .i64, .int .i64, .str, .int .i64, .int .i64, .int .i64, .int .i64, .lst [.int .i64, .int .i64], .lst [.str, .str, .str, .int .i64, .int .i64, .int .i64]]]) else if Nat.beq f 18 then some ([.g [.int .i64, .int .i64, .int .i64, .lst [.int .i64, .int .i64, .int .i64, .int .i64, .int .i64, .int .i64, .int .i64, .int .i64, .str, .str, .str, .bool, .lst [.int .i64, .int .i64], .int .i64, .int .i64, .int .i64, .int .i64, .int .i64, .str, .int .i64, .int .i64, .int .i64, .int .i64, .lst [.int .i64, .int .i64], .lst [.str, .str, .str, .int .i64, .int .i64, .int .i64]], .lst [.int .i64, .int .i64, .int .i64, .int .i64, .int .i64, .int .i64, .int .i64, .int .i64, .str, .str, .str, .bool, .lst [.int .i64, .int .i64], .int .i64, .int .i64, .int .i64, .int .i64, .int .i64, .str, .int .i64, .int .i64, .int .i64, .int .i64, .lst [.int .i64, .int .i64], .lst [.str, .str, .str, .int .i64, .int .i64, .int .i64]], .int .i64, .int .i64, .lst [.int .i64, .int .i64, .int .i64, .int .i64, .int .i64, .int .i64, .int .i64, .int .i64, .str, .str, .str, .bool, .lst [.int .i64, .int .i64], .int .i64, .int .i64, .int .i64, .int .i64, .int .i64, .str, .int .i64, .int .i64, .int .i64, .int .i64, .lst [.int .i64, .int .i64], .lst [.str, .str, .str, .int .i64, .int .i64, .int .i64]]]], [.h [.s (.int .i64), .s (.int .i64), .s (.int .i64), .r [.int .i64, .int .i64, .int .i64, .int .i64, .int .i64, .int .i64, .int .i64, .int .i64, .str, .str, .str, .bool, .lst [.int .i64, .int .i64], .int .i64, .int .i64, .int .i64, .int .i64, .int .i64, .str, .int .i64, .int .i64, .int .i64, .int .i64, .lst [.int .i64, .int .i64], .lst [.str, .str, .str, .int .i64, .int .i64, .int .i64]], .r [.int .i64, .int .i64, .int .i64, .int .i64, .int .i64, .int .i64, .int .i64, .int .i64, .str, .str, .str, .bool, .lst [.int .i64, .int .i64], .int .i64, .int .i64, .int .i64, .int .i64, .int .i64, .str, .int .i64, .int .i64, .int .i64, .int .i64, .lst [.int .i64, .int .i64], .lst [.str, .str, .str, .int .i64, .int .i64, .int .i64]], .s (.int .i64), .s (.int .i64), .r [.int .i64, .int .i64, .int .i64, .int .i64, .int .i64, .int .i64, .int .i64, .int .i64, .str, .str, .str, .bool, .lst [.int .i64, .int .i64], .int .i64, .int .i64, .int .i64, .int .i64, .int .i64, .str, .int .i64, .int .i64, .int .i64, .int .i64, .lst [.int .i64, .int .i64], .lst [.str, .str, .str, .int .i64, .int .i64, .int .i64]]]]) else if Nat.beq f 28 then some ([.c (.lst [.int .i64])], [.r [.int .i64]]) else if Nat.beq f 29 then some ([.c (.lst [.int .i64, .lst [.int .u8]])], [.r [.int .i64, .lst [.int .u8]]]) else if Nat.beq f 16 then some ([.g [.int .i64, .int .i64, .bool, .int .i64, .lst [.int .i64], .lst [.int .i64, .lst [.int .u8]]]], [.h [.s (.int .i64), .s (.int .i64), .s .bool, .s (.int .i64), .r [.int .i64], .r [.int .i64, .lst [.int .u8]]]]) else none
def vcclint : VC := (.nilq (.v 0)
 (.ret [.nil])
 (.ev [(.ob (.cmp .leq (.len (.app .nil (.v 0))) (.ki .i64 4294967296)))]
  (.ret [(.app .nil (.v 0))])))
theorem clint_ent : EntOK Try.prog [] ⟨28, [(.c (.lst [(.int .i64)]))], [(.r [(.int .i64)])], vcclint⟩ :=
  ent_of_gen hP Try.func28 rfl (by decide) (sg := sgs) (by kernel_rfl)
def vcclpkt : VC := (.nilq (.v 0)
 (.ret [.nil])
 (.ev [(.ob (.cmp .leq (.len (.app .nil (.v 0))) (.ki .i64 4294967296)))]
  (.ret [(.app .nil (.v 0))])))
theorem clpkt_ent : EntOK Try.prog [] ⟨29, [(.c (.lst [(.int .i64), (.lst [(.int .u8)])]))], [(.r [(.int .i64), (.lst [(.int .u8)])])], vcclpkt⟩ :=
  ent_of_gen hP Try.func29 rfl (by decide) (sg := sgs) (by kernel_rfl)
def vcclbyt : VC := (.nilq (.v 0)
 (.ret [.nil])
 (.ev [(.ob (.cmp .leq (.len (.app .nil (.v 0))) (.ki .i64 4294967296)))]
  (.ret [(.app .nil (.v 0))])))
theorem clbyt_ent : EntOK Try.prog [] ⟨22, [(.c (.lst [(.int .u8)]))], [(.c (.lst [(.int .u8)]))], vcclbyt⟩ :=
  ent_of_gen hP Try.func22 rfl (by decide) (sg := sgs) (by kernel_rfl)
def vclcop : VC := (.cal 28 [(.c (.lst [(.int .i64)]))] [(.v 4)] [(.r [(.int .i64)])] 6
 (.cal 29 [(.c (.lst [(.int .i64), (.lst [(.int .u8)])]))] [(.v 5)] [(.r [(.int .i64), (.lst [(.int .u8)])])] 7
  (.loop [(.lst [(.int .i64), (.lst [(.int .u8)])]), (.int .i64)] [(.v 7), (.ki .i64 0)]
   (.ite (.cmp .lss (.v 9) (.len (.v 7)))
    (.ev [(.ob (.cmp .geq (.v 9) (.ki .i64 0))), (.ob (.cmp .lss (.v 9) (.len (.v 8))))]
     (.ev [(.ob (.cmp .lss (.v 9) (.len (.v 8))))]
      (.cal 22 [(.c (.lst [(.int .u8)]))] [(.cell (.get (.v 8) (.v 9)) 1)] [(.c (.lst [(.int .u8)]))] 10
       (.ev [(.ob (.cmp .geq (.v 9) (.ki .i64 0))), (.ob (.cmp .lss (.v 9) (.len (.v 8)))), (.ob (.cmp .lss (.v 9) (.len (.v 8))))]
        (.back 0 [(.setc (.v 8) (.v 9) 1 (.v 10)), (.ar .add .i64 (.v 9) (.ki .i64 1))])))))
    (.ret [(.rc (.cons (.v 0) (.cons (.v 1) (.cons (.v 2) (.cons (.v 3) (.cons (.v 6) (.cons (.v 8) .nil)))))))])))))
def hdlcop : List HdL := [{ kind := true, id := 4, nv := 8, tmps := [(.v (.g [(.d (.int .i64) (.v 0)), (.d (.int .i64) (.v 1)), (.d .bool (.v 2)), (.d (.int .i64) (.v 3)), (.d (.lst [(.int .i64)]) (.v 4)), (.d (.lst [(.int .i64), (.lst [(.int .u8)])]) (.v 5))])), (.v (.c (.ptr 0 0))), (.v (.c (.ptr 1 0))), (.v (.c .any)), (.v (.c .any)), (.v (.c (.ptr 0 4))), (.v (.c (.d (.lst [(.int .i64)]) (.v 4)))), (.v (.c (.row 2 [(.int .i64)] (.len (.v 6))))), (.v (.c (.ptr 0 4))), (.v (.c (.ptr 0 5))), (.v (.c (.d (.lst [(.int .i64), (.lst [(.int .u8)])]) (.v 5)))), (.v (.c (.row 3 [(.int .i64), (.lst [(.int .u8)])] (.len (.v 8))))), (.v (.c (.ptr 0 5))), (.v (.c (.ptr 0 5))), (.v (.c (.row 3 [(.int .i64), (.lst [(.int .u8)])] (.len (.v 8))))), (.v (.c (.d (.int .i64) (.len (.v 7))))), (.v (.c (.d (.int .i64) (.v 9)))) ] ++ an 14, blks := [(.cells [(.d (.int .i64) (.v 0)), (.d (.int .i64) (.v 1)), (.d .bool (.v 2)), (.d (.int .i64) (.v 3)), (.row 2 [(.int .i64)] (.len (.v 6))), (.row 3 [(.int .i64), (.lst [(.int .u8)])] (.len (.v 8)))]), (.cells [(.d (.int .i64) (.ki .i64 0)), (.d (.int .i64) (.ki .i64 0)), (.d .bool (.kb false)), (.d (.int .i64) (.ki .i64 0)), (.nilS [(.int .i64)]), (.nilS [(.int .i64), (.lst [(.int .u8)])])]), (.row [(.int .i64)] (.v 6) false), (.row [(.int .i64), (.lst [(.int .u8)])] (.v 8) false)], shs := [(.lst [(.int .i64), (.lst [(.int .u8)])]), (.int .i64)], rs := [], bs := [], fz := [] }]
theorem lcop_ent : EntOK Try.prog [] ⟨16, [(.g shL)], [(.h [(.s (.int .i64)), (.s (.int .i64)), (.s .bool), (.s (.int .i64)), (.r [(.int .i64)]), (.r [(.int .i64), (.lst [(.int .u8)])])])], vclcop⟩ :=
  ent_of_genH hP Try.func16 rfl (by decide) (jn := []) (hd := hdlcop) (sg := sgs) (by kernel_rfl)
def vclval : VC := (.ite (.cmp .lss (.v 0) (.ki .i64 0))
 (.ret [(.ki .i64 2)])
 (.ite (.cmp .gtr (.v 0) (.ki .i64 268435456))
  (.ret [(.ki .i64 2)])
  (.ite (.cmp .lss (.v 1) (.ki .i64 1))
   (.ret [(.ki .i64 2)])
   (.ite (.cmp .gtr (.v 1) (.ki .i64 60))
    (.ret [(.ki .i64 2)])
    (.ite (.cmp .lss (.v 3) (.ki .i64 0))
     (.ret [(.ki .i64 2)])
     (.ite (.cmp .gtr (.v 3) (.ki .i64 2147483647))
      (.ret [(.ki .i64 2)])
      (.ite (.cmp .gtr (.len (.v 4)) (.ki .i64 256))
       (.ret [(.ki .i64 3)])
       (.loop [(.int .i64), (.int .i64)] [(.ki .i64 0), (.ki .i64 0)]
        (.ite (.cmp .lss (.v 7) (.len (.v 4)))
         (.ev [(.ob (.cmp .geq (.v 7) (.ki .i64 0))), (.ob (.cmp .lss (.v 7) (.len (.v 4))))]
          (.ite (.cmp .lss (.get (.v 4) (.v 7)) (.ki .i64 0))
           (.ret [(.ki .i64 2)])
           (.ite (.cmp .gtr (.v 7) (.ki .i64 0))
            (.ev [(.ob (.cmp .geq (.ar .sub .i64 (.v 7) (.ki .i64 1)) (.ki .i64 0))), (.ob (.cmp .lss (.ar .sub .i64 (.v 7) (.ki .i64 1)) (.len (.v 4))))]
             (.ite (.cmp .leq (.get (.v 4) (.v 7)) (.get (.v 4) (.ar .sub .i64 (.v 7) (.ki .i64 1))))
              (.ret [(.ki .i64 1)])
              (.back 0 [(.v 6), (.ar .add .i64 (.v 7) (.ki .i64 1))])))
            (.back 0 [(.v 6), (.ar .add .i64 (.v 7) (.ki .i64 1))]))))
         (.ite (.cmp .gtr (.len (.v 5)) (.ki .i64 256))
          (.ret [(.ki .i64 3)])
          (.loop [(.int .i64), (.int .i64)] [(.v 6), (.ki .i64 0)]
           (.ite (.cmp .lss (.v 9) (.len (.v 5)))
            (.ev [(.ob (.cmp .geq (.v 9) (.ki .i64 0))), (.ob (.cmp .lss (.v 9) (.len (.v 5))))]
             (.ite (.cmp .leq (.cell (.get (.v 5) (.v 9)) 0) (.v 0))
              (.ret [(.ki .i64 2)])
              (.ite (.cmp .gtr (.cell (.get (.v 5) (.v 9)) 0) (.ar .add .i64 (.v 0) (.v 1)))
               (.ret [(.ki .i64 2)])
               (.ite (.cmp .gtr (.v 9) (.ki .i64 0))
                (.ev [(.ob (.cmp .geq (.ar .sub .i64 (.v 9) (.ki .i64 1)) (.ki .i64 0))), (.ob (.cmp .lss (.ar .sub .i64 (.v 9) (.ki .i64 1)) (.len (.v 5))))]
                 (.ite (.cmp .lss (.cell (.get (.v 5) (.v 9)) 0) (.cell (.get (.v 5) (.ar .sub .i64 (.v 9) (.ki .i64 1))) 0))
                  (.ret [(.ki .i64 1)])
                  (.ite (.cmp .gtr (.len (.cell (.get (.v 5) (.v 9)) 1)) (.ki .i64 8198))
                   (.ret [(.ki .i64 3)])
                   (.back 1 [(.v 8), (.ar .add .i64 (.v 9) (.ki .i64 1))]))))
                (.ite (.cmp .gtr (.len (.cell (.get (.v 5) (.v 9)) 1)) (.ki .i64 8198))
                 (.ret [(.ki .i64 3)])
                 (.back 1 [(.v 8), (.ar .add .i64 (.v 9) (.ki .i64 1))]))))))
            (.ret [(.ki .i64 0)])))))))))))))
def hdlval : List HdL := [{ kind := true, id := 8, nv := 6, tmps := [(.v (.g [(.d (.int .i64) (.v 0)), (.d (.int .i64) (.v 1)), (.d .bool (.v 2)), (.d (.int .i64) (.v 3)), (.d (.lst [(.int .i64)]) (.v 4)), (.d (.lst [(.int .i64), (.lst [(.int .u8)])]) (.v 5))])), (.v (.c (.ptr 0 0))), (.v (.c (.d (.int .i64) (.v 6)))) ] ++ an 4 ++ [(.v (.c (.ptr 0 0))), (.v (.c (.d (.int .i64) (.v 0)))), (.v (.c (.d .bool (.cmp .lss (.v 0) (.ki .i64 0))))), (.v (.c (.d .bool (.cmp .lss (.v 0) (.ki .i64 0))))), (.v (.c (.ptr 0 0))), (.v (.c (.d (.int .i64) (.v 0)))), (.v (.c (.d .bool (.cmp .gtr (.v 0) (.ki .i64 268435456))))), (.v (.c (.d .bool (.cmp .gtr (.v 0) (.ki .i64 268435456))))), (.v (.c (.d .bool (.cmp .gtr (.v 0) (.ki .i64 268435456))))), (.v (.c (.ptr 0 1))), (.v (.c (.d (.int .i64) (.v 1)))), (.v (.c (.d .bool (.cmp .lss (.v 1) (.ki .i64 1))))), (.v (.c (.d .bool (.cmp .lss (.v 1) (.ki .i64 1))))), (.v (.c (.d .bool (.cmp .lss (.v 1) (.ki .i64 1))))), (.v (.c (.ptr 0 1))), (.v (.c (.d (.int .i64) (.v 1)))), (.v (.c (.d .bool (.cmp .gtr (.v 1) (.ki .i64 60))))), (.v (.c (.d .bool (.cmp .gtr (.v 1) (.ki .i64 60))))), (.v (.c (.ptr 0 3))), (.v (.c (.d (.int .i64) (.v 3)))), (.v (.c (.d .bool (.cmp .lss (.v 3) (.ki .i64 0))))), (.v (.c (.d .bool (.cmp .lss (.v 3) (.ki .i64 0))))), (.v (.c (.ptr 0 3))), (.v (.c (.d (.int .i64) (.v 3)))), (.v (.c (.d .bool (.cmp .gtr (.v 3) (.ki .i64 2147483647))))), (.v (.c (.d .bool (.cmp .gtr (.v 3) (.ki .i64 2147483647))))), (.v (.c (.ptr 0 4))), (.v (.c (.d (.lst [(.int .i64)]) (.v 4)))), (.v (.c (.d (.int .i64) (.len (.v 4))))), (.v (.c (.d .bool (.cmp .gtr (.len (.v 4)) (.ki .i64 256))))), (.v (.c (.ptr 0 4))), (.v (.c (.d (.lst [(.int .i64)]) (.v 4)))), (.v (.c (.d (.int .i64) (.len (.v 4))))), (.v (.c (.d (.int .i64) (.v 7)))) ] ++ an 65, blks := [(.cells [(.d (.int .i64) (.v 0)), (.d (.int .i64) (.v 1)), (.d .bool (.v 2)), (.d (.int .i64) (.v 3)), (.d (.lst [(.int .i64)]) (.v 4)), (.d (.lst [(.int .i64), (.lst [(.int .u8)])]) (.v 5))])], shs := [(.int .i64), (.int .i64)], rs := [], bs := [], fz := [] },
{ kind := true, id := 18, nv := 8, tmps := [(.v (.g [(.d (.int .i64) (.v 0)), (.d (.int .i64) (.v 1)), (.d .bool (.v 2)), (.d (.int .i64) (.v 3)), (.d (.lst [(.int .i64)]) (.v 4)), (.d (.lst [(.int .i64), (.lst [(.int .u8)])]) (.v 5))])), (.v (.c (.ptr 0 0))), (.v (.c (.d (.int .i64) (.v 8)))) ] ++ an 4 ++ [(.v (.c (.ptr 0 0))), (.v (.c (.d (.int .i64) (.v 0)))), (.v (.c (.d .bool (.cmp .lss (.v 0) (.ki .i64 0))))), (.v (.c (.d .bool (.cmp .lss (.v 0) (.ki .i64 0))))), (.v (.c (.ptr 0 0))), (.v (.c (.d (.int .i64) (.v 0)))), (.v (.c (.d .bool (.cmp .gtr (.v 0) (.ki .i64 268435456))))), (.v (.c (.d .bool (.cmp .gtr (.v 0) (.ki .i64 268435456))))), (.v (.c (.d .bool (.cmp .gtr (.v 0) (.ki .i64 268435456))))), (.v (.c (.ptr 0 1))), (.v (.c (.d (.int .i64) (.v 1)))), (.v (.c (.d .bool (.cmp .lss (.v 1) (.ki .i64 1))))), (.v (.c (.d .bool (.cmp .lss (.v 1) (.ki .i64 1))))), (.v (.c (.d .bool (.cmp .lss (.v 1) (.ki .i64 1))))), (.v (.c (.ptr 0 1))), (.v (.c (.d (.int .i64) (.v 1)))), (.v (.c (.d .bool (.cmp .gtr (.v 1) (.ki .i64 60))))), (.v (.c (.d .bool (.cmp .gtr (.v 1) (.ki .i64 60))))), (.v (.c (.ptr 0 3))), (.v (.c (.d (.int .i64) (.v 3)))), (.v (.c (.d .bool (.cmp .lss (.v 3) (.ki .i64 0))))), (.v (.c (.d .bool (.cmp .lss (.v 3) (.ki .i64 0))))), (.v (.c (.ptr 0 3))), (.v (.c (.d (.int .i64) (.v 3)))), (.v (.c (.d .bool (.cmp .gtr (.v 3) (.ki .i64 2147483647))))), (.v (.c (.d .bool (.cmp .gtr (.v 3) (.ki .i64 2147483647))))), (.v (.c (.ptr 0 4))), (.v (.c (.d (.lst [(.int .i64)]) (.v 4)))), (.v (.c (.d (.int .i64) (.len (.v 4))))), (.v (.c (.d .bool (.cmp .gtr (.len (.v 4)) (.ki .i64 256))))), (.v (.c (.ptr 0 4))), (.v (.c (.d (.lst [(.int .i64)]) (.v 4)))), (.v (.c (.d (.int .i64) (.len (.v 4))))), (.v (.c (.d (.int .i64) (.v 7)))), (.v (.c (.d .bool (.cmp .lss (.v 7) (.len (.v 4)))))) ] ++ an 18 ++ [(.v (.c (.ptr 0 5))), (.v (.c (.d (.lst [(.int .i64), (.lst [(.int .u8)])]) (.v 5)))), (.v (.c (.d (.int .i64) (.len (.v 5))))), (.v (.c (.d .bool (.cmp .gtr (.len (.v 5)) (.ki .i64 256))))), (.v (.c (.ptr 0 5))), (.v (.c (.d (.lst [(.int .i64), (.lst [(.int .u8)])]) (.v 5)))), (.v (.c (.d (.int .i64) (.len (.v 5))))), (.v (.c (.d (.int .i64) (.v 9)))) ] ++ an 38, blks := [(.cells [(.d (.int .i64) (.v 0)), (.d (.int .i64) (.v 1)), (.d .bool (.v 2)), (.d (.int .i64) (.v 3)), (.d (.lst [(.int .i64)]) (.v 4)), (.d (.lst [(.int .i64), (.lst [(.int .u8)])]) (.v 5))])], shs := [(.int .i64), (.int .i64)], rs := [], bs := [], fz := [] }]
theorem lval_ent : EntOK Try.prog [] ⟨15, [(.g shL)], [(.c (.int .i64))], vclval⟩ :=
  ent_of_genH hP Try.func15 rfl (by decide) (jn := []) (hd := hdlval) (sg := sgs) (by kernel_rfl)
def vclnew : VC := (.cal 15 [(.g shL)] [(.rc (.cons (.ki .i64 0) (.cons (.v 0) (.cons (.kb false) (.cons (.ki .i64 0) (.cons (.v 1) (.cons .nil .nil)))))))] [(.c (.int .i64))] 2
 (.ite (.cmp .neq (.v 2) (.ki .i64 0))
  (.ret [(.rc (.cons (.ki .i64 0) (.cons (.ki .i64 0) (.cons (.kb false) (.cons (.ki .i64 0) (.cons .nil (.cons .nil .nil))))))), (.v 2)])
  (.cal 16 [(.g shL)] [(.rc (.cons (.ki .i64 0) (.cons (.v 0) (.cons (.kb false) (.cons (.ki .i64 0) (.cons (.v 1) (.cons .nil .nil)))))))] [(.h [(.s (.int .i64)), (.s (.int .i64)), (.s .bool), (.s (.int .i64)), (.r [(.int .i64)]), (.r [(.int .i64), (.lst [(.int .u8)])])])] 3
   (.ret [(.rc (.cons (.v 3) (.cons (.v 4) (.cons (.v 5) (.cons (.v 6) (.cons (.v 7) (.cons (.v 8) .nil))))))), (.ki .i64 0)]))))
theorem lnew_ent : EntOK Try.prog [] ⟨5, [(.c (.int .i64)), (.c (.lst [(.int .i64)]))], [(.g shL), (.c (.int .i64))], vclnew⟩ :=
  ent_of_gen hP Try.func5 rfl (by decide) (sg := sgs) (by kernel_rfl)
def vcltick : VC := (.ite (.cmp .geq (.v 0) (.ki .i64 268435456))
 (.ret [(.rc (.cons (.v 0) (.cons (.v 1) (.cons (.v 2) (.cons (.v 3) (.cons (.v 4) (.cons (.v 5) .nil))))))), .nil])
 (.loop [(.int .i64), (.int .i64), .bool, (.int .i64), (.lst [(.int .i64)]), (.lst [(.lst [(.int .u8)])]), (.lst [(.int .i64), (.lst [(.int .u8)])]), (.int .i64)] [(.ar .add .i64 (.v 0) (.ki .i64 1)), (.v 1), (.v 2), (.v 3), (.v 4), .nil, .nil, (.ki .i64 0)]
  (.ite (.cmp .lss (.v 13) (.len (.v 5)))
   (.ev [(.ob (.cmp .geq (.v 13) (.ki .i64 0))), (.ob (.cmp .lss (.v 13) (.len (.v 5))))]
    (.ite (.cmp .gtr (.cell (.get (.v 5) (.v 13)) 0) (.v 6))
     (.ev [(.ob (.cmp .leq (.len (.app (.v 12) (.cons (.rc (.cons (.cell (.get (.v 5) (.v 13)) 0) (.cons (.cell (.get (.v 5) (.v 13)) 1) .nil))) .nil))) (.ki .i64 4294967296)))]
      (.back 0 [(.v 6), (.v 7), (.v 8), (.v 9), (.v 10), (.v 11), (.app (.v 12) (.cons (.rc (.cons (.cell (.get (.v 5) (.v 13)) 0) (.cons (.cell (.get (.v 5) (.v 13)) 1) .nil))) .nil)), (.ar .add .i64 (.v 13) (.ki .i64 1))]))
     (.ite (.v 2)
      (.back 0 [(.v 6), (.v 7), (.v 8), (.v 9), (.v 10), (.v 11), (.v 12), (.ar .add .i64 (.v 13) (.ki .i64 1))])
      (.cal 22 [(.c (.lst [(.int .u8)]))] [(.cell (.get (.v 5) (.v 13)) 1)] [(.c (.lst [(.int .u8)]))] 14
       (.ev [(.ob (.cmp .leq (.len (.app (.v 11) (.cons (.v 14) .nil))) (.ki .i64 4294967296)))]
        (.back 0 [(.v 6), (.v 7), (.v 8), (.v 9), (.v 10), (.app (.v 11) (.cons (.v 14) .nil)), (.v 12), (.ar .add .i64 (.v 13) (.ki .i64 1))]))))))
   (.cal 16 [(.g shL)] [(.rc (.cons (.v 6) (.cons (.v 7) (.cons (.v 8) (.cons (.v 9) (.cons (.v 10) (.cons (.v 12) .nil)))))))] [(.h [(.s (.int .i64)), (.s (.int .i64)), (.s .bool), (.s (.int .i64)), (.r [(.int .i64)]), (.r [(.int .i64), (.lst [(.int .u8)])])])] 14
    (.ret [(.rc (.cons (.v 14) (.cons (.v 15) (.cons (.v 16) (.cons (.v 17) (.cons (.v 18) (.cons (.v 19) .nil))))))), (.v 11)])))))
def hdltick : List HdL := [{ kind := true, id := 8, nv := 6, tmps := [(.v (.g [(.d (.int .i64) (.v 0)), (.d (.int .i64) (.v 1)), (.d .bool (.v 2)), (.d (.int .i64) (.v 3)), (.d (.lst [(.int .i64)]) (.v 4)), (.d (.lst [(.int .i64), (.lst [(.int .u8)])]) (.v 5))])), (.v (.c (.ptr 0 0))), (.v (.c (.ptr 1 0))), (.v (.c (.nilS [(.lst [(.int .u8)])]))), (.v (.c (.ptr 2 0))), (.v (.c (.row 3 [(.lst [(.int .u8)])] (.len (.v 11))))), (.v (.c .any)), (.v (.c .any)), (.v (.c (.ptr 0 0))), (.v (.c (.d (.int .i64) (.v 0)))), (.v (.c (.d .bool (.cmp .geq (.v 0) (.ki .i64 268435456))))), (.v (.c .any)), (.v (.g [(.d (.int .i64) (.v 0)), (.d (.int .i64) (.v 1)), (.d .bool (.v 2)), (.d (.int .i64) (.v 3)), (.d (.lst [(.int .i64)]) (.v 4)), (.d (.lst [(.int .i64), (.lst [(.int .u8)])]) (.v 5))])), (.v (.c (.ptr 2 0))), (.v (.c (.d (.int .i64) (.v 0)))), (.v (.c (.d (.int .i64) (.ar .add .i64 (.v 0) (.ki .i64 1))))), (.v (.c (.ptr 2 0))), (.v (.c (.ptr 2 5))), (.v (.c (.ptr 0 5))), (.v (.c (.d (.lst [(.int .i64), (.lst [(.int .u8)])]) (.v 5)))), (.v (.c (.d (.int .i64) (.len (.v 5))))), (.v (.c (.d (.int .i64) (.v 13)))) ] ++ an 27, blks := [(.cells [(.d (.int .i64) (.v 0)), (.d (.int .i64) (.v 1)), (.d .bool (.v 2)), (.d (.int .i64) (.v 3)), (.d (.lst [(.int .i64)]) (.v 4)), (.d (.lst [(.int .i64), (.lst [(.int .u8)])]) (.v 5))]), (.cells [(.d (.int .i64) (.ki .i64 0)), (.d (.int .i64) (.ki .i64 0)), (.d .bool (.kb false)), (.d (.int .i64) (.ki .i64 0)), (.nilS [(.int .i64)]), (.nilS [(.int .i64), (.lst [(.int .u8)])])]), (.cells [(.d (.int .i64) (.v 6)), (.d (.int .i64) (.v 7)), (.d .bool (.v 8)), (.d (.int .i64) (.v 9)), (.d (.lst [(.int .i64)]) (.v 10)), (.row 4 [(.int .i64), (.lst [(.int .u8)])] (.len (.v 12)))]), (.row [(.lst [(.int .u8)])] (.v 11) false), (.row [(.int .i64), (.lst [(.int .u8)])] (.v 12) false)], shs := [(.int .i64), (.int .i64), .bool, (.int .i64), (.lst [(.int .i64)]), (.lst [(.lst [(.int .u8)])]), (.lst [(.int .i64), (.lst [(.int .u8)])]), (.int .i64)], rs := [5], bs := [2], fz := [] }]
theorem ltick_ent : EntOK Try.prog [] ⟨9, [(.g shL)], [(.g shL), (.c (.lst [(.lst [(.int .u8)])]))], vcltick⟩ :=
  ent_of_genH hP Try.func9 rfl (by decide) (jn := []) (hd := hdltick) (sg := sgs) (by kernel_rfl)
def vcrecv : VC := (.cal 26 [(.g shM)] [(.rc (.cons (.v 8) (.cons (.v 9) (.cons (.v 10) (.cons (.v 11) (.cons (.v 12) (.cons (.v 13) (.cons (.v 14) (.cons (.v 15) (.cons (.v 16) (.cons (.v 17) (.cons (.v 18) (.cons (.v 19) (.cons (.v 20) (.cons (.v 21) (.cons (.v 22) (.cons (.v 23) (.cons (.v 24) (.cons (.v 25) (.cons (.v 26) (.cons (.v 27) (.cons (.v 28) (.cons (.v 29) (.cons (.v 30) (.cons (.v 31) (.cons (.v 32) .nil))))))))))))))))))))))))))] [(.c .bool)] 33
 (.ite (.v 33)
  (.ite (.cmp .eql (.len (.v 4)) (.ki .i64 0))
   (.ret [(.rc (.cons (.v 0) (.cons (.v 1) (.cons (.v 2) (.cons (.v 3) (.cons (.v 4) (.cons (.v 5) (.cons (.v 6) (.cons (.v 7) .nil))))))))), .nil, .nil, .nil])
   (.ev [(.ob (.cmp .lss (.ki .i64 0) (.len (.v 4))))]
    (.ite (.cmp .neq (.v 9) (.cell (.get (.v 4) (.ki .i64 0)) 1))
     (.ret [(.rc (.cons (.v 0) (.cons (.v 1) (.cons (.v 2) (.cons (.v 3) (.cons (.v 4) (.cons (.v 5) (.cons (.v 6) (.cons (.v 7) .nil))))))))), .nil, .nil, .nil])
     (.ev [(.ob (.cmp .lss (.ki .i64 0) (.len (.v 4))))]
      (.ite (.cmp .neq (.v 10) (.cell (.get (.v 4) (.ki .i64 0)) 2))
       (.ret [(.rc (.cons (.v 0) (.cons (.v 1) (.cons (.v 2) (.cons (.v 3) (.cons (.v 4) (.cons (.v 5) (.cons (.v 6) (.cons (.v 7) .nil))))))))), .nil, .nil, .nil])
       (.cal 18 [(.g shE)] [(.rc (.cons (.v 0) (.cons (.v 1) (.cons (.v 2) (.cons (.v 3) (.cons (.v 4) (.cons (.v 5) (.cons (.v 6) (.cons (.v 7) .nil)))))))))] [(.h [(.s (.int .i64)), (.s (.int .i64)), (.s (.int .i64)), (.r shM), (.r shM), (.s (.int .i64)), (.s (.int .i64)), (.r shM)])] 34
        (.ev [(.ob (.cmp .lss (.ki .i64 0) (.len (.v 4))))]
         (.cal 19 [(.c (.lst shM))] [(.cons (cpM (.get (.v 4) (.ki .i64 0))) (.cons (.rc (.cons (.v 8) (.cons (.v 9) (.cons (.v 10) (.cons (.v 11) (.cons (.v 12) (.cons (.v 13) (.cons (.v 14) (.cons (.v 15) (.cons (.v 16) (.cons (.v 17) (.cons (.v 18) (.cons (.v 19) (.cons (.v 20) (.cons (.v 21) (.cons (.v 22) (.cons (.v 23) (.cons (.v 24) (.cons (.v 25) (.cons (.v 26) (.cons (.v 27) (.cons (.v 28) (.cons (.v 29) (.cons (.v 30) (.cons (.v 31) (.cons (.v 32) .nil)))))))))))))))))))))))))) .nil))] [(.r shM)] 42
          (.ret [(.rc (.cons (.v 34) (.cons (.v 35) (.cons (.v 36) (.cons (.v 37) (.cons .nil (.cons (.ki .i64 0) (.cons (.ki .i64 0) (.cons (.v 41) .nil))))))))), (.v 42), .nil, .nil])))))))))
  (.ite (.cmp .neq (.v 8) (.ki .i64 1))
   (.ret [(.rc (.cons (.v 0) (.cons (.v 1) (.cons (.v 2) (.cons (.v 3) (.cons (.v 4) (.cons (.v 5) (.cons (.v 6) (.cons (.v 7) .nil))))))))), .nil, .nil, .nil])
   (.loop [(.lst shM), (.lst shM), (.lst shM), (.int .i64)] [.nil, .nil, .nil, (.ki .i64 0)]
    (.ite (.cmp .lss (.v 37) (.len (.v 7)))
     (.ev [(.ob (.cmp .geq (.v 37) (.ki .i64 0))), (.ob (.cmp .lss (.v 37) (.len (.v 7))))]
      (.ite (.cmp .eql (.cell (.get (.v 7) (.v 37)) 1) (.v 9))
       (.cal 19 [(.c (.lst shM))] [(.cons (cpM (.get (.v 7) (.v 37))) .nil)] [(.r shM)] 38
        (.ret [(.rc (.cons (.v 0) (.cons (.v 1) (.cons (.v 2) (.cons (.v 3) (.cons (.v 4) (.cons (.v 5) (.cons (.v 6) (.cons (.v 7) .nil))))))))), .nil, .nil, (.v 38)]))
       (.back 0 [(.v 34), (.v 35), (.v 36), (.ar .add .i64 (.v 37) (.ki .i64 1))])))
     (.cal 27 [(.g shM), (.c (.lst shM))] [(.rc (.cons (.v 8) (.cons (.v 9) (.cons (.v 10) (.cons (.v 11) (.cons (.v 12) (.cons (.v 13) (.cons (.v 14) (.cons (.v 15) (.cons (.v 16) (.cons (.v 17) (.cons (.v 18) (.cons (.v 19) (.cons (.v 20) (.cons (.v 21) (.cons (.v 22) (.cons (.v 23) (.cons (.v 24) (.cons (.v 25) (.cons (.v 26) (.cons (.v 27) (.cons (.v 28) (.cons (.v 29) (.cons (.v 30) (.cons (.v 31) (.cons (.v 32) .nil)))))))))))))))))))))))))), (.v 7)] [(.c .bool)] 38
      (.ite (.v 38)
       (.cal 19 [(.c (.lst shM))] [(.cons (.rc (.cons (.v 8) (.cons (.v 9) (.cons (.v 10) (.cons (.v 11) (.cons (.v 12) (.cons (.v 13) (.cons (.v 14) (.cons (.v 15) (.cons (.v 16) (.cons (.v 17) (.cons (.v 18) (.cons (.v 19) (.cons (.v 20) (.cons (.v 21) (.cons (.v 22) (.cons (.v 23) (.cons (.v 24) (.cons (.v 25) (.cons (.v 26) (.cons (.v 27) (.cons (.v 28) (.cons (.v 29) (.cons (.v 30) (.cons (.v 31) (.cons (.v 32) .nil)))))))))))))))))))))))))) .nil)] [(.r shM)] 39
        (.ret [(.rc (.cons (.v 0) (.cons (.v 1) (.cons (.v 2) (.cons (.v 3) (.cons (.v 4) (.cons (.v 5) (.cons (.v 6) (.cons (.v 7) .nil))))))))), .nil, (.v 39), .nil]))
       (.ret [(.rc (.cons (.v 0) (.cons (.v 1) (.cons (.v 2) (.cons (.v 3) (.cons (.v 4) (.cons (.v 5) (.cons (.v 6) (.cons (.v 7) .nil))))))))), .nil, .nil, .nil]))))))))
def hdrecv : List HdL := [{ kind := true, id := 10, nv := 34, tmps := [(.v (.g [(.d (.int .i64) (.v 0)), (.d (.int .i64) (.v 1)), (.d (.int .i64) (.v 2)), (.d (.lst shM) (.v 3)), (.d (.lst shM) (.v 4)), (.d (.int .i64) (.v 5)), (.d (.int .i64) (.v 6)), (.d (.lst shM) (.v 7))])), (.v (.g [(.d (.int .i64) (.v 8)), (.d (.int .i64) (.v 9)), (.d (.int .i64) (.v 10)), (.d (.int .i64) (.v 11)), (.d (.int .i64) (.v 12)), (.d (.int .i64) (.v 13)), (.d (.int .i64) (.v 14)), (.d (.int .i64) (.v 15)), (.d .str (.v 16)), (.d .str (.v 17)), (.d .str (.v 18)), (.d .bool (.v 19)), (.d (.lst [(.int .i64), (.int .i64)]) (.v 20)), (.d (.int .i64) (.v 21)), (.d (.int .i64) (.v 22)), (.d (.int .i64) (.v 23)), (.d (.int .i64) (.v 24)), (.d (.int .i64) (.v 25)), (.d .str (.v 26)), (.d (.int .i64) (.v 27)), (.d (.int .i64) (.v 28)), (.d (.int .i64) (.v 29)), (.d (.int .i64) (.v 30)), (.d (.lst [(.int .i64), (.int .i64)]) (.v 31)), (.d (.lst [.str, .str, .str, (.int .i64), (.int .i64), (.int .i64)]) (.v 32))])), (.v (.c (.ptr 0 0))), (.v (.c (.ptr 1 0))), (.v (.c (.ptr 2 0))), (.v (.c (.d (.lst shM) (.v 34)))), (.v (.c (.d (.lst shM) (.v 35)))), (.v (.c (.d (.lst shM) (.v 36)))), (.v (.c .any)), (.v (.c .any)), (.v (.c .any)), (.v (.g [(.d (.int .i64) (.v 8)), (.d (.int .i64) (.v 9)), (.d (.int .i64) (.v 10)), (.d (.int .i64) (.v 11)), (.d (.int .i64) (.v 12)), (.d (.int .i64) (.v 13)), (.d (.int .i64) (.v 14)), (.d (.int .i64) (.v 15)), (.d .str (.v 16)), (.d .str (.v 17)), (.d .str (.v 18)), (.d .bool (.v 19)), (.d (.lst [(.int .i64), (.int .i64)]) (.v 20)), (.d (.int .i64) (.v 21)), (.d (.int .i64) (.v 22)), (.d (.int .i64) (.v 23)), (.d (.int .i64) (.v 24)), (.d (.int .i64) (.v 25)), (.d .str (.v 26)), (.d (.int .i64) (.v 27)), (.d (.int .i64) (.v 28)), (.d (.int .i64) (.v 29)), (.d (.int .i64) (.v 30)), (.d (.lst [(.int .i64), (.int .i64)]) (.v 31)), (.d (.lst [.str, .str, .str, (.int .i64), (.int .i64), (.int .i64)]) (.v 32))])), (.v (.c (.d .bool (.v 33)))) ] ++ an 38 ++ [(.v (.c (.ptr 1 0))), (.v (.c (.d (.int .i64) (.v 8)))), (.v (.c (.d .bool (.cmp .neq (.v 8) (.ki .i64 1))))), (.v (.c .any)), (.v (.c (.ptr 0 7))), (.v (.c (.d (.lst shM) (.v 7)))), (.v (.c (.d (.int .i64) (.len (.v 7))))), (.v (.c (.d (.int .i64) (.v 37)))) ] ++ an 22, blks := [(.cells [(.d (.int .i64) (.v 0)), (.d (.int .i64) (.v 1)), (.d (.int .i64) (.v 2)), (.d (.lst shM) (.v 3)), (.d (.lst shM) (.v 4)), (.d (.int .i64) (.v 5)), (.d (.int .i64) (.v 6)), (.d (.lst shM) (.v 7))]), (.cells [(.d (.int .i64) (.v 8)), (.d (.int .i64) (.v 9)), (.d (.int .i64) (.v 10)), (.d (.int .i64) (.v 11)), (.d (.int .i64) (.v 12)), (.d (.int .i64) (.v 13)), (.d (.int .i64) (.v 14)), (.d (.int .i64) (.v 15)), (.d .str (.v 16)), (.d .str (.v 17)), (.d .str (.v 18)), (.d .bool (.v 19)), (.d (.lst [(.int .i64), (.int .i64)]) (.v 20)), (.d (.int .i64) (.v 21)), (.d (.int .i64) (.v 22)), (.d (.int .i64) (.v 23)), (.d (.int .i64) (.v 24)), (.d (.int .i64) (.v 25)), (.d .str (.v 26)), (.d (.int .i64) (.v 27)), (.d (.int .i64) (.v 28)), (.d (.int .i64) (.v 29)), (.d (.int .i64) (.v 30)), (.d (.lst [(.int .i64), (.int .i64)]) (.v 31)), (.d (.lst [.str, .str, .str, (.int .i64), (.int .i64), (.int .i64)]) (.v 32))]), (.cells [(.d (.int .i64) (.ki .i64 0)), (.d (.int .i64) (.ki .i64 0)), (.d (.int .i64) (.ki .i64 0)), (.nilS shM), (.nilS shM), (.d (.int .i64) (.ki .i64 0)), (.d (.int .i64) (.ki .i64 0)), (.nilS shM)])], shs := [(.lst shM), (.lst shM), (.lst shM), (.int .i64)], rs := [], bs := [], fz := [] }]
theorem recv_ent : EntOK Try.prog [] ⟨11, [(.g shE), (.g shM)], [(.g shE), (.c (.lst shM)), (.c (.lst shM)), (.r shM)], vcrecv⟩ :=
  ent_of_genH hP Try.func11 rfl (by decide) (jn := []) (hd := hdrecv) (sg := sgs) (by kernel_rfl)
def vctsend : VC := (.loop [(.int .i64), (.int .i64), .bool, (.int .i64), (.lst [(.int .i64)]), (.lst [(.int .i64), (.lst [(.int .u8)])]), .bool, (.int .i64)] [(.v 0), (.v 1), (.v 2), (.v 3), (.v 4), (.v 5), (.kb false), (.ki .i64 0)]
 (.ite (.cmp .lss (.v 14) (.len (.v 6)))
  (.ev [(.ob (.cmp .geq (.v 14) (.ki .i64 0))), (.ob (.cmp .lss (.v 14) (.len (.v 6))))]
   (.cal 20 [(.g shM)] [(cpM (.get (.v 6) (.v 14)))] [(.c (.lst [(.int .u8)])), (.c (.int .i64))] 15
    (.ite (.cmp .neq (.v 16) (.ki .i64 0))
     (.ret [(.rc (.cons (.v 7) (.cons (.v 8) (.cons (.v 9) (.cons (.v 10) (.cons (.v 11) (.cons (.v 12) .nil))))))), (.kb false)])
     (.cal 21 [(.g shL), (.c (.lst [(.int .u8)]))] [(.rc (.cons (.v 7) (.cons (.v 8) (.cons (.v 9) (.cons (.v 10) (.cons (.v 11) (.cons (.v 12) .nil))))))), (.v 15)] [(.g shL), (.c (.int .i64))] 17
      (.ite (.cmp .neq (.v 23) (.ki .i64 0))
       (.ret [(.rc (.cons (.v 17) (.cons (.v 18) (.cons (.v 19) (.cons (.v 20) (.cons (.v 21) (.cons (.v 22) .nil))))))), (.kb false)])
       (.back 0 [(.v 17), (.v 18), (.v 19), (.v 20), (.v 21), (.v 22), (.v 13), (.ar .add .i64 (.v 14) (.ki .i64 1))]))))))
  (.ret [(.rc (.cons (.v 7) (.cons (.v 8) (.cons (.v 9) (.cons (.v 10) (.cons (.v 11) (.cons (.v 12) .nil))))))), (.kb true)])))
def hdtsend : List HdL := [{ kind := true, id := 2, nv := 7, tmps := [(.v (.g [(.d (.int .i64) (.v 0)), (.d (.int .i64) (.v 1)), (.d .bool (.v 2)), (.d (.int .i64) (.v 3)), (.d (.lst [(.int .i64)]) (.v 4)), (.d (.lst [(.int .i64), (.lst [(.int .u8)])]) (.v 5))])), (.v (.c (.d (.lst shM) (.v 6)))), (.v (.c (.ptr 0 0))), (.v (.c .any)), (.v (.c (.ptr 1 0))), (.v (.c (.d .bool (.v 13)))) ] ++ an 4 ++ [(.v (.c (.d (.lst shM) (.v 6)))), (.v (.c (.d (.int .i64) (.len (.v 6))))), (.v (.c (.d (.int .i64) (.v 14)))) ] ++ an 22, blks := [(.cells [(.d (.int .i64) (.v 7)), (.d (.int .i64) (.v 8)), (.d .bool (.v 9)), (.d (.int .i64) (.v 10)), (.d (.lst [(.int .i64)]) (.v 11)), (.d (.lst [(.int .i64), (.lst [(.int .u8)])]) (.v 12))]), (.cells [(.d (.int .i64) (.ki .i64 0)), (.d (.int .i64) (.ki .i64 0)), (.d .bool (.kb false)), (.d (.int .i64) (.ki .i64 0)), (.nilS [(.int .i64)]), (.nilS [(.int .i64), (.lst [(.int .u8)])])])], shs := [(.int .i64), (.int .i64), .bool, (.int .i64), (.lst [(.int .i64)]), (.lst [(.int .i64), (.lst [(.int .u8)])]), .bool, (.int .i64)], rs := [], bs := [], fz := [] }]
theorem tsend_ent : EntOK Try.prog [] ⟨8, [(.g shL), (.c (.lst shM))], [(.g shL), (.c .bool)], vctsend⟩ :=
  ent_of_genH hP Try.func8 rfl (by decide) (jn := []) (hd := hdtsend) (sg := sgs) (by kernel_rfl)
def vclaw : VC := (.ite (.cmp .gtr (.v 0) (.ki .u8 10))
 (.ret [(.kb true)])
 (.ite (.cmp .gtr (.len (.v 2)) (.ki .i64 30))
  (.ret [(.kb true)])
  (.ite (.cmp .gtr (.len (.v 3)) (.ki .i64 30))
   (.ret [(.kb true)])
   (.cal 4 [(.c (.int .i64)), (.c (.int .i64)), (.c (.int .i64))] [(.ki .i64 3), (.ki .i64 2), (.ki .i64 1)] [(.g shE), (.c (.int .i64))] 4
    (.cal 4 [(.c (.int .i64)), (.c (.int .i64)), (.c (.int .i64))] [(.ki .i64 3), (.ki .i64 2), (.ki .i64 1)] [(.g shE), (.c (.int .i64))] 13
     (.cal 5 [(.c (.int .i64)), (.c (.lst [(.int .i64)]))] [(.ar .add .i64 (.ar .rem .i64 (.conv .i64 (.v 1)) (.ki .i64 3)) (.ki .i64 1)), (.v 2)] [(.g shL), (.c (.int .i64))] 22
      (.cal 5 [(.c (.int .i64)), (.c (.lst [(.int .i64)]))] [(.ar .add .i64 (.ar .rem .i64 (.conv .i64 (.v 1)) (.ki .i64 3)) (.ki .i64 1)), (.v 3)] [(.g shL), (.c (.int .i64))] 29
       (.ite (.cmp .neq (.v 12) (.ki .i64 0))
        (.ret [(.kb false)])
        (.ite (.cmp .neq (.v 21) (.ki .i64 0))
         (.ret [(.kb false)])
         (.ite (.cmp .neq (.v 28) (.ki .i64 0))
          (.ret [(.kb true)])
          (.ite (.cmp .neq (.v 35) (.ki .i64 0))
           (.ret [(.kb true)])
           (.loop [(.int .i64), (.int .i64), (.int .i64), (.lst shM), (.lst shM), (.int .i64), (.int .i64), (.lst shM), .bool, (.int .i64), (.int .u8)] [(.v 4), (.v 5), (.v 6), (.v 7), (.v 8), (.v 9), (.v 10), (.v 11), (.kb false), (.v 12), (.ki .u8 0)]
            (.ite (.cmp .lss (.v 46) (.v 0))
             (.cal 6 [(.g shE), (.g shM)] [(.rc (.cons (.v 36) (.cons (.v 37) (.cons (.v 38) (.cons (.v 39) (.cons (.v 40) (.cons (.v 41) (.cons (.v 42) (.cons (.v 43) .nil))))))))), (.rc (.cons (.ki .i64 1) (.cons (.ki .i64 0) (.cons (.ki .i64 2) (.cons (.ki .i64 0) (.cons (.ki .i64 0) (.cons (.ki .i64 0) (.cons (.ki .i64 0) (.cons (.ki .i64 0) (.cons (.ks ⟨List.toArray []⟩) (.cons (.ks ⟨List.toArray []⟩) (.cons (.ks ⟨List.toArray []⟩) (.cons (.kb false) (.cons .nil (.cons (.ki .i64 0) (.cons (.ki .i64 0) (.cons (.ki .i64 0) (.cons (.ki .i64 0) (.cons (.ki .i64 0) (.cons (.ks ⟨List.toArray []⟩) (.cons (.ki .i64 0) (.cons (.ki .i64 0) (.cons (.ki .i64 0) (.cons (.ki .i64 0) (.cons .nil (.cons .nil .nil))))))))))))))))))))))))))] [(.g shE), (.c (.int .i64)), (.c (.int .i64))] 47
              (.ite (.cmp .neq (.v 56) (.ki .i64 0))
               (.ret [(.kb false)])
               (.back 0 [(.v 47), (.v 48), (.v 49), (.v 50), (.v 51), (.v 52), (.v 53), (.v 54), (.v 44), (.v 56), (.ar .add .u8 (.v 46) (.ki .u8 1))])))
             (.loop [(.int .i64), (.int .i64), (.int .i64), (.lst shM), (.lst shM), (.int .i64), (.int .i64), (.lst shM), (.int .i64), (.int .i64), (.int .i64), (.lst shM), (.lst shM), (.int .i64), (.int .i64), (.lst shM), (.int .i64), (.int .i64), .bool, (.int .i64), (.lst [(.int .i64)]), (.lst [(.int .i64), (.lst [(.int .u8)])]), (.int .i64), (.int .i64), .bool, (.int .i64), (.lst [(.int .i64)]), (.lst [(.int .i64), (.lst [(.int .u8)])]), .bool, (.int .i64), (.int .i64), (.int .i64)] [(.v 36), (.v 37), (.v 38), (.v 39), (.v 40), (.v 41), (.v 42), (.v 43), (.v 13), (.v 14), (.v 15), (.v 16), (.v 17), (.v 18), (.v 19), (.v 20), (.v 22), (.v 23), (.v 24), (.v 25), (.v 26), (.v 27), (.v 29), (.v 30), (.v 31), (.v 32), (.v 33), (.v 34), (.v 44), (.ki .i64 0), (.ki .i64 0), (.ki .i64 0)]
              (.ite (.cmp .lss (.v 78) (.ki .i64 200))
               (.cal 7 [(.g shE), (.c (.int .i64))] [(.rc (.cons (.v 47) (.cons (.v 48) (.cons (.v 49) (.cons (.v 50) (.cons (.v 51) (.cons (.v 52) (.cons (.v 53) (.cons (.v 54) .nil))))))))), (.v 78)] [(.g shE), (.c (.lst shM)), (.c (.lst shM))] 79
                (.cal 8 [(.g shL), (.c (.lst shM))] [(.rc (.cons (.v 63) (.cons (.v 64) (.cons (.v 65) (.cons (.v 66) (.cons (.v 67) (.cons (.v 68) .nil))))))), (.v 87)] [(.g shL), (.c .bool)] 89
                 (.ite (.v 95)
                  (.cal 9 [(.g shL)] [(.rc (.cons (.v 89) (.cons (.v 90) (.cons (.v 91) (.cons (.v 92) (.cons (.v 93) (.cons (.v 94) .nil)))))))] [(.g shL), (.c (.lst [(.lst [(.int .u8)])]))] 96
                   (.loop [(.int .i64), (.int .i64), (.int .i64), (.lst shM), (.lst shM), (.int .i64), (.int .i64), (.lst shM), (.int .i64), (.int .i64), .bool, (.int .i64), (.lst [(.int .i64)]), (.lst [(.int .i64), (.lst [(.int .u8)])]), .bool, (.int .i64), .bool, (.int .i64)] [(.v 55), (.v 56), (.v 57), (.v 58), (.v 59), (.v 60), (.v 61), (.v 62), (.v 69), (.v 70), (.v 71), (.v 72), (.v 73), (.v 74), (.v 75), (.v 77), (.v 95), (.ki .i64 0)]
                    (.ite (.cmp .lss (.v 120) (.len (.v 102)))
                     (.ev [(.ob (.cmp .geq (.v 120) (.ki .i64 0))), (.ob (.cmp .lss (.v 120) (.len (.v 102))))]
                      (.cal 10 [(.c (.lst [(.int .u8)]))] [(.get (.v 102) (.v 120))] [(.g shM), (.c (.int .i64))] 121
                       (.ite (.cmp .neq (.v 146) (.ki .i64 0))
                        (.ret [(.kb false)])
                        (.cal 11 [(.g shE), (.g shM)] [(.rc (.cons (.v 103) (.cons (.v 104) (.cons (.v 105) (.cons (.v 106) (.cons (.v 107) (.cons (.v 108) (.cons (.v 109) (.cons (.v 110) .nil))))))))), (.rc (.cons (.v 121) (.cons (.v 122) (.cons (.v 123) (.cons (.v 124) (.cons (.v 125) (.cons (.v 126) (.cons (.v 127) (.cons (.v 128) (.cons (.v 129) (.cons (.v 130) (.cons (.v 131) (.cons (.v 132) (.cons (.v 133) (.cons (.v 134) (.cons (.v 135) (.cons (.v 136) (.cons (.v 137) (.cons (.v 138) (.cons (.v 139) (.cons (.v 140) (.cons (.v 141) (.cons (.v 142) (.cons (.v 143) (.cons (.v 144) (.cons (.v 145) .nil))))))))))))))))))))))))))] [(.g shE), (.c (.lst shM)), (.c (.lst shM)), (.r shM)] 147
                         (.loop [(.int .i64), (.int .i64), (.int .i64), (.lst shM), (.lst shM), (.int .i64), (.int .i64), (.lst shM), (.lst shM), .bool, (.int .i64), (.int .i64), (.int .i64)] [(.v 147), (.v 148), (.v 149), (.v 150), (.v 151), (.v 152), (.v 153), (.v 154), (.v 157), (.v 117), (.v 118), (.v 146), (.ki .i64 0)]
                          (.ite (.cmp .lss (.v 170) (.len (.v 156)))
                           (.ev [(.ob (.cmp .geq (.v 170) (.ki .i64 0))), (.ob (.cmp .lss (.v 170) (.len (.v 156))))]
                            (.ite (.cmp .leq (.cell (.get (.v 156) (.v 170)) 1) (.v 168))
                             (.ret [(.kb false)])
                             (.cal 12 [(.g shM), (.c (.int .i64))] [(cpM (.get (.v 156) (.v 170))), (.ki .i64 1)] [(.g shM)] 171
                              (.cal 13 [(.g shE), (.g shM)] [(.rc (.cons (.v 158) (.cons (.v 159) (.cons (.v 160) (.cons (.v 161) (.cons (.v 162) (.cons (.v 163) (.cons (.v 164) (.cons (.v 165) .nil))))))))), (.rc (.cons (.v 171) (.cons (.v 172) (.cons (.v 173) (.cons (.v 174) (.cons (.v 175) (.cons (.v 176) (.cons (.v 177) (.cons (.v 178) (.cons (.v 179) (.cons (.v 180) (.cons (.v 181) (.cons (.v 182) (.cons (.v 183) (.cons (.v 184) (.cons (.v 185) (.cons (.v 186) (.cons (.v 187) (.cons (.v 188) (.cons (.v 189) (.cons (.v 190) (.cons (.v 191) (.cons (.v 192) (.cons (.v 193) (.cons (.v 194) (.cons (.v 195) .nil))))))))))))))))))))))))))] [(.g shE), (.c (.int .i64))] 196
                               (.ite (.cmp .neq (.v 204) (.ki .i64 0))
                                (.ret [(.kb false)])
                                (.ev [(.ob (.cmp .leq (.len (.app (.v 166) (.cons (.rc (.cons (.v 171) (.cons (.v 172) (.cons (.v 173) (.cons (.v 174) (.cons (.v 175) (.cons (.v 176) (.cons (.v 177) (.cons (.v 178) (.cons (.v 179) (.cons (.v 180) (.cons (.v 181) (.cons (.v 182) (.cons (.v 183) (.cons (.v 184) (.cons (.v 185) (.cons (.v 186) (.cons (.v 187) (.cons (.v 188) (.cons (.v 189) (.cons (.v 190) (.cons (.v 191) (.cons (.v 192) (.cons (.v 193) (.cons (.v 194) (.cons (.v 195) .nil)))))))))))))))))))))))))) .nil))) (.ki .i64 4294967296)))]
                                 (.back 3 [(.v 196), (.v 197), (.v 198), (.v 199), (.v 200), (.v 201), (.v 202), (.v 203), (.app (.v 166) (.cons (.rc (.cons (.v 171) (.cons (.v 172) (.cons (.v 173) (.cons (.v 174) (.cons (.v 175) (.cons (.v 176) (.cons (.v 177) (.cons (.v 178) (.cons (.v 179) (.cons (.v 180) (.cons (.v 181) (.cons (.v 182) (.cons (.v 183) (.cons (.v 184) (.cons (.v 185) (.cons (.v 186) (.cons (.v 187) (.cons (.v 188) (.cons (.v 189) (.cons (.v 190) (.cons (.v 191) (.cons (.v 192) (.cons (.v 193) (.cons (.v 194) (.cons (.v 195) .nil)))))))))))))))))))))))))) .nil)), (.v 167), (.cell (.get (.v 156) (.v 170)) 1), (.v 204), (.ar .add .i64 (.v 170) (.ki .i64 1))])))))))
                           (.cal 8 [(.g shL), (.c (.lst shM))] [(.rc (.cons (.v 111) (.cons (.v 112) (.cons (.v 113) (.cons (.v 114) (.cons (.v 115) (.cons (.v 116) .nil))))))), (.v 166)] [(.g shL), (.c .bool)] 171
                            (.ite (.v 177)
                             (.back 2 [(.v 158), (.v 159), (.v 160), (.v 161), (.v 162), (.v 163), (.v 164), (.v 165), (.v 171), (.v 172), (.v 173), (.v 174), (.v 175), (.v 176), (.v 167), (.v 168), (.v 177), (.ar .add .i64 (.v 120) (.ki .i64 1))])
                             (.ret [(.kb false)])))))))))
                     (.cal 9 [(.g shL)] [(.rc (.cons (.v 111) (.cons (.v 112) (.cons (.v 113) (.cons (.v 114) (.cons (.v 115) (.cons (.v 116) .nil)))))))] [(.g shL), (.c (.lst [(.lst [(.int .u8)])]))] 121
                      (.loop [(.int .i64), (.int .i64), (.int .i64), (.lst shM), (.lst shM), (.int .i64), (.int .i64), (.lst shM), .bool, (.int .i64), (.int .i64)] [(.v 79), (.v 80), (.v 81), (.v 82), (.v 83), (.v 84), (.v 85), (.v 86), (.v 117), (.ar .add .i64 (.v 76) (.len (.v 88))), (.ki .i64 0)]
                       (.ite (.cmp .lss (.v 138) (.len (.v 127)))
                        (.ev [(.ob (.cmp .geq (.v 138) (.ki .i64 0))), (.ob (.cmp .lss (.v 138) (.len (.v 127))))]
                         (.cal 10 [(.c (.lst [(.int .u8)]))] [(.get (.v 127) (.v 138))] [(.g shM), (.c (.int .i64))] 139
                          (.ite (.cmp .neq (.v 164) (.ki .i64 0))
                           (.ret [(.kb false)])
                           (.cal 11 [(.g shE), (.g shM)] [(.rc (.cons (.v 128) (.cons (.v 129) (.cons (.v 130) (.cons (.v 131) (.cons (.v 132) (.cons (.v 133) (.cons (.v 134) (.cons (.v 135) .nil))))))))), (.rc (.cons (.v 139) (.cons (.v 140) (.cons (.v 141) (.cons (.v 142) (.cons (.v 143) (.cons (.v 144) (.cons (.v 145) (.cons (.v 146) (.cons (.v 147) (.cons (.v 148) (.cons (.v 149) (.cons (.v 150) (.cons (.v 151) (.cons (.v 152) (.cons (.v 153) (.cons (.v 154) (.cons (.v 155) (.cons (.v 156) (.cons (.v 157) (.cons (.v 158) (.cons (.v 159) (.cons (.v 160) (.cons (.v 161) (.cons (.v 162) (.cons (.v 163) .nil))))))))))))))))))))))))))] [(.g shE), (.c (.lst shM)), (.c (.lst shM)), (.r shM)] 165
                            (.ite (.cmp .gtr (.len (.v 173)) (.ki .i64 0))
                             (.back 3 [(.v 165), (.v 166), (.v 167), (.v 168), (.v 169), (.v 170), (.v 171), (.v 172), (.v 136), (.ar .add .i64 (.v 137) (.ki .i64 1)), (.ar .add .i64 (.v 138) (.ki .i64 1))])
                             (.back 3 [(.v 165), (.v 166), (.v 167), (.v 168), (.v 169), (.v 170), (.v 171), (.v 172), (.v 136), (.v 137), (.ar .add .i64 (.v 138) (.ki .i64 1))]))))))
                        (.back 1 [(.v 128), (.v 129), (.v 130), (.v 131), (.v 132), (.v 133), (.v 134), (.v 135), (.v 103), (.v 104), (.v 105), (.v 106), (.v 107), (.v 108), (.v 109), (.v 110), (.v 96), (.v 97), (.v 98), (.v 99), (.v 100), (.v 101), (.v 121), (.v 122), (.v 123), (.v 124), (.v 125), (.v 126), (.v 136), (.v 137), (.v 118), (.ar .add .i64 (.v 78) (.ki .i64 1))])))))))
                  (.ret [(.kb false)]))))
               (.ite (.cmp .eql (.v 76) (.conv .i64 (.v 0)))
                (.ret [(.cmp .leq (.v 77) (.conv .i64 (.v 0)))])
                (.ret [(.kb false)])))))))))))))))))
def hdlaw : List HdL := [{ kind := true, id := 12, nv := 36, tmps := [(.v (.c (.d (.int .u8) (.v 0)))), (.v (.c (.d (.int .u8) (.v 1)))), (.v (.c (.d (.lst [(.int .i64)]) (.v 2)))), (.v (.c (.d (.lst [(.int .i64)]) (.v 3)))) ] ++ an 4 ++ [(.v (.c (.d .bool (.v 44)))), (.v (.c (.ptr 0 0))), (.v (.c (.d (.int .i64) (.v 45)))), (.v (.c (.ptr 1 0))), (.v (.c (.d (.int .i64) (.v 21)))), (.v (.c (.ptr 2 0))), (.v (.c (.d (.int .i64) (.v 28)))), (.v (.c (.ptr 3 0))), (.v (.c (.d (.int .i64) (.v 35)))) ] ++ an 21 ++ [(.v (.c (.d (.int .u8) (.v 0)))), (.v (.c (.d .bool (.cmp .gtr (.v 0) (.ki .u8 10))))), (.v (.c (.d .bool (.cmp .gtr (.v 0) (.ki .u8 10))))), (.v (.c (.d (.lst [(.int .i64)]) (.v 2)))), (.v (.c (.d (.int .i64) (.len (.v 2))))), (.v (.c (.d .bool (.cmp .gtr (.len (.v 2)) (.ki .i64 30))))), (.v (.c (.d .bool (.cmp .gtr (.len (.v 2)) (.ki .i64 30))))), (.v (.c (.d .bool (.cmp .gtr (.len (.v 2)) (.ki .i64 30))))), (.v (.c (.d (.lst [(.int .i64)]) (.v 3)))), (.v (.c (.d (.int .i64) (.len (.v 3))))), (.v (.c (.d .bool (.cmp .gtr (.len (.v 3)) (.ki .i64 30))))), (.v (.c (.d .bool (.cmp .gtr (.len (.v 3)) (.ki .i64 30))))), (.v (.c .any)), (.v (.c .any)), (.v (.g [(.d (.int .i64) (.v 4)), (.d (.int .i64) (.v 5)), (.d (.int .i64) (.v 6)), (.d (.lst shM) (.v 7)), (.d (.lst shM) (.v 8)), (.d (.int .i64) (.v 9)), (.d (.int .i64) (.v 10)), (.d (.lst shM) (.v 11))])), (.v (.c (.d (.int .i64) (.v 12)))), (.v (.c .any)), (.v (.c .any)), (.v (.g [(.d (.int .i64) (.v 13)), (.d (.int .i64) (.v 14)), (.d (.int .i64) (.v 15)), (.d (.lst shM) (.v 16)), (.d (.lst shM) (.v 17)), (.d (.int .i64) (.v 18)), (.d (.int .i64) (.v 19)), (.d (.lst shM) (.v 20))])), (.v (.c (.d (.int .i64) (.v 21)))), (.v (.c .any)), (.v (.c (.d (.int .u8) (.v 1)))), (.v (.c (.d (.int .i64) (.conv .i64 (.v 1))))), (.v (.c (.d (.int .i64) (.ar .rem .i64 (.conv .i64 (.v 1)) (.ki .i64 3))))), (.v (.c (.d (.int .i64) (.ar .add .i64 (.ar .rem .i64 (.conv .i64 (.v 1)) (.ki .i64 3)) (.ki .i64 1))))), (.v (.c (.d (.lst [(.int .i64)]) (.v 2)))), (.v (.c .any)), (.v (.g [(.d (.int .i64) (.v 22)), (.d (.int .i64) (.v 23)), (.d .bool (.v 24)), (.d (.int .i64) (.v 25)), (.d (.lst [(.int .i64)]) (.v 26)), (.d (.lst [(.int .i64), (.lst [(.int .u8)])]) (.v 27))])), (.v (.c (.d (.int .i64) (.v 28)))), (.v (.c .any)), (.v (.c (.d (.int .u8) (.v 1)))), (.v (.c (.d (.int .i64) (.conv .i64 (.v 1))))), (.v (.c (.d (.int .i64) (.ar .rem .i64 (.conv .i64 (.v 1)) (.ki .i64 3))))), (.v (.c (.d (.int .i64) (.ar .add .i64 (.ar .rem .i64 (.conv .i64 (.v 1)) (.ki .i64 3)) (.ki .i64 1))))), (.v (.c (.d (.lst [(.int .i64)]) (.v 3)))), (.v (.c .any)), (.v (.g [(.d (.int .i64) (.v 29)), (.d (.int .i64) (.v 30)), (.d .bool (.v 31)), (.d (.int .i64) (.v 32)), (.d (.lst [(.int .i64)]) (.v 33)), (.d (.lst [(.int .i64), (.lst [(.int .u8)])]) (.v 34))])), (.v (.c (.d (.int .i64) (.v 35)))), (.v (.c (.d (.int .i64) (.v 12)))), (.v (.c (.d .bool (.cmp .neq (.v 12) (.ki .i64 0))))), (.v (.c (.d .bool (.cmp .neq (.v 12) (.ki .i64 0))))), (.v (.c (.d (.int .i64) (.v 21)))), (.v (.c (.d .bool (.cmp .neq (.v 21) (.ki .i64 0))))), (.v (.c (.d .bool (.cmp .neq (.v 21) (.ki .i64 0))))), (.v (.c (.d (.int .i64) (.v 28)))), (.v (.c (.d .bool (.cmp .neq (.v 28) (.ki .i64 0))))), (.v (.c (.d .bool (.cmp .neq (.v 28) (.ki .i64 0))))), (.v (.c (.d (.int .i64) (.v 35)))), (.v (.c (.d .bool (.cmp .neq (.v 35) (.ki .i64 0))))), (.v (.c (.d .bool (.cmp .neq (.v 35) (.ki .i64 0))))), (.v (.c (.d (.int .u8) (.v 0)))), (.v (.c (.d (.int .u8) (.v 46)))) ] ++ an 138, blks := [(.cells [(.d (.int .i64) (.v 36)), (.d (.int .i64) (.v 37)), (.d (.int .i64) (.v 38)), (.d (.lst shM) (.v 39)), (.d (.lst shM) (.v 40)), (.d (.int .i64) (.v 41)), (.d (.int .i64) (.v 42)), (.d (.lst shM) (.v 43))]), (.cells [(.d (.int .i64) (.v 13)), (.d (.int .i64) (.v 14)), (.d (.int .i64) (.v 15)), (.d (.lst shM) (.v 16)), (.d (.lst shM) (.v 17)), (.d (.int .i64) (.v 18)), (.d (.int .i64) (.v 19)), (.d (.lst shM) (.v 20))]), (.cells [(.d (.int .i64) (.v 22)), (.d (.int .i64) (.v 23)), (.d .bool (.v 24)), (.d (.int .i64) (.v 25)), (.d (.lst [(.int .i64)]) (.v 26)), (.d (.lst [(.int .i64), (.lst [(.int .u8)])]) (.v 27))]), (.cells [(.d (.int .i64) (.v 29)), (.d (.int .i64) (.v 30)), (.d .bool (.v 31)), (.d (.int .i64) (.v 32)), (.d (.lst [(.int .i64)]) (.v 33)), (.d (.lst [(.int .i64), (.lst [(.int .u8)])]) (.v 34))])], shs := [(.int .i64), (.int .i64), (.int .i64), (.lst shM), (.lst shM), (.int .i64), (.int .i64), (.lst shM), .bool, (.int .i64), (.int .u8)], rs := [], bs := [], fz := [] },
{ kind := true, id := 19, nv := 47, tmps := [(.v (.c (.d (.int .u8) (.v 0)))), (.v (.c (.d (.int .u8) (.v 1)))), (.v (.c (.d (.lst [(.int .i64)]) (.v 2)))), (.v (.c (.d (.lst [(.int .i64)]) (.v 3)))) ] ++ an 4 ++ [(.v (.c (.d .bool (.v 75)))), (.v (.c (.ptr 0 0))), (.v (.c (.d (.int .i64) (.v 45)))), (.v (.c (.ptr 1 0))), (.v (.c (.d (.int .i64) (.v 21)))), (.v (.c (.ptr 2 0))), (.v (.c (.d (.int .i64) (.v 28)))), (.v (.c (.ptr 3 0))), (.v (.c (.d (.int .i64) (.v 35)))), (.v (.c (.d (.int .i64) (.v 76)))), (.v (.c (.d (.int .i64) (.v 77)))) ] ++ an 19 ++ [(.v (.c (.d (.int .u8) (.v 0)))), (.v (.c (.d .bool (.cmp .gtr (.v 0) (.ki .u8 10))))), (.v (.c (.d .bool (.cmp .gtr (.v 0) (.ki .u8 10))))), (.v (.c (.d (.lst [(.int .i64)]) (.v 2)))), (.v (.c (.d (.int .i64) (.len (.v 2))))), (.v (.c (.d .bool (.cmp .gtr (.len (.v 2)) (.ki .i64 30))))), (.v (.c (.d .bool (.cmp .gtr (.len (.v 2)) (.ki .i64 30))))), (.v (.c (.d .bool (.cmp .gtr (.len (.v 2)) (.ki .i64 30))))), (.v (.c (.d (.lst [(.int .i64)]) (.v 3)))), (.v (.c (.d (.int .i64) (.len (.v 3))))), (.v (.c (.d .bool (.cmp .gtr (.len (.v 3)) (.ki .i64 30))))), (.v (.c (.d .bool (.cmp .gtr (.len (.v 3)) (.ki .i64 30))))), (.v (.c .any)), (.v (.c .any)), (.v (.g [(.d (.int .i64) (.v 4)), (.d (.int .i64) (.v 5)), (.d (.int .i64) (.v 6)), (.d (.lst shM) (.v 7)), (.d (.lst shM) (.v 8)), (.d (.int .i64) (.v 9)), (.d (.int .i64) (.v 10)), (.d (.lst shM) (.v 11))])), (.v (.c (.d (.int .i64) (.v 12)))), (.v (.c .any)), (.v (.c .any)), (.v (.g [(.d (.int .i64) (.v 13)), (.d (.int .i64) (.v 14)), (.d (.int .i64) (.v 15)), (.d (.lst shM) (.v 16)), (.d (.lst shM) (.v 17)), (.d (.int .i64) (.v 18)), (.d (.int .i64) (.v 19)), (.d (.lst shM) (.v 20))])), (.v (.c (.d (.int .i64) (.v 21)))), (.v (.c .any)), (.v (.c (.d (.int .u8) (.v 1)))), (.v (.c (.d (.int .i64) (.conv .i64 (.v 1))))), (.v (.c (.d (.int .i64) (.ar .rem .i64 (.conv .i64 (.v 1)) (.ki .i64 3))))), (.v (.c (.d (.int .i64) (.ar .add .i64 (.ar .rem .i64 (.conv .i64 (.v 1)) (.ki .i64 3)) (.ki .i64 1))))), (.v (.c (.d (.lst [(.int .i64)]) (.v 2)))), (.v (.c .any)), (.v (.g [(.d (.int .i64) (.v 22)), (.d (.int .i64) (.v 23)), (.d .bool (.v 24)), (.d (.int .i64) (.v 25)), (.d (.lst [(.int .i64)]) (.v 26)), (.d (.lst [(.int .i64), (.lst [(.int .u8)])]) (.v 27))])), (.v (.c (.d (.int .i64) (.v 28)))), (.v (.c .any)), (.v (.c (.d (.int .u8) (.v 1)))), (.v (.c (.d (.int .i64) (.conv .i64 (.v 1))))), (.v (.c (.d (.int .i64) (.ar .rem .i64 (.conv .i64 (.v 1)) (.ki .i64 3))))), (.v (.c (.d (.int .i64) (.ar .add .i64 (.ar .rem .i64 (.conv .i64 (.v 1)) (.ki .i64 3)) (.ki .i64 1))))), (.v (.c (.d (.lst [(.int .i64)]) (.v 3)))), (.v (.c .any)), (.v (.g [(.d (.int .i64) (.v 29)), (.d (.int .i64) (.v 30)), (.d .bool (.v 31)), (.d (.int .i64) (.v 32)), (.d (.lst [(.int .i64)]) (.v 33)), (.d (.lst [(.int .i64), (.lst [(.int .u8)])]) (.v 34))])), (.v (.c (.d (.int .i64) (.v 35)))), (.v (.c (.d (.int .i64) (.v 12)))), (.v (.c (.d .bool (.cmp .neq (.v 12) (.ki .i64 0))))), (.v (.c (.d .bool (.cmp .neq (.v 12) (.ki .i64 0))))), (.v (.c (.d (.int .i64) (.v 21)))), (.v (.c (.d .bool (.cmp .neq (.v 21) (.ki .i64 0))))), (.v (.c (.d .bool (.cmp .neq (.v 21) (.ki .i64 0))))), (.v (.c (.d (.int .i64) (.v 28)))), (.v (.c (.d .bool (.cmp .neq (.v 28) (.ki .i64 0))))), (.v (.c (.d .bool (.cmp .neq (.v 28) (.ki .i64 0))))), (.v (.c (.d (.int .i64) (.v 35)))), (.v (.c (.d .bool (.cmp .neq (.v 35) (.ki .i64 0))))), (.v (.c (.d .bool (.cmp .neq (.v 35) (.ki .i64 0))))), (.v (.c (.d (.int .u8) (.v 0)))), (.v (.c (.d (.int .u8) (.v 46)))), (.v (.c (.d .bool (.cmp .lss (.v 46) (.v 0))))) ] ++ an 10 ++ [(.v (.c (.d (.int .i64) (.v 78)))) ] ++ an 126, blks := [(.cells [(.d (.int .i64) (.v 47)), (.d (.int .i64) (.v 48)), (.d (.int .i64) (.v 49)), (.d (.lst shM) (.v 50)), (.d (.lst shM) (.v 51)), (.d (.int .i64) (.v 52)), (.d (.int .i64) (.v 53)), (.d (.lst shM) (.v 54))]), (.cells [(.d (.int .i64) (.v 55)), (.d (.int .i64) (.v 56)), (.d (.int .i64) (.v 57)), (.d (.lst shM) (.v 58)), (.d (.lst shM) (.v 59)), (.d (.int .i64) (.v 60)), (.d (.int .i64) (.v 61)), (.d (.lst shM) (.v 62))]), (.cells [(.d (.int .i64) (.v 63)), (.d (.int .i64) (.v 64)), (.d .bool (.v 65)), (.d (.int .i64) (.v 66)), (.d (.lst [(.int .i64)]) (.v 67)), (.d (.lst [(.int .i64), (.lst [(.int .u8)])]) (.v 68))]), (.cells [(.d (.int .i64) (.v 69)), (.d (.int .i64) (.v 70)), (.d .bool (.v 71)), (.d (.int .i64) (.v 72)), (.d (.lst [(.int .i64)]) (.v 73)), (.d (.lst [(.int .i64), (.lst [(.int .u8)])]) (.v 74))])], shs := [(.int .i64), (.int .i64), (.int .i64), (.lst shM), (.lst shM), (.int .i64), (.int .i64), (.lst shM), (.int .i64), (.int .i64), (.int .i64), (.lst shM), (.lst shM), (.int .i64), (.int .i64), (.lst shM), (.int .i64), (.int .i64), .bool, (.int .i64), (.lst [(.int .i64)]), (.lst [(.int .i64), (.lst [(.int .u8)])]), (.int .i64), (.int .i64), .bool, (.int .i64), (.lst [(.int .i64)]), (.lst [(.int .i64), (.lst [(.int .u8)])]), .bool, (.int .i64), (.int .i64), (.int .i64)], rs := [], bs := [], fz := [] },
{ kind := true, id := 31, nv := 103, tmps := [(.v (.c (.d (.int .u8) (.v 0)))), (.v (.c (.d (.int .u8) (.v 1)))), (.v (.c (.d (.lst [(.int .i64)]) (.v 2)))), (.v (.c (.d (.lst [(.int .i64)]) (.v 3)))) ] ++ an 4 ++ [(.v (.c (.d .bool (.v 117)))), (.v (.c (.ptr 0 0))), (.v (.c (.d (.int .i64) (.v 45)))), (.v (.c (.ptr 1 0))), (.v (.c (.d (.int .i64) (.v 21)))), (.v (.c (.ptr 2 0))), (.v (.c (.d (.int .i64) (.v 28)))), (.v (.c (.ptr 3 0))), (.v (.c (.d (.int .i64) (.v 35)))), (.v (.c (.d (.int .i64) (.ar .add .i64 (.v 76) (.len (.v 88)))))), (.v (.c (.d (.int .i64) (.v 118)))), (.v (.c (.d (.int .i64) (.v 78)))), (.v (.c (.d (.lst shM) (.v 87)))), (.v (.c (.d (.lst shM) (.v 88)))), (.v (.c (.d .bool (.v 119)))), (.v (.c (.d (.lst [(.lst [(.int .u8)])]) (.v 102)))) ] ++ an 14 ++ [(.v (.c (.d (.int .u8) (.v 0)))), (.v (.c (.d .bool (.cmp .gtr (.v 0) (.ki .u8 10))))), (.v (.c (.d .bool (.cmp .gtr (.v 0) (.ki .u8 10))))), (.v (.c (.d (.lst [(.int .i64)]) (.v 2)))), (.v (.c (.d (.int .i64) (.len (.v 2))))), (.v (.c (.d .bool (.cmp .gtr (.len (.v 2)) (.ki .i64 30))))), (.v (.c (.d .bool (.cmp .gtr (.len (.v 2)) (.ki .i64 30))))), (.v (.c (.d .bool (.cmp .gtr (.len (.v 2)) (.ki .i64 30))))), (.v (.c (.d (.lst [(.int .i64)]) (.v 3)))), (.v (.c (.d (.int .i64) (.len (.v 3))))), (.v (.c (.d .bool (.cmp .gtr (.len (.v 3)) (.ki .i64 30))))), (.v (.c (.d .bool (.cmp .gtr (.len (.v 3)) (.ki .i64 30))))), (.v (.c .any)), (.v (.c .any)), (.v (.g [(.d (.int .i64) (.v 4)), (.d (.int .i64) (.v 5)), (.d (.int .i64) (.v 6)), (.d (.lst shM) (.v 7)), (.d (.lst shM) (.v 8)), (.d (.int .i64) (.v 9)), (.d (.int .i64) (.v 10)), (.d (.lst shM) (.v 11))])), (.v (.c (.d (.int .i64) (.v 12)))), (.v (.c .any)), (.v (.c .any)), (.v (.g [(.d (.int .i64) (.v 13)), (.d (.int .i64) (.v 14)), (.d (.int .i64) (.v 15)), (.d (.lst shM) (.v 16)), (.d (.lst shM) (.v 17)), (.d (.int .i64) (.v 18)), (.d (.int .i64) (.v 19)), (.d (.lst shM) (.v 20))])), (.v (.c (.d (.int .i64) (.v 21)))), (.v (.c .any)), (.v (.c (.d (.int .u8) (.v 1)))), (.v (.c (.d (.int .i64) (.conv .i64 (.v 1))))), (.v (.c (.d (.int .i64) (.ar .rem .i64 (.conv .i64 (.v 1)) (.ki .i64 3))))), (.v (.c (.d (.int .i64) (.ar .add .i64 (.ar .rem .i64 (.conv .i64 (.v 1)) (.ki .i64 3)) (.ki .i64 1))))), (.v (.c (.d (.lst [(.int .i64)]) (.v 2)))), (.v (.c .any)), (.v (.g [(.d (.int .i64) (.v 22)), (.d (.int .i64) (.v 23)), (.d .bool (.v 24)), (.d (.int .i64) (.v 25)), (.d (.lst [(.int .i64)]) (.v 26)), (.d (.lst [(.int .i64), (.lst [(.int .u8)])]) (.v 27))])), (.v (.c (.d (.int .i64) (.v 28)))), (.v (.c .any)), (.v (.c (.d (.int .u8) (.v 1)))), (.v (.c (.d (.int .i64) (.conv .i64 (.v 1))))), (.v (.c (.d (.int .i64) (.ar .rem .i64 (.conv .i64 (.v 1)) (.ki .i64 3))))), (.v (.c (.d (.int .i64) (.ar .add .i64 (.ar .rem .i64 (.conv .i64 (.v 1)) (.ki .i64 3)) (.ki .i64 1))))), (.v (.c (.d (.lst [(.int .i64)]) (.v 3)))), (.v (.c .any)), (.v (.g [(.d (.int .i64) (.v 29)), (.d (.int .i64) (.v 30)), (.d .bool (.v 31)), (.d (.int .i64) (.v 32)), (.d (.lst [(.int .i64)]) (.v 33)), (.d (.lst [(.int .i64), (.lst [(.int .u8)])]) (.v 34))])), (.v (.c (.d (.int .i64) (.v 35)))), (.v (.c (.d (.int .i64) (.v 12)))), (.v (.c (.d .bool (.cmp .neq (.v 12) (.ki .i64 0))))), (.v (.c (.d .bool (.cmp .neq (.v 12) (.ki .i64 0))))), (.v (.c (.d (.int .i64) (.v 21)))), (.v (.c (.d .bool (.cmp .neq (.v 21) (.ki .i64 0))))), (.v (.c (.d .bool (.cmp .neq (.v 21) (.ki .i64 0))))), (.v (.c (.d (.int .i64) (.v 28)))), (.v (.c (.d .bool (.cmp .neq (.v 28) (.ki .i64 0))))), (.v (.c (.d .bool (.cmp .neq (.v 28) (.ki .i64 0))))), (.v (.c (.d (.int .i64) (.v 35)))), (.v (.c (.d .bool (.cmp .neq (.v 35) (.ki .i64 0))))), (.v (.c (.d .bool (.cmp .neq (.v 35) (.ki .i64 0))))), (.v (.c (.d (.int .u8) (.v 0)))), (.v (.c (.d (.int .u8) (.v 46)))), (.v (.c (.d .bool (.cmp .lss (.v 46) (.v 0))))) ] ++ an 10 ++ [(.v (.c (.d (.int .i64) (.v 78)))), (.v (.c (.d .bool (.cmp .lss (.v 78) (.ki .i64 200))))), (.v (.c (.d (.int .i64) (.v 78)))), (.v (.c .any)), (.v (.g [(.d (.int .i64) (.v 47)), (.d (.int .i64) (.v 48)), (.d (.int .i64) (.v 49)), (.d (.lst shM) (.v 50)), (.d (.lst shM) (.v 51)), (.d (.int .i64) (.v 52)), (.d (.int .i64) (.v 53)), (.d (.lst shM) (.v 54))])), (.v (.c (.d (.int .i64) (.v 78)))), (.v (.c .any)), (.v (.g [(.d (.int .i64) (.v 79)), (.d (.int .i64) (.v 80)), (.d (.int .i64) (.v 81)), (.d (.lst shM) (.v 82)), (.d (.lst shM) (.v 83)), (.d (.int .i64) (.v 84)), (.d (.int .i64) (.v 85)), (.d (.lst shM) (.v 86))])), (.v (.c (.d (.lst shM) (.v 87)))), (.v (.c (.d (.lst shM) (.v 88)))), (.v (.c (.d (.int .i64) (.v 76)))), (.v (.c (.d (.lst shM) (.v 88)))), (.v (.c (.d (.int .i64) (.len (.v 88))))), (.v (.c (.d (.int .i64) (.ar .add .i64 (.v 76) (.len (.v 88)))))), (.v (.c .any)), (.v (.g [(.d (.int .i64) (.v 63)), (.d (.int .i64) (.v 64)), (.d .bool (.v 65)), (.d (.int .i64) (.v 66)), (.d (.lst [(.int .i64)]) (.v 67)), (.d (.lst [(.int .i64), (.lst [(.int .u8)])]) (.v 68))])), (.v (.c (.d (.lst shM) (.v 87)))), (.v (.c .any)), (.v (.g [(.d (.int .i64) (.v 89)), (.d (.int .i64) (.v 90)), (.d .bool (.v 91)), (.d (.int .i64) (.v 92)), (.d (.lst [(.int .i64)]) (.v 93)), (.d (.lst [(.int .i64), (.lst [(.int .u8)])]) (.v 94))])), (.v (.c (.d .bool (.v 95)))), (.v (.c (.d .bool (.v 95)))), (.v (.c (.d .bool (.not (.v 95))))), (.v (.c .any)), (.v (.g [(.d (.int .i64) (.v 89)), (.d (.int .i64) (.v 90)), (.d .bool (.v 91)), (.d (.int .i64) (.v 92)), (.d (.lst [(.int .i64)]) (.v 93)), (.d (.lst [(.int .i64), (.lst [(.int .u8)])]) (.v 94))])), (.v (.c .any)), (.v (.g [(.d (.int .i64) (.v 96)), (.d (.int .i64) (.v 97)), (.d .bool (.v 98)), (.d (.int .i64) (.v 99)), (.d (.lst [(.int .i64)]) (.v 100)), (.d (.lst [(.int .i64), (.lst [(.int .u8)])]) (.v 101))])), (.v (.c (.d (.lst [(.lst [(.int .u8)])]) (.v 102)))), (.v (.c (.d (.lst [(.lst [(.int .u8)])]) (.v 102)))), (.v (.c (.d (.int .i64) (.len (.v 102))))), (.v (.c (.d (.int .i64) (.v 120)))) ] ++ an 97, blks := [(.cells [(.d (.int .i64) (.v 79)), (.d (.int .i64) (.v 80)), (.d (.int .i64) (.v 81)), (.d (.lst shM) (.v 82)), (.d (.lst shM) (.v 83)), (.d (.int .i64) (.v 84)), (.d (.int .i64) (.v 85)), (.d (.lst shM) (.v 86))]), (.cells [(.d (.int .i64) (.v 103)), (.d (.int .i64) (.v 104)), (.d (.int .i64) (.v 105)), (.d (.lst shM) (.v 106)), (.d (.lst shM) (.v 107)), (.d (.int .i64) (.v 108)), (.d (.int .i64) (.v 109)), (.d (.lst shM) (.v 110))]), (.cells [(.d (.int .i64) (.v 96)), (.d (.int .i64) (.v 97)), (.d .bool (.v 98)), (.d (.int .i64) (.v 99)), (.d (.lst [(.int .i64)]) (.v 100)), (.d (.lst [(.int .i64), (.lst [(.int .u8)])]) (.v 101))]), (.cells [(.d (.int .i64) (.v 111)), (.d (.int .i64) (.v 112)), (.d .bool (.v 113)), (.d (.int .i64) (.v 114)), (.d (.lst [(.int .i64)]) (.v 115)), (.d (.lst [(.int .i64), (.lst [(.int .u8)])]) (.v 116))])], shs := [(.int .i64), (.int .i64), (.int .i64), (.lst shM), (.lst shM), (.int .i64), (.int .i64), (.lst shM), (.int .i64), (.int .i64), .bool, (.int .i64), (.lst [(.int .i64)]), (.lst [(.int .i64), (.lst [(.int .u8)])]), .bool, (.int .i64), .bool, (.int .i64)], rs := [], bs := [], fz := [] },
{ kind := true, id := 39, nv := 158, tmps := [(.v (.c (.d (.int .u8) (.v 0)))), (.v (.c (.d (.int .u8) (.v 1)))), (.v (.c (.d (.lst [(.int .i64)]) (.v 2)))), (.v (.c (.d (.lst [(.int .i64)]) (.v 3)))) ] ++ an 4 ++ [(.v (.c (.d .bool (.v 167)))), (.v (.c (.ptr 0 0))), (.v (.c (.d (.int .i64) (.v 45)))), (.v (.c (.ptr 1 0))), (.v (.c (.d (.int .i64) (.v 21)))), (.v (.c (.ptr 2 0))), (.v (.c (.d (.int .i64) (.v 28)))), (.v (.c (.ptr 3 0))), (.v (.c (.d (.int .i64) (.v 35)))), (.v (.c (.d (.int .i64) (.ar .add .i64 (.v 76) (.len (.v 88)))))), (.v (.c (.d (.int .i64) (.v 168)))), (.v (.c (.d (.int .i64) (.v 78)))), (.v (.c (.d (.lst shM) (.v 87)))), (.v (.c (.d (.lst shM) (.v 88)))), (.v (.c (.d .bool (.v 119)))), (.v (.c (.d (.lst [(.lst [(.int .u8)])]) (.v 102)))), (.v (.c .any)), (.v (.c (.d (.lst [(.int .u8)]) (.get (.v 102) (.v 120))))), (.v (.c (.ptr 4 0))), (.v (.c (.d (.int .i64) (.v 169)))), (.v (.c (.d (.lst shM) (.v 156)))), (.v (.c (.row 5 shM (.len (.v 166))))) ] ++ an 8 ++ [(.v (.c (.d (.int .u8) (.v 0)))), (.v (.c (.d .bool (.cmp .gtr (.v 0) (.ki .u8 10))))), (.v (.c (.d .bool (.cmp .gtr (.v 0) (.ki .u8 10))))), (.v (.c (.d (.lst [(.int .i64)]) (.v 2)))), (.v (.c (.d (.int .i64) (.len (.v 2))))), (.v (.c (.d .bool (.cmp .gtr (.len (.v 2)) (.ki .i64 30))))), (.v (.c (.d .bool (.cmp .gtr (.len (.v 2)) (.ki .i64 30))))), (.v (.c (.d .bool (.cmp .gtr (.len (.v 2)) (.ki .i64 30))))), (.v (.c (.d (.lst [(.int .i64)]) (.v 3)))), (.v (.c (.d (.int .i64) (.len (.v 3))))), (.v (.c (.d .bool (.cmp .gtr (.len (.v 3)) (.ki .i64 30))))), (.v (.c (.d .bool (.cmp .gtr (.len (.v 3)) (.ki .i64 30))))), (.v (.c .any)), (.v (.c .any)), (.v (.g [(.d (.int .i64) (.v 4)), (.d (.int .i64) (.v 5)), (.d (.int .i64) (.v 6)), (.d (.lst shM) (.v 7)), (.d (.lst shM) (.v 8)), (.d (.int .i64) (.v 9)), (.d (.int .i64) (.v 10)), (.d (.lst shM) (.v 11))])), (.v (.c (.d (.int .i64) (.v 12)))), (.v (.c .any)), (.v (.c .any)), (.v (.g [(.d (.int .i64) (.v 13)), (.d (.int .i64) (.v 14)), (.d (.int .i64) (.v 15)), (.d (.lst shM) (.v 16)), (.d (.lst shM) (.v 17)), (.d (.int .i64) (.v 18)), (.d (.int .i64) (.v 19)), (.d (.lst shM) (.v 20))])), (.v (.c (.d (.int .i64) (.v 21)))), (.v (.c .any)), (.v (.c (.d (.int .u8) (.v 1)))), (.v (.c (.d (.int .i64) (.conv .i64 (.v 1))))), (.v (.c (.d (.int .i64) (.ar .rem .i64 (.conv .i64 (.v 1)) (.ki .i64 3))))), (.v (.c (.d (.int .i64) (.ar .add .i64 (.ar .rem .i64 (.conv .i64 (.v 1)) (.ki .i64 3)) (.ki .i64 1))))), (.v (.c (.d (.lst [(.int .i64)]) (.v 2)))), (.v (.c .any)), (.v (.g [(.d (.int .i64) (.v 22)), (.d (.int .i64) (.v 23)), (.d .bool (.v 24)), (.d (.int .i64) (.v 25)), (.d (.lst [(.int .i64)]) (.v 26)), (.d (.lst [(.int .i64), (.lst [(.int .u8)])]) (.v 27))])), (.v (.c (.d (.int .i64) (.v 28)))), (.v (.c .any)), (.v (.c (.d (.int .u8) (.v 1)))), (.v (.c (.d (.int .i64) (.conv .i64 (.v 1))))), (.v (.c (.d (.int .i64) (.ar .rem .i64 (.conv .i64 (.v 1)) (.ki .i64 3))))), (.v (.c (.d (.int .i64) (.ar .add .i64 (.ar .rem .i64 (.conv .i64 (.v 1)) (.ki .i64 3)) (.ki .i64 1))))), (.v (.c (.d (.lst [(.int .i64)]) (.v 3)))), (.v (.c .any)), (.v (.g [(.d (.int .i64) (.v 29)), (.d (.int .i64) (.v 30)), (.d .bool (.v 31)), (.d (.int .i64) (.v 32)), (.d (.lst [(.int .i64)]) (.v 33)), (.d (.lst [(.int .i64), (.lst [(.int .u8)])]) (.v 34))])), (.v (.c (.d (.int .i64) (.v 35)))), (.v (.c (.d (.int .i64) (.v 12)))), (.v (.c (.d .bool (.cmp .neq (.v 12) (.ki .i64 0))))), (.v (.c (.d .bool (.cmp .neq (.v 12) (.ki .i64 0))))), (.v (.c (.d (.int .i64) (.v 21)))), (.v (.c (.d .bool (.cmp .neq (.v 21) (.ki .i64 0))))), (.v (.c (.d .bool (.cmp .neq (.v 21) (.ki .i64 0))))), (.v (.c (.d (.int .i64) (.v 28)))), (.v (.c (.d .bool (.cmp .neq (.v 28) (.ki .i64 0))))), (.v (.c (.d .bool (.cmp .neq (.v 28) (.ki .i64 0))))), (.v (.c (.d (.int .i64) (.v 35)))), (.v (.c (.d .bool (.cmp .neq (.v 35) (.ki .i64 0))))), (.v (.c (.d .bool (.cmp .neq (.v 35) (.ki .i64 0))))), (.v (.c (.d (.int .u8) (.v 0)))), (.v (.c (.d (.int .u8) (.v 46)))), (.v (.c (.d .bool (.cmp .lss (.v 46) (.v 0))))) ] ++ an 10 ++ [(.v (.c (.d (.int .i64) (.v 78)))), (.v (.c (.d .bool (.cmp .lss (.v 78) (.ki .i64 200))))), (.v (.c (.d (.int .i64) (.v 78)))), (.v (.c .any)), (.v (.g [(.d (.int .i64) (.v 47)), (.d (.int .i64) (.v 48)), (.d (.int .i64) (.v 49)), (.d (.lst shM) (.v 50)), (.d (.lst shM) (.v 51)), (.d (.int .i64) (.v 52)), (.d (.int .i64) (.v 53)), (.d (.lst shM) (.v 54))])), (.v (.c (.d (.int .i64) (.v 78)))), (.v (.c .any)), (.v (.g [(.d (.int .i64) (.v 79)), (.d (.int .i64) (.v 80)), (.d (.int .i64) (.v 81)), (.d (.lst shM) (.v 82)), (.d (.lst shM) (.v 83)), (.d (.int .i64) (.v 84)), (.d (.int .i64) (.v 85)), (.d (.lst shM) (.v 86))])), (.v (.c (.d (.lst shM) (.v 87)))), (.v (.c (.d (.lst shM) (.v 88)))), (.v (.c (.d (.int .i64) (.v 76)))), (.v (.c (.d (.lst shM) (.v 88)))), (.v (.c (.d (.int .i64) (.len (.v 88))))), (.v (.c (.d (.int .i64) (.ar .add .i64 (.v 76) (.len (.v 88)))))), (.v (.c .any)), (.v (.g [(.d (.int .i64) (.v 63)), (.d (.int .i64) (.v 64)), (.d .bool (.v 65)), (.d (.int .i64) (.v 66)), (.d (.lst [(.int .i64)]) (.v 67)), (.d (.lst [(.int .i64), (.lst [(.int .u8)])]) (.v 68))])), (.v (.c (.d (.lst shM) (.v 87)))), (.v (.c .any)), (.v (.g [(.d (.int .i64) (.v 89)), (.d (.int .i64) (.v 90)), (.d .bool (.v 91)), (.d (.int .i64) (.v 92)), (.d (.lst [(.int .i64)]) (.v 93)), (.d (.lst [(.int .i64), (.lst [(.int .u8)])]) (.v 94))])), (.v (.c (.d .bool (.v 95)))), (.v (.c (.d .bool (.v 95)))), (.v (.c (.d .bool (.not (.v 95))))), (.v (.c .any)), (.v (.g [(.d (.int .i64) (.v 89)), (.d (.int .i64) (.v 90)), (.d .bool (.v 91)), (.d (.int .i64) (.v 92)), (.d (.lst [(.int .i64)]) (.v 93)), (.d (.lst [(.int .i64), (.lst [(.int .u8)])]) (.v 94))])), (.v (.c .any)), (.v (.g [(.d (.int .i64) (.v 96)), (.d (.int .i64) (.v 97)), (.d .bool (.v 98)), (.d (.int .i64) (.v 99)), (.d (.lst [(.int .i64)]) (.v 100)), (.d (.lst [(.int .i64), (.lst [(.int .u8)])]) (.v 101))])), (.v (.c (.d (.lst [(.lst [(.int .u8)])]) (.v 102)))), (.v (.c (.d (.lst [(.lst [(.int .u8)])]) (.v 102)))), (.v (.c (.d (.int .i64) (.len (.v 102))))), (.v (.c (.d (.int .i64) (.v 120)))), (.v (.c (.d .bool (.cmp .lss (.v 120) (.len (.v 102)))))), (.v (.c (.elem [(.lst [(.int .u8)])] (.get (.v 102) (.v 120)) 0))), (.v (.c (.d (.lst [(.int .u8)]) (.get (.v 102) (.v 120))))), (.v (.c .any)), (.v (.c (.d (.lst [(.int .u8)]) (.get (.v 102) (.v 120))))), (.v (.c .any)), (.v (.g [(.d (.int .i64) (.v 121)), (.d (.int .i64) (.v 122)), (.d (.int .i64) (.v 123)), (.d (.int .i64) (.v 124)), (.d (.int .i64) (.v 125)), (.d (.int .i64) (.v 126)), (.d (.int .i64) (.v 127)), (.d (.int .i64) (.v 128)), (.d .str (.v 129)), (.d .str (.v 130)), (.d .str (.v 131)), (.d .bool (.v 132)), (.d (.lst [(.int .i64), (.int .i64)]) (.v 133)), (.d (.int .i64) (.v 134)), (.d (.int .i64) (.v 135)), (.d (.int .i64) (.v 136)), (.d (.int .i64) (.v 137)), (.d (.int .i64) (.v 138)), (.d .str (.v 139)), (.d (.int .i64) (.v 140)), (.d (.int .i64) (.v 141)), (.d (.int .i64) (.v 142)), (.d (.int .i64) (.v 143)), (.d (.lst [(.int .i64), (.int .i64)]) (.v 144)), (.d (.lst [.str, .str, .str, (.int .i64), (.int .i64), (.int .i64)]) (.v 145))])), (.v (.c (.d (.int .i64) (.v 146)))), (.v (.c (.d (.int .i64) (.v 146)))), (.v (.c (.d .bool (.cmp .neq (.v 146) (.ki .i64 0))))), (.v (.c .any)), (.v (.g [(.d (.int .i64) (.v 103)), (.d (.int .i64) (.v 104)), (.d (.int .i64) (.v 105)), (.d (.lst shM) (.v 106)), (.d (.lst shM) (.v 107)), (.d (.int .i64) (.v 108)), (.d (.int .i64) (.v 109)), (.d (.lst shM) (.v 110))])), (.v (.g [(.d (.int .i64) (.v 121)), (.d (.int .i64) (.v 122)), (.d (.int .i64) (.v 123)), (.d (.int .i64) (.v 124)), (.d (.int .i64) (.v 125)), (.d (.int .i64) (.v 126)), (.d (.int .i64) (.v 127)), (.d (.int .i64) (.v 128)), (.d .str (.v 129)), (.d .str (.v 130)), (.d .str (.v 131)), (.d .bool (.v 132)), (.d (.lst [(.int .i64), (.int .i64)]) (.v 133)), (.d (.int .i64) (.v 134)), (.d (.int .i64) (.v 135)), (.d (.int .i64) (.v 136)), (.d (.int .i64) (.v 137)), (.d (.int .i64) (.v 138)), (.d .str (.v 139)), (.d (.int .i64) (.v 140)), (.d (.int .i64) (.v 141)), (.d (.int .i64) (.v 142)), (.d (.int .i64) (.v 143)), (.d (.lst [(.int .i64), (.int .i64)]) (.v 144)), (.d (.lst [.str, .str, .str, (.int .i64), (.int .i64), (.int .i64)]) (.v 145))])), (.v (.c .any)), (.v (.g [(.d (.int .i64) (.v 147)), (.d (.int .i64) (.v 148)), (.d (.int .i64) (.v 149)), (.d (.lst shM) (.v 150)), (.d (.lst shM) (.v 151)), (.d (.int .i64) (.v 152)), (.d (.int .i64) (.v 153)), (.d (.lst shM) (.v 154))])), (.v (.c (.d (.lst shM) (.v 155)))), (.v (.c (.d (.lst shM) (.v 156)))), (.v (.c .any)), (.v (.c (.d (.lst shM) (.v 156)))), (.v (.c (.d (.int .i64) (.len (.v 156))))), (.v (.c (.d (.int .i64) (.v 170)))) ] ++ an 76, blks := [(.cells [(.d (.int .i64) (.v 79)), (.d (.int .i64) (.v 80)), (.d (.int .i64) (.v 81)), (.d (.lst shM) (.v 82)), (.d (.lst shM) (.v 83)), (.d (.int .i64) (.v 84)), (.d (.int .i64) (.v 85)), (.d (.lst shM) (.v 86))]), (.cells [(.d (.int .i64) (.v 158)), (.d (.int .i64) (.v 159)), (.d (.int .i64) (.v 160)), (.d (.lst shM) (.v 161)), (.d (.lst shM) (.v 162)), (.d (.int .i64) (.v 163)), (.d (.int .i64) (.v 164)), (.d (.lst shM) (.v 165))]), (.cells [(.d (.int .i64) (.v 96)), (.d (.int .i64) (.v 97)), (.d .bool (.v 98)), (.d (.int .i64) (.v 99)), (.d (.lst [(.int .i64)]) (.v 100)), (.d (.lst [(.int .i64), (.lst [(.int .u8)])]) (.v 101))]), (.cells [(.d (.int .i64) (.v 111)), (.d (.int .i64) (.v 112)), (.d .bool (.v 113)), (.d (.int .i64) (.v 114)), (.d (.lst [(.int .i64)]) (.v 115)), (.d (.lst [(.int .i64), (.lst [(.int .u8)])]) (.v 116))]), (.cells [(.d (.int .i64) (.v 121)), (.d (.int .i64) (.v 122)), (.d (.int .i64) (.v 123)), (.d (.int .i64) (.v 124)), (.d (.int .i64) (.v 125)), (.d (.int .i64) (.v 126)), (.d (.int .i64) (.v 127)), (.d (.int .i64) (.v 128)), (.d .str (.v 129)), (.d .str (.v 130)), (.d .str (.v 131)), (.d .bool (.v 132)), (.d (.lst [(.int .i64), (.int .i64)]) (.v 133)), (.d (.int .i64) (.v 134)), (.d (.int .i64) (.v 135)), (.d (.int .i64) (.v 136)), (.d (.int .i64) (.v 137)), (.d (.int .i64) (.v 138)), (.d .str (.v 139)), (.d (.int .i64) (.v 140)), (.d (.int .i64) (.v 141)), (.d (.int .i64) (.v 142)), (.d (.int .i64) (.v 143)), (.d (.lst [(.int .i64), (.int .i64)]) (.v 144)), (.d (.lst [.str, .str, .str, (.int .i64), (.int .i64), (.int .i64)]) (.v 145))]), (.row shM (.v 166) false)], shs := [(.int .i64), (.int .i64), (.int .i64), (.lst shM), (.lst shM), (.int .i64), (.int .i64), (.lst shM), (.lst shM), .bool, (.int .i64), (.int .i64), (.int .i64)], rs := [], bs := [], fz := [] },
{ kind := true, id := 56, nv := 128, tmps := [(.v (.c (.d (.int .u8) (.v 0)))), (.v (.c (.d (.int .u8) (.v 1)))), (.v (.c (.d (.lst [(.int .i64)]) (.v 2)))), (.v (.c (.d (.lst [(.int .i64)]) (.v 3)))) ] ++ an 4 ++ [(.v (.c (.d .bool (.v 136)))), (.v (.c (.ptr 0 0))), (.v (.c (.d (.int .i64) (.v 45)))), (.v (.c (.ptr 1 0))), (.v (.c (.d (.int .i64) (.v 21)))), (.v (.c (.ptr 2 0))), (.v (.c (.d (.int .i64) (.v 28)))), (.v (.c (.ptr 3 0))), (.v (.c (.d (.int .i64) (.v 35)))), (.v (.c (.d (.int .i64) (.v 137)))), (.v (.c (.d (.int .i64) (.v 118)))), (.v (.c (.d (.int .i64) (.v 78)))), (.v (.c (.d (.lst shM) (.v 87)))), (.v (.c (.d (.lst shM) (.v 88)))), (.v (.c (.d .bool (.v 119)))), (.v (.c (.d (.lst [(.lst [(.int .u8)])]) (.v 127)))) ] ++ an 14 ++ [(.v (.c (.d (.int .u8) (.v 0)))), (.v (.c (.d .bool (.cmp .gtr (.v 0) (.ki .u8 10))))), (.v (.c (.d .bool (.cmp .gtr (.v 0) (.ki .u8 10))))), (.v (.c (.d (.lst [(.int .i64)]) (.v 2)))), (.v (.c (.d (.int .i64) (.len (.v 2))))), (.v (.c (.d .bool (.cmp .gtr (.len (.v 2)) (.ki .i64 30))))), (.v (.c (.d .bool (.cmp .gtr (.len (.v 2)) (.ki .i64 30))))), (.v (.c (.d .bool (.cmp .gtr (.len (.v 2)) (.ki .i64 30))))), (.v (.c (.d (.lst [(.int .i64)]) (.v 3)))), (.v (.c (.d (.int .i64) (.len (.v 3))))), (.v (.c (.d .bool (.cmp .gtr (.len (.v 3)) (.ki .i64 30))))), (.v (.c (.d .bool (.cmp .gtr (.len (.v 3)) (.ki .i64 30))))), (.v (.c .any)), (.v (.c .any)), (.v (.g [(.d (.int .i64) (.v 4)), (.d (.int .i64) (.v 5)), (.d (.int .i64) (.v 6)), (.d (.lst shM) (.v 7)), (.d (.lst shM) (.v 8)), (.d (.int .i64) (.v 9)), (.d (.int .i64) (.v 10)), (.d (.lst shM) (.v 11))])), (.v (.c (.d (.int .i64) (.v 12)))), (.v (.c .any)), (.v (.c .any)), (.v (.g [(.d (.int .i64) (.v 13)), (.d (.int .i64) (.v 14)), (.d (.int .i64) (.v 15)), (.d (.lst shM) (.v 16)), (.d (.lst shM) (.v 17)), (.d (.int .i64) (.v 18)), (.d (.int .i64) (.v 19)), (.d (.lst shM) (.v 20))])), (.v (.c (.d (.int .i64) (.v 21)))), (.v (.c .any)), (.v (.c (.d (.int .u8) (.v 1)))), (.v (.c (.d (.int .i64) (.conv .i64 (.v 1))))), (.v (.c (.d (.int .i64) (.ar .rem .i64 (.conv .i64 (.v 1)) (.ki .i64 3))))), (.v (.c (.d (.int .i64) (.ar .add .i64 (.ar .rem .i64 (.conv .i64 (.v 1)) (.ki .i64 3)) (.ki .i64 1))))), (.v (.c (.d (.lst [(.int .i64)]) (.v 2)))), (.v (.c .any)), (.v (.g [(.d (.int .i64) (.v 22)), (.d (.int .i64) (.v 23)), (.d .bool (.v 24)), (.d (.int .i64) (.v 25)), (.d (.lst [(.int .i64)]) (.v 26)), (.d (.lst [(.int .i64), (.lst [(.int .u8)])]) (.v 27))])), (.v (.c (.d (.int .i64) (.v 28)))), (.v (.c .any)), (.v (.c (.d (.int .u8) (.v 1)))), (.v (.c (.d (.int .i64) (.conv .i64 (.v 1))))), (.v (.c (.d (.int .i64) (.ar .rem .i64 (.conv .i64 (.v 1)) (.ki .i64 3))))), (.v (.c (.d (.int .i64) (.ar .add .i64 (.ar .rem .i64 (.conv .i64 (.v 1)) (.ki .i64 3)) (.ki .i64 1))))), (.v (.c (.d (.lst [(.int .i64)]) (.v 3)))), (.v (.c .any)), (.v (.g [(.d (.int .i64) (.v 29)), (.d (.int .i64) (.v 30)), (.d .bool (.v 31)), (.d (.int .i64) (.v 32)), (.d (.lst [(.int .i64)]) (.v 33)), (.d (.lst [(.int .i64), (.lst [(.int .u8)])]) (.v 34))])), (.v (.c (.d (.int .i64) (.v 35)))), (.v (.c (.d (.int .i64) (.v 12)))), (.v (.c (.d .bool (.cmp .neq (.v 12) (.ki .i64 0))))), (.v (.c (.d .bool (.cmp .neq (.v 12) (.ki .i64 0))))), (.v (.c (.d (.int .i64) (.v 21)))), (.v (.c (.d .bool (.cmp .neq (.v 21) (.ki .i64 0))))), (.v (.c (.d .bool (.cmp .neq (.v 21) (.ki .i64 0))))), (.v (.c (.d (.int .i64) (.v 28)))), (.v (.c (.d .bool (.cmp .neq (.v 28) (.ki .i64 0))))), (.v (.c (.d .bool (.cmp .neq (.v 28) (.ki .i64 0))))), (.v (.c (.d (.int .i64) (.v 35)))), (.v (.c (.d .bool (.cmp .neq (.v 35) (.ki .i64 0))))), (.v (.c (.d .bool (.cmp .neq (.v 35) (.ki .i64 0))))), (.v (.c (.d (.int .u8) (.v 0)))), (.v (.c (.d (.int .u8) (.v 46)))), (.v (.c (.d .bool (.cmp .lss (.v 46) (.v 0))))) ] ++ an 10 ++ [(.v (.c (.d (.int .i64) (.v 78)))), (.v (.c (.d .bool (.cmp .lss (.v 78) (.ki .i64 200))))), (.v (.c (.d (.int .i64) (.v 78)))), (.v (.c .any)), (.v (.g [(.d (.int .i64) (.v 47)), (.d (.int .i64) (.v 48)), (.d (.int .i64) (.v 49)), (.d (.lst shM) (.v 50)), (.d (.lst shM) (.v 51)), (.d (.int .i64) (.v 52)), (.d (.int .i64) (.v 53)), (.d (.lst shM) (.v 54))])), (.v (.c (.d (.int .i64) (.v 78)))), (.v (.c .any)), (.v (.g [(.d (.int .i64) (.v 79)), (.d (.int .i64) (.v 80)), (.d (.int .i64) (.v 81)), (.d (.lst shM) (.v 82)), (.d (.lst shM) (.v 83)), (.d (.int .i64) (.v 84)), (.d (.int .i64) (.v 85)), (.d (.lst shM) (.v 86))])), (.v (.c (.d (.lst shM) (.v 87)))), (.v (.c (.d (.lst shM) (.v 88)))), (.v (.c (.d (.int .i64) (.v 76)))), (.v (.c (.d (.lst shM) (.v 88)))), (.v (.c (.d (.int .i64) (.len (.v 88))))), (.v (.c (.d (.int .i64) (.ar .add .i64 (.v 76) (.len (.v 88)))))), (.v (.c .any)), (.v (.g [(.d (.int .i64) (.v 63)), (.d (.int .i64) (.v 64)), (.d .bool (.v 65)), (.d (.int .i64) (.v 66)), (.d (.lst [(.int .i64)]) (.v 67)), (.d (.lst [(.int .i64), (.lst [(.int .u8)])]) (.v 68))])), (.v (.c (.d (.lst shM) (.v 87)))), (.v (.c .any)), (.v (.g [(.d (.int .i64) (.v 89)), (.d (.int .i64) (.v 90)), (.d .bool (.v 91)), (.d (.int .i64) (.v 92)), (.d (.lst [(.int .i64)]) (.v 93)), (.d (.lst [(.int .i64), (.lst [(.int .u8)])]) (.v 94))])), (.v (.c (.d .bool (.v 95)))), (.v (.c (.d .bool (.v 95)))), (.v (.c (.d .bool (.not (.v 95))))), (.v (.c .any)), (.v (.g [(.d (.int .i64) (.v 89)), (.d (.int .i64) (.v 90)), (.d .bool (.v 91)), (.d (.int .i64) (.v 92)), (.d (.lst [(.int .i64)]) (.v 93)), (.d (.lst [(.int .i64), (.lst [(.int .u8)])]) (.v 94))])), (.v (.c .any)), (.v (.g [(.d (.int .i64) (.v 96)), (.d (.int .i64) (.v 97)), (.d .bool (.v 98)), (.d (.int .i64) (.v 99)), (.d (.lst [(.int .i64)]) (.v 100)), (.d (.lst [(.int .i64), (.lst [(.int .u8)])]) (.v 101))])), (.v (.c (.d (.lst [(.lst [(.int .u8)])]) (.v 102)))), (.v (.c (.d (.lst [(.lst [(.int .u8)])]) (.v 102)))), (.v (.c (.d (.int .i64) (.len (.v 102))))), (.v (.c (.d (.int .i64) (.v 120)))), (.v (.c (.d .bool (.cmp .lss (.v 120) (.len (.v 102)))))) ] ++ an 54 ++ [(.v (.g [(.d (.int .i64) (.v 111)), (.d (.int .i64) (.v 112)), (.d .bool (.v 113)), (.d (.int .i64) (.v 114)), (.d (.lst [(.int .i64)]) (.v 115)), (.d (.lst [(.int .i64), (.lst [(.int .u8)])]) (.v 116))])), (.v (.c .any)), (.v (.g [(.d (.int .i64) (.v 121)), (.d (.int .i64) (.v 122)), (.d .bool (.v 123)), (.d (.int .i64) (.v 124)), (.d (.lst [(.int .i64)]) (.v 125)), (.d (.lst [(.int .i64), (.lst [(.int .u8)])]) (.v 126))])), (.v (.c (.d (.lst [(.lst [(.int .u8)])]) (.v 127)))), (.v (.c (.d (.lst [(.lst [(.int .u8)])]) (.v 127)))), (.v (.c (.d (.int .i64) (.len (.v 127))))), (.v (.c (.d (.int .i64) (.v 138)))) ] ++ an 35, blks := [(.cells [(.d (.int .i64) (.v 128)), (.d (.int .i64) (.v 129)), (.d (.int .i64) (.v 130)), (.d (.lst shM) (.v 131)), (.d (.lst shM) (.v 132)), (.d (.int .i64) (.v 133)), (.d (.int .i64) (.v 134)), (.d (.lst shM) (.v 135))]), (.cells [(.d (.int .i64) (.v 103)), (.d (.int .i64) (.v 104)), (.d (.int .i64) (.v 105)), (.d (.lst shM) (.v 106)), (.d (.lst shM) (.v 107)), (.d (.int .i64) (.v 108)), (.d (.int .i64) (.v 109)), (.d (.lst shM) (.v 110))]), (.cells [(.d (.int .i64) (.v 96)), (.d (.int .i64) (.v 97)), (.d .bool (.v 98)), (.d (.int .i64) (.v 99)), (.d (.lst [(.int .i64)]) (.v 100)), (.d (.lst [(.int .i64), (.lst [(.int .u8)])]) (.v 101))]), (.cells [(.d (.int .i64) (.v 121)), (.d (.int .i64) (.v 122)), (.d .bool (.v 123)), (.d (.int .i64) (.v 124)), (.d (.lst [(.int .i64)]) (.v 125)), (.d (.lst [(.int .i64), (.lst [(.int .u8)])]) (.v 126))])], shs := [(.int .i64), (.int .i64), (.int .i64), (.lst shM), (.lst shM), (.int .i64), (.int .i64), (.lst shM), .bool, (.int .i64), (.int .i64)], rs := [], bs := [], fz := [] }]
theorem law_ent : EntOK Try.prog [] ⟨3, [(.c (.int .u8)), (.c (.int .u8)), (.c (.lst [(.int .i64)])), (.c (.lst [(.int .i64)]))], [(.c .bool)], vclaw⟩ :=
  ent_of_genH hP Try.func3 rfl (by decide) (jn := []) (hd := hdlaw) (sg := sgs) (by kernel_rfl)

end Go.Proofs.Ytindphofgojfbaa.V14
set_option maxRecDepth 100000
set_option linter.unusedSimpArgs false
set_option linter.unusedVariables false
namespace Go.Proofs.Ytindphofgojfbaa.C14
open Go.Proofs.Ytindphofgojfbaa Go.Proofs.Ytindphofgojfbaa.Sy Go.Proofs.Ytindphofgojfbaa.L7 Go.Proofs.Ytindphofgojfbaa.Id Go.Proofs.Ytindphofgojfbaa.R26 Go.Proofs.Ytindphofgojfbaa.V26 Go.Proofs.Ytindphofgojfbaa.N27 Go.Proofs.Ytindphofgojfbaa.C27 Go.Proofs.Ytindphofgojfbaa.O14 Go.Proofs.Ytindphofgojfbaa.V14 Go.RowKit Go.WideShapes Go.ChangeShapes Go.ChangeAt
abbrev pkD (p : Int × List Int) : D := .rc [I64d p.1, bD p.2]
abbrev pksD (l : List (Int × List Int)) : D := .lst (l.map pkD)
structure Lk where
  nw : Int
  de : Int
  cu : Bool
  cn : Int
  lo : List Int
  bx : List (Int × List Int)
abbrev lkL (l : Lk) : List D := [I64d l.nw, I64d l.de, .bool l.cu, I64d l.cn, isD l.lo, pksD l.bx]
abbrev lkD (l : Lk) : D := .rc (lkL l)
abbrev tLk : TS := .g [.int .i64, .int .i64, .bool, .int .i64, .lst [.int .i64], .lst [.int .i64, .lst [.int .u8]]]
abbrev tLh : TS := .h [.s (.int .i64), .s (.int .i64), .s .bool, .s (.int .i64), .r [.int .i64], .r [.int .i64, .lst [.int .u8]]]
abbrev tIs : TS := .c (.lst [.int .i64])
abbrev tY' : TS := .c (.lst [.int .u8])
def lk0 : Lk := ⟨0, 0, false, 0, [], []⟩
theorem clint_fn (l : List Int) (hl : l.length ≤ 4294967296) : Fun Try.prog [] 28 [tIs] [isD l] [.r [.int .i64]] (.ok [isD l]) := by
  refine clint_ent _ _ ?_
  show vcclint.den _ _ _ _ _
  unfold vcclint
  simp only [dF, dE]
  refine ⟨fun h => den_ret ?_, ?_⟩
  · simp only [dF, dE] at h
    have : l = [] := by simpa using h
    subst this
    rfl
  · refine den_ev (evs_ob (by simp only [dF, dE]; omega) (evs_nil (den_ret ?_)))
    simp only [dF, dE]
theorem clpkt_fn (l : List (Int × List Int)) (hl : l.length ≤ 4294967296) : Fun Try.prog [] 29 [.c (.lst [.int .i64, .lst [.int .u8]])] [pksD l] [.r [.int .i64, .lst [.int .u8]]] (.ok [pksD l]) := by
  refine clpkt_ent _ _ ?_
  show vcclpkt.den _ _ _ _ _
  unfold vcclpkt
  simp only [dF, dE]
  refine ⟨fun h => den_ret ?_, ?_⟩
  · simp only [dF, dE] at h
    have : l = [] := by simpa using h
    subst this
    rfl
  · refine den_ev (evs_ob (by simp only [dF, dE]; omega) (evs_nil (den_ret ?_)))
    simp only [dF, dE]
theorem clbyt_fn (l : List Int) (hl : l.length ≤ 4294967296) : Fun Try.prog [] 22 [tY'] [bD l] [tY'] (.ok [bD l]) := by
  refine clbyt_ent _ _ ?_
  show vcclbyt.den _ _ _ _ _
  unfold vcclbyt
  simp only [dF, dE]
  refine ⟨fun h => den_ret ?_, ?_⟩
  · simp only [dF, dE] at h
    have : l = [] := by simpa using h
    subst this
    rfl
  · refine den_ev (evs_ob (by simp only [dF, dE]; omega) (evs_nil (den_ret ?_)))
    simp only [dF, dE]
structure LkB (l : Lk) : Prop where
  lo : l.lo.length ≤ 1000
  bx : l.bx.length ≤ 1000
  pk : ∀ p ∈ l.bx, p.2.length ≤ 8198
theorem setc_same {l : List (Int × List Int)} {i : Nat} (h : i < l.length) : (l.map pkD).modify i (D.setc 1 (bD (l.getD i (0, [])).2)) = l.map pkD := by
  apply List.ext_getElem?
  intro j
  rw [List.getElem?_modify]
  by_cases hj : i = j
  · subst hj
    have : l.getD i (0, []) = l[i] := by simp [List.getD_eq_getElem?_getD, h]
    rw [this]
    simp [h, pkD, D.setc]
  · simp [hj]
theorem lcop_fn (l : Lk) (h : LkB l) : Fun Try.prog [] 16 [tLk] [lkD l] [tLh] (.ok [lkD l]) := by
  have h1 := h.lo
  have h2 := h.bx
  refine lcop_ent _ _ ?_
  show vclcop.den _ _ _ _ _
  unfold vclcop
  refine den_cal [isD l.lo] rfl (clint_fn l.lo (by omega)) rfl rfl ?_
  (try simp only [List.cons_append, List.nil_append])
  refine den_cal [pksD l.bx] rfl (clpkt_fn l.bx (by omega)) rfl rfl ?_
  (try simp only [List.cons_append, List.nil_append])
  refine den_loopI (fun xs => ∃ i : Nat, xs = [pksD l.bx, I64d i] ∧ i ≤ l.bx.length) (fun xs => l.bx.length - (xs.getD 1 default).toI.toNat) ⟨0, rfl, Nat.zero_le _⟩ ?_
  rintro _ ⟨i, rfl, hi⟩
  (try simp only [List.cons_append, List.nil_append])
  refine den_ite (fun h3 => ?_) (fun h3 => den_ret ?_)
  rotate_left
  · simp only [dF, dE]
  simp only [dF, dE] at h3
  have hi' : i < l.bx.length := by omega
  have hg := getD_map (g := pkD) (0, []) hi'
  have hpk := h.pk _ (by rw [List.getD_eq_getElem?_getD, List.getElem?_eq_getElem hi', Option.getD_some]; exact List.getElem_mem hi' : l.bx.getD i (0, []) ∈ l.bx)
  have hs := setc_same hi'
  generalize l.bx.getD i (0, []) = p at hg hpk hs
  have hw : IntKind.wrap .i64 ((i : Int) + 1) = ((i + 1 : Nat) : Int) := by rw [wrap_i64 (by omega) (by omega)]; omega
  refine den_ev (evs_ob (by simp only [dF, dE]; omega) (evs_ob (by simp only [dF, dE]; omega) (evs_nil ?_)))
  refine den_ev (evs_ob (by simp only [dF, dE]; omega) (evs_nil ?_))
  refine den_cal [bD p.2] rfl (clbyt_fn p.2 (by omega)) (by simp only [dF, dE]; rw [hg]; simp only [dF, dE]) rfl ?_
  (try simp only [List.cons_append, List.nil_append])
  refine den_ev (evs_ob (by simp only [dF, dE]; omega) (evs_ob (by simp only [dF, dE]; omega) (evs_ob (by simp only [dF, dE]; omega) (evs_nil ?_))))
  refine den_back rfl ⟨i + 1, ?_, by omega⟩ (by simp only []; simp only [dF, dE]; rw [hw]; omega)
  simp only [dF, dE]
  rw [hw, hs]
/-- the error of a list of packets to lose: p stands ahead -/
def losS : Int → List Int → Int
  | _, [] => 0
  | p, x :: l => if x < 0 then 2 else if x ≤ p then 1 else losS x l
def prvI (l : List Int) (i : Nat) : Int := if i = 0 then -1 else l.getD (i - 1) 0
theorem losS_step {l : List Int} {i : Nat} (h : i < l.length) : losS (prvI l i) (l.drop i) = if l.getD i 0 < 0 then 2 else if l.getD i 0 ≤ prvI l i then 1 else losS (prvI l (i + 1)) (l.drop (i + 1)) := by
  have e : l.drop i = l.getD i 0 :: l.drop (i + 1) := by rw [List.drop_eq_getElem_cons h]; simp [List.getD_eq_getElem?_getD, h]
  rw [e, losS]
  have : prvI l (i + 1) = l.getD i 0 := by unfold prvI; rw [if_neg (by omega)]; rfl
  rw [this]
theorem get_i {L : List Int} {i : Nat} (h : i < L.length) : (L.map I64d).getD i default = I64d (L.getD i 0) := by simp [List.getD_eq_getElem?_getD, h]
theorem lval_fn (de : Int) (lo : List Int) (h1 : 1 ≤ de) (h2 : de ≤ 60) (hl : lo.length ≤ 30) : Fun Try.prog [] 15 [tLk] [lkD ⟨0, de, false, 0, lo, []⟩] [tI] (.ok [I64d (losS (-1) lo)]) := by
  refine lval_ent _ _ ?_
  show vclval.den _ _ _ _ _
  unfold vclval
  refine den_f (by simp only [dF, dE]; omega) ?_
  refine den_f (by simp only [dF, dE]; omega) ?_
  refine den_f (by simp only [dF, dE]; omega) ?_
  refine den_f (by simp only [dF, dE]; omega) ?_
  refine den_f (by simp only [dF, dE]; omega) ?_
  refine den_f (by simp only [dF, dE]; omega) ?_
  refine den_f (by simp only [dF, dE]; omega) ?_
  refine den_loopI (fun xs => ∃ (z : Int) (i : Nat), xs = [I64d z, I64d i] ∧ i ≤ lo.length ∧ losS (prvI lo i) (lo.drop i) = losS (-1) lo) (fun xs => lo.length - (xs.getD 1 default).toI.toNat) ⟨0, 0, rfl, Nat.zero_le _, rfl⟩ ?_
  rintro _ ⟨z, i, rfl, hi, hs⟩
  (try simp only [List.cons_append, List.nil_append])
  have hw : IntKind.wrap .i64 ((i : Int) + 1) = ((i + 1 : Nat) : Int) := by rw [wrap_i64 (by omega) (by omega)]; omega
  refine den_ite (fun h3 => ?_) (fun h3 => ?_) <;> simp only [dF, dE] at h3
  · have hi' : i < lo.length := by omega
    have hg := get_i hi'
    rw [losS_step hi'] at hs
    refine den_ev (evs_ob (by simp only [dF, dE]; omega) (evs_ob (by simp only [dF, dE]; omega) (evs_nil ?_)))
    refine den_ite (fun h4 => ?_) (fun h4 => ?_) <;> simp only [dF, dE, hg] at h4
    · refine den_ret ?_
      simp only [dF, dE]
      rw [if_pos h4] at hs
      rw [← hs]
    rw [if_neg (by omega)] at hs
    refine den_ite (fun h5 => ?_) (fun h5 => ?_) <;> simp only [dF, dE] at h5
    · have hw1 : IntKind.wrap .i64 ((i : Int) - 1) = ((i - 1 : Nat) : Int) := by rw [wrap_i64 (by omega) (by omega)]; omega
      have hg1 := get_i (L := lo) (i := i - 1) (by omega)
      have hp : prvI lo i = lo.getD (i - 1) 0 := by unfold prvI; rw [if_neg (by omega)]
      rw [hp] at hs
      refine den_ev (evs_ob (by simp only [dF, dE]; rw [hw1]; omega) (evs_ob (by simp only [dF, dE]; rw [hw1]; omega) (evs_nil ?_)))
      refine den_ite (fun h6 => ?_) (fun h6 => ?_) <;> simp only [dF, dE, hw1, hg, hg1] at h6
      · refine den_ret ?_
        simp only [dF, dE]
        rw [if_pos h6] at hs
        rw [← hs]
      rw [if_neg (by omega)] at hs
      refine den_back rfl ⟨z, i + 1, (by simp only [dF, dE]; rw [hw]), by omega, hs⟩ (by simp only []; simp only [dF, dE]; rw [hw]; omega)
    · have h0 : i = 0 := by omega
      subst h0
      rw [if_neg (by show ¬ lo.getD 0 0 ≤ -1; omega)] at hs
      refine den_back rfl ⟨z, 0 + 1, (by simp only [dF, dE]; rw [hw]), by omega, hs⟩ (by simp only []; simp only [dF, dE]; rw [hw]; omega)
  · have e : i = lo.length := by omega
    subst e
    rw [List.drop_length] at hs
    refine den_f (by simp only [dF, dE]; omega) ?_
    refine den_loopI (fun xs => ∃ z : Int, xs = [I64d z, I64d 0]) (fun xs => 0) ⟨_, rfl⟩ ?_
    rintro _ ⟨z, rfl⟩
    (try simp only [List.cons_append, List.nil_append])
    refine den_f (by simp only [dF, dE]; omega) ?_
    refine den_ret ?_
    simp only [dF, dE]
    rw [← hs]
    rfl
def newL (de : Int) (lo : List Int) : Lk := if losS (-1) lo = 0 then ⟨0, de, false, 0, lo, []⟩ else lk0
theorem lnew_fn (de : Int) (lo : List Int) (h1 : 1 ≤ de) (h2 : de ≤ 60) (hl : lo.length ≤ 30) : Fun Try.prog [] 5 [tI, tIs] [I64d de, isD lo] [tLk, tI] (.ok [lkD (newL de lo), I64d (losS (-1) lo)]) := by
  refine lnew_ent _ _ ?_
  show vclnew.den _ _ _ _ _
  unfold vclnew
  refine den_cal [I64d (losS (-1) lo)] rfl (lval_fn de lo h1 h2 hl) rfl rfl ?_
  (try simp only [List.cons_append, List.nil_append])
  refine den_ite (fun h3 => ?_) (fun h3 => ?_) <;> simp only [dF, dE] at h3
  · refine den_ret ?_
    simp only [dF, dE]
    unfold newL
    rw [if_neg h3]
    rfl
  · have hB : LkB ⟨0, de, false, 0, lo, []⟩ := ⟨by show lo.length ≤ _; omega, Nat.zero_le _, fun p hp => by cases hp⟩
    refine den_cal (lkL ⟨0, de, false, 0, lo, []⟩) rfl (lcop_fn _ hB) rfl rfl ?_
    (try simp only [List.cons_append, List.nil_append])
    refine den_ret ?_
    simp only [dF, dE]
    unfold newL
    rw [if_pos h3, h3]
/-- what stays in the box, and what arrives, at a time -/
def stay (k : Int) (l : List (Int × List Int)) : List (Int × List Int) := l.filter fun p => decide (k < p.1)
def arrv (k : Int) (l : List (Int × List Int)) : List (List Int) := (l.filter fun p => !decide (k < p.1)).map (·.2)
theorem stay_snoc (k : Int) (l : List (Int × List Int)) (p : Int × List Int) : stay k (l ++ [p]) = if k < p.1 then stay k l ++ [p] else stay k l := by
  unfold stay
  rw [List.filter_append]
  by_cases h : k < p.1 <;> simp [h]
theorem arrv_snoc (k : Int) (l : List (Int × List Int)) (p : Int × List Int) : arrv k (l ++ [p]) = if k < p.1 then arrv k l else arrv k l ++ [p.2] := by
  unfold arrv
  rw [List.filter_append]
  by_cases h : k < p.1 <;> simp [h]
theorem stay_arrv (k : Int) : ∀ l : List (Int × List Int), (stay k l).length + (arrv k l).length = l.length
  | [] => rfl
  | p :: l => by
    have := stay_arrv k l
    unfold stay arrv at *
    by_cases h : k < p.1
    · simp [h] at this ⊢; omega
    · simp [h] at this ⊢; omega
theorem stay_sub {k : Int} {l : List (Int × List Int)} {p : Int × List Int} (h : p ∈ stay k l) : p ∈ l := (List.mem_filter.1 h).1
theorem arrv_sub {k : Int} {l : List (Int × List Int)} {d : List Int} (h : d ∈ arrv k l) : ∃ p ∈ l, p.2 = d := by
  obtain ⟨p, hp, rfl⟩ := List.mem_map.1 h
  exact ⟨p, (List.mem_filter.1 hp).1, rfl⟩
def tickL (l : Lk) : Lk := { l with nw := l.nw + 1, bx := stay (l.nw + 1) l.bx }
theorem ltick_fn (l : Lk) (h : LkB l) (hc : l.cu = false) (h0 : 0 ≤ l.nw) (h1 : l.nw ≤ 1000) : Fun Try.prog [] 9 [tLk] [lkD l] [tLk, .c (.lst [.lst [.int .u8]])] (.ok [lkD (tickL l), bbD (arrv (l.nw + 1) l.bx)]) := by
  have hlo := h.lo
  have hbx := h.bx
  have hpk := h.pk
  obtain ⟨nw, de, cu, cn, lo, bx⟩ := l
  simp only [] at hc h0 h1 hlo hbx hpk
  subst hc
  refine ltick_ent _ _ ?_
  show vcltick.den _ _ _ _ _
  unfold vcltick
  refine den_f (by simp only [dF, dE]; omega) ?_
  have hn : IntKind.wrap .i64 (nw + 1) = nw + 1 := wrap_i64 (by omega) (by omega)
  refine den_loopI (fun xs => ∃ i : Nat, xs = [I64d (nw + 1), I64d de, .bool false, I64d cn, isD lo, bbD (arrv (nw + 1) (bx.take i)), pksD (stay (nw + 1) (bx.take i)), I64d i] ∧ i ≤ bx.length) (fun xs => bx.length - (xs.getD 7 default).toI.toNat) ⟨0, by simp only [dF, dE]; rw [hn]; rfl, Nat.zero_le _⟩ ?_
  rintro _ ⟨i, rfl, hi⟩
  (try simp only [List.cons_append, List.nil_append])
  have hsl := stay_arrv (nw + 1) (bx.take i)
  rw [List.length_take] at hsl
  refine den_ite (fun h3 => ?_) (fun h3 => ?_) <;> simp only [dF, dE] at h3
  · have hi' : i < bx.length := by omega
    have hg := getD_map (g := pkD) (0, []) hi'
    have hp := hpk _ (by rw [List.getD_eq_getElem?_getD, List.getElem?_eq_getElem hi', Option.getD_some]; exact List.getElem_mem hi' : bx.getD i (0, []) ∈ bx)
    have htk := take_get (0, []) hi'
    have s1 := stay_snoc (nw + 1) (bx.take i) (bx.getD i (0, []))
    have s2 := arrv_snoc (nw + 1) (bx.take i) (bx.getD i (0, []))
    rw [← htk] at s1 s2
    generalize bx.getD i (0, []) = p at hg hp s1 s2
    obtain ⟨due, da⟩ := p
    simp only [] at hp s1 s2
    have hw : IntKind.wrap .i64 ((i : Int) + 1) = ((i + 1 : Nat) : Int) := by rw [wrap_i64 (by omega) (by omega)]; omega
    refine den_ev (evs_ob (by simp only [dF, dE]; omega) (evs_ob (by simp only [dF, dE]; omega) (evs_nil ?_)))
    refine den_ite (fun h4 => ?_) (fun h4 => ?_) <;> simp only [dF, dE, hg] at h4
    · rw [if_pos h4] at s1 s2
      refine den_ev (evs_ob (by simp only [dF, dE]; omega) (evs_nil ?_))
      refine den_back rfl ⟨i + 1, ?_, by omega⟩ (by simp only []; simp only [dF, dE]; rw [hw]; omega)
      simp only [dF, dE, hg]
      rw [hw, s1, s2]
      simp
    · rw [if_neg (by omega)] at s1 s2
      refine den_f (by simp only [dF, dE]) ?_
      refine den_cal [bD da] rfl (clbyt_fn da (by omega)) (by simp only [dF, dE, hg]) rfl ?_
      (try simp only [List.cons_append, List.nil_append])
      refine den_ev (evs_ob (by simp only [dF, dE]; omega) (evs_nil ?_))
      refine den_back rfl ⟨i + 1, ?_, by omega⟩ (by simp only []; simp only [dF, dE]; rw [hw]; omega)
      simp only [dF, dE]
      rw [hw, s1, s2]
      simp
  · have e : i = bx.length := by omega
    subst e
    rw [List.take_length]
    rw [List.take_length] at hsl
    have hB : LkB ⟨nw + 1, de, false, cn, lo, stay (nw + 1) bx⟩ := ⟨hlo, by show (stay (nw + 1) bx).length ≤ _; omega, fun p hp => hpk p (stay_sub hp)⟩
    refine den_cal (lkL ⟨nw + 1, de, false, cn, lo, stay (nw + 1) bx⟩) rfl (lcop_fn _ hB) rfl rfl ?_
    (try simp only [List.cons_append, List.nil_append])
    refine den_ret ?_
    simp only [dF, dE]
    rfl
abbrev tRM : TS := .r shM
set_option maxHeartbeats 1000000 in
theorem recv_fn (e : Ep) (m : Msg) (he : EpB e) (hm : MsB m) (b0 : e.ou.length ≤ 1) : Fun Try.prog [] 11 [tEp, tM] [epD e, msD m] [tEp, tMs, tMs, tRM] (.ok [epD (recvR e m).1, msgsD (recvR e m).2.1, msgsD (recvR e m).2.2.1, msgsD (recvR e m).2.2.2]) := by
  have hsl := he.sl
  refine V14.recv_ent _ _ ?_
  show V14.vcrecv.den _ _ _ _ _
  unfold V14.vcrecv
  refine den_cal [.bool (resB m)] rfl (isr_fn m) rfl rfl ?_
  (try simp only [List.cons_append, List.nil_append])
  refine den_ite (fun h0 => ?_) (fun h0 => ?_)
  · simp only [dF, dE] at h0
    obtain ⟨nx, tm, rt, qu, ou, du, tr, se⟩ := e
    match ou, b0, he with
    | [], _, he =>
      refine den_ite (fun h => den_ret ?_) (fun h => absurd h (by simp only [dF, dE]; omega))
      simp only [dF, dE]
      rw [show recvR ⟨nx, tm, rt, qu, [], du, tr, se⟩ m = (⟨nx, tm, rt, qu, [], du, tr, se⟩, [], [], []) from by unfold recvR; rw [if_pos h0]]
      (try simp)
    | [o], _, he =>
      have hr : recvR ⟨nx, tm, rt, qu, [o], du, tr, se⟩ m = if m.id = o.id ∧ m.ac = o.ac then (⟨nx, tm, rt, qu, [], 0, 0, se⟩, [o, m], [], []) else (⟨nx, tm, rt, qu, [o], du, tr, se⟩, [], [], []) := by unfold recvR; rw [if_pos h0]
      have ho := he.o o (by simp)
      refine den_f (by simp only [dF, dE]; omega) ?_
      refine den_ev (evs_ob (by simp only [dF, dE]; omega) (evs_nil ?_))
      refine den_ite (fun h1 => den_ret ?_) (fun h1 => ?_)
      · simp only [dF, dE] at h1
        simp only [dF, dE]
        rw [hr, if_neg (fun c => h1 c.1)]
        (try simp)
      simp only [dF, dE] at h1
      refine den_ev (evs_ob (by simp only [dF, dE]; omega) (evs_nil ?_))
      refine den_ite (fun h2 => den_ret ?_) (fun h2 => ?_)
      · simp only [dF, dE] at h2
        simp only [dF, dE]
        rw [hr, if_neg (fun c => h2 c.2)]
        (try simp)
      simp only [dF, dE] at h2
      refine den_cal [I64d nx, I64d tm, I64d rt, msgsD qu, msgsD [o], I64d du, I64d tr, msgsD se] rfl (cop_fn _ he) rfl rfl ?_
      (try simp only [List.cons_append, List.nil_append])
      refine den_ev (evs_ob (by simp only [dF, dE]; omega) (evs_nil ?_))
      refine den_cal [msgsD [o, m]] rfl (coll_fn [o, m] (by simp) (fun x hx => by simp only [List.mem_cons, List.not_mem_nil, or_false] at hx; rcases hx with rfl | rfl <;> assumption)) rfl rfl (den_ret ?_)
      simp only [dF, dE]
      rw [hr, if_pos ⟨h1, h2⟩]
      (try simp)
    | _ :: _ :: _, b0, _ => simp only [List.length_cons] at b0; omega
  simp only [dF, dE] at h0
  have hr : recvR e m = lookR e m := by unfold recvR; rw [if_neg (by rw [h0]; decide)]
  refine den_ite (fun h1 => den_ret ?_) (fun hk => ?_)
  · simp only [dF, dE] at h1
    simp only [dF, dE]
    rw [hr, look_no h1]
    (try simp)
  simp only [dF, dE] at hk
  refine den_loopI (fun xs => ∃ (a b c : List Msg) (i : Nat), xs = [msgsD a, msgsD b, msgsD c, I64d i] ∧ i ≤ e.se.length ∧ fndS m.id e.se = fndS m.id (e.se.drop i)) (fun xs => e.se.length - (xs.getD 3 default).toI.toNat) ⟨[], [], [], 0, rfl, Nat.zero_le _, rfl⟩ ?_
  rintro _ ⟨a, b, c, i, rfl, hi, hv⟩
  (try simp only [List.cons_append, List.nil_append])
  refine den_ite (fun h => ?_) (fun h => ?_)
  · simp only [dF, dE] at h
    have hi' : i < e.se.length := by omega
    have hg := getD_map (g := msD) msgZ hi'
    have hb := he.s _ (EpB.mem hi')
    rw [drop_get msgZ hi', fndS] at hv
    generalize e.se.getD i msgZ = s at hg hb hv
    have hw : IntKind.wrap .i64 ((i : Int) + 1) = ((i + 1 : Nat) : Int) := by rw [wrap_i64 (by omega) (by omega)]; omega
    refine den_ev (evs_ob (by simp only [dF, dE]; omega) (evs_ob (by simp only [dF, dE]; omega) (evs_nil ?_)))
    refine den_ite (fun h1 => ?_) (fun h1 => ?_)
    · simp only [dF, dE, hg] at h1
      rw [if_pos h1] at hv
      refine den_cal [msgsD [s]] rfl (coll_fn [s] (by simp) (fun x hx => by rw [List.mem_singleton.1 hx]; exact hb)) (by simp only [dF, dE, cpM, hg]; first | done | rfl) rfl (den_ret ?_)
      simp only [dF, dE]
      rw [hr, show lookR e m = (e, [], [], [s]) from by unfold lookR; rw [if_neg (fun c => c hk), hv]]
      (try simp)
    · simp only [dF, dE, hg] at h1
      rw [if_neg h1] at hv
      exact den_back rfl ⟨a, b, c, i + 1, (by simp only [dF, dE]; rw [hw]), by omega, hv⟩ (by simp only []; simp only [dF, dE]; rw [hw]; omega)
  simp only [dF, dE] at h
  have hil : i = e.se.length := by omega
  subst hil
  rw [List.drop_length] at hv
  have hv : fndS m.id e.se = none := hv
  refine den_cal [.bool (newB m.id e.se)] rfl (newer_fn m e.se) rfl rfl ?_
  (try simp only [List.cons_append, List.nil_append])
  refine den_ite (fun h2 => ?_) (fun h2 => den_ret ?_)
  · simp only [dF, dE] at h2
    refine den_cal [msgsD [m]] rfl (coll_fn [m] (by simp) (fun x hx => by rw [List.mem_singleton.1 hx]; exact hm)) rfl rfl (den_ret ?_)
    simp only [dF, dE]
    rw [hr, show lookR e m = (e, [], [m], []) from by unfold lookR; rw [if_neg (fun c => c hk), hv]; simp only []; rw [if_pos h2]]
    (try simp)
  · simp only [dF, dE] at h2
    simp only [dF, dE]
    rw [hr, show lookR e m = (e, [], [], []) from by unfold lookR; rw [if_neg (fun c => c hk), hv]; simp only []; rw [if_neg (by rw [h2]; decide)]]
    (try simp)
theorem recv_B {n : Nat} {b : Ep} {last : Int} (h : BS n b last) (i : Nat) (h1 : 1 ≤ i) (hin : i ≤ 10) :
    ∃ (p fr ag : List Msg), Fun Try.prog [] 11 [tEp, tM] [epD b, msD (beatM i)] [tEp, tMs, tMs, tRM] (.ok [epD b, msgsD p, msgsD fr, msgsD ag]) ∧ ((fr = [] ∧ (ag = [] ∨ ∃ s, ag = [s] ∧ GM n s)) ∨ (fr = [beatM i] ∧ ag = [] ∧ last < i)) := by
  obtain ⟨g1, g2⟩ := recvB h i h1
  have hf := recv_fn b (beatM i) h.bb (beat_b (by unfold inI; omega)) (by rw [h.o]; exact Nat.zero_le _)
  rw [g1] at hf
  refine ⟨_, _, _, hf, ?_⟩
  rcases g2 with ⟨e1, e2 | ⟨s, e2, hs⟩⟩ | ⟨e1, e2, e3⟩
  · exact .inl ⟨e1, .inl e2⟩
  · exact .inl ⟨e1, .inr ⟨s, e2, hs⟩⟩
  · exact .inr ⟨e1, e2, e3⟩
theorem recv_A {T R : Int} {n k : Nat} {now : Int} {a : Ep} (c : Cfg T R n) (h : AS T R n now a k) (m : Msg) (hm : GM n m) :
    ∃ (a' : Ep) (p fr ag : List Msg), Fun Try.prog [] 11 [tEp, tM] [epD a, msD m] [tEp, tMs, tMs, tRM] (.ok [epD a', msgsD p, msgsD fr, msgsD ag]) ∧
      ((p = [] ∧ a' = a) ∨ (p.length = 2 ∧ k + 1 ≤ n ∧ AS T R n now a' (k + 1))) := by
  have hb := h.ab c
  have hmb := hm.b c.n
  have hf := recv_fn a m hb.b hmb hb.o
  obtain ⟨i, h1, h2, rfl⟩ := hm.ex
  refine ⟨_, _, _, _, hf, ?_⟩
  rcases recv_step c h (i : Int) with ⟨e1, e2⟩ | ⟨e1, e2, e3, e4⟩
  · exact .inl ⟨e1, e2⟩
  · exact .inr ⟨by rw [e1]; rfl, e3, e4⟩

end Go.Proofs.Ytindphofgojfbaa.C14
