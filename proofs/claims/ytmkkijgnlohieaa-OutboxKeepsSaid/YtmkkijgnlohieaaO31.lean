/-
  Layer 31's functions: what they do with data. No conditions stand ahead of what is proved.
-/
import Derived.Test.YtmkkijgnlohieaaE30b
import Derived.Test.YtmkkijgnlohieaaL7n
set_option maxRecDepth 100000
set_option linter.unusedSimpArgs false
set_option linter.unusedVariables false
namespace Go.Proofs.Ytmkkijgnlohieaa.O31
open Go.Proofs.Ytmkkijgnlohieaa Go.Proofs.Ytmkkijgnlohieaa.Sy Go.Proofs.Ytmkkijgnlohieaa.L7 Go.Proofs.Ytmkkijgnlohieaa.Id Go.Proofs.Ytmkkijgnlohieaa.R26 Go.Proofs.Ytmkkijgnlohieaa.E30 Go.RowKit Go.WideShapes Go.ChangeShapes Go.ChangeAt
theorem hP : NoNum Try.prog := by unfold NoNum; kernel_rfl
def sgs : Nat → Option (List TS × List TS) := fun f => if Nat.beq f 33 then some ([.c (.lst [.str, .str, .int .i64, .int .i64, .int .i64, .int .i64, .str, .bool, .int .i64, .lst [.int .i64, .int .i64]]), .c (.int .i64)], [.r [.str, .str, .int .i64, .int .i64, .int .i64, .int .i64, .str, .bool, .int .i64, .lst [.int .i64, .int .i64]]]) else if Nat.beq f 61 then some ([.c (.int .i64), .c .str, .p [.r [.int .i64, .lst [.int .u8]]]], []) else if Nat.beq f 62 then some ([.c (.int .i64), .c (.int .i64), .p [.r [.int .i64, .lst [.int .u8]]]], []) else if Nat.beq f 82 then some ([.r [.int .i64, .lst [.int .u8]], .c (.int .i64), .c .str], [.r [.int .i64, .lst [.int .u8]]]) else if Nat.beq f 83 then some ([.r [.int .i64, .lst [.int .u8]], .c (.int .i64), .c (.int .i64)], [.r [.int .i64, .lst [.int .u8]]]) else if Nat.beq f 84 then some ([.r [.int .i64, .lst [.int .u8]], .c (.int .i64), .c .bool], [.r [.int .i64, .lst [.int .u8]]]) else if Nat.beq f 85 then some ([.r [.int .i64, .lst [.int .u8]], .c (.int .i64), .c (.lst [.lst [.int .u8]])], [.r [.int .i64, .lst [.int .u8]]]) else if Nat.beq f 42 then some ([.c (.int .i64)], [.r [.int .u8]]) else none
def vcshort : VC := (.loop [.bool, (.int .i64)] [(.kb false), (.ki .i64 0)]
 (.ite (.cmp .lss (.v 2) (.len (.v 0)))
  (.ev [(.ob (.cmp .geq (.v 2) (.ki .i64 0))), (.ob (.cmp .lss (.v 2) (.len (.v 0))))]
   (.ite (.cmp .gtr (.len (.cell (.get (.v 0) (.v 2)) 0)) (.ki .i64 50))
    (.ret [(.kb false)])
    (.ev [(.ob (.cmp .geq (.v 2) (.ki .i64 0))), (.ob (.cmp .lss (.v 2) (.len (.v 0))))]
     (.ite (.cmp .gtr (.len (.cell (.get (.v 0) (.v 2)) 1)) (.ki .i64 50))
      (.ret [(.kb false)])
      (.ev [(.ob (.cmp .geq (.v 2) (.ki .i64 0))), (.ob (.cmp .lss (.v 2) (.len (.v 0))))]
       (.ite (.cmp .gtr (.len (.cell (.get (.v 0) (.v 2)) 6)) (.ki .i64 50))
        (.ret [(.kb false)])
        (.ev [(.ob (.cmp .geq (.v 2) (.ki .i64 0))), (.ob (.cmp .lss (.v 2) (.len (.v 0))))]
         (.ite (.cmp .gtr (.len (.cell (.get (.v 0) (.v 2)) 9)) (.ki .i64 18))
          (.ret [(.kb false)])
          (.back 0 [(.v 1), (.ar .add .i64 (.v 2) (.ki .i64 1))])))))))))
  (.ret [(.kb true)])))
theorem short_ent : EntOK Try.prog [] ⟨9, [(.c (.lst [.str, .str, (.int .i64), (.int .i64), (.int .i64), (.int .i64), .str, .bool, (.int .i64), (.lst [(.int .i64), (.int .i64)])]))], [(.c .bool)], vcshort⟩ :=
  ent_of_gen hP Try.func9 rfl (by decide) (sg := sgs) (by kernel_rfl)
def vcnew : VC := (.ite (.cmp .lss (.v 0) (.ki .i64 4))
 (.ret [(.rc (.cons (.ki .i64 0) (.cons .nil (.cons (.ki .i64 0) .nil)))), (.ki .i64 2)])
 (.ite (.cmp .gtr (.v 0) (.ki .i64 256))
  (.ret [(.rc (.cons (.ki .i64 0) (.cons .nil (.cons (.ki .i64 0) .nil)))), (.ki .i64 2)])
  (.ret [(.rc (.cons (.v 0) (.cons .nil (.cons (.ki .i64 0) .nil)))), (.ki .i64 0)])))
theorem new_ent : EntOK Try.prog [] ⟨11, [(.c (.int .i64))], [(.g [(.int .i64), (.lst [.str, .str, (.int .i64), (.int .i64), (.int .i64), (.int .i64), .str, .bool, (.int .i64), (.lst [(.int .i64), (.int .i64)])]), (.int .i64)]), (.c (.int .i64))], vcnew⟩ :=
  ent_of_gen hP Try.func11 rfl (by decide) (sg := sgs) (by kernel_rfl)
def vcrnew : VC := (.cal 28 [(.c (.int .i64))] [(.v 0)] [(.c .bool)] 1
 (.ite (.v 1)
  (.ret [(.rc (.cons (.v 0) (.cons .nil (.cons (.ki .i64 0) .nil)))), (.ki .i64 0)])
  (.ret [(.rc (.cons (.ki .i64 0) (.cons .nil (.cons (.ki .i64 0) .nil)))), (.ki .i64 2)])))
theorem rnew_ent : EntOK Try.prog [] ⟨12, [(.c (.int .i64))], [(.g [(.int .i64), (.lst [.str, .str, (.int .i64), (.int .i64), (.int .i64), (.int .i64), .str, .bool, (.int .i64), (.lst [(.int .i64), (.int .i64)])]), (.int .i64)]), (.c (.int .i64))], vcrnew⟩ :=
  ent_of_gen hP Try.func12 rfl (by decide) (sg := sgs) (by kernel_rfl)
def vcroom : VC := (.ite (.cmp .geq (.v 0) (.ki .i64 4))
 (.ret [(.cmp .leq (.v 0) (.ki .i64 256))])
 (.ret [(.kb false)]))
theorem room_ent : EntOK Try.prog [] ⟨28, [(.c (.int .i64))], [(.c .bool)], vcroom⟩ :=
  ent_of_gen hP Try.func28 rfl (by decide) (sg := sgs) (by kernel_rfl)
def vcovalid : VC := (.ite (.cmp .lss (.v 0) (.ki .i64 4))
 (.ret [(.ki .i64 2)])
 (.ite (.cmp .gtr (.v 0) (.ki .i64 256))
  (.ret [(.ki .i64 2)])
  (.ite (.cmp .lss (.v 2) (.ki .i64 0))
   (.ret [(.ki .i64 2)])
   (.ite (.cmp .gtr (.v 2) (.ki .i64 2147483647))
    (.ret [(.ki .i64 2)])
    (.ite (.cmp .gtr (.len (.v 1)) (.v 0))
     (.ret [(.ki .i64 3)])
     (.loop [(.int .i64), (.int .i64)] [(.ki .i64 0), (.ki .i64 0)]
      (.ite (.cmp .lss (.v 4) (.len (.v 1)))
       (.ev [(.ob (.cmp .geq (.v 4) (.ki .i64 0))), (.ob (.cmp .lss (.v 4) (.len (.v 1))))]
        (.cal 29 [(.g [.str, .str, (.int .i64), (.int .i64), (.int .i64), (.int .i64), .str, .bool, (.int .i64), (.lst [(.int .i64), (.int .i64)])])] [(.rc (.cons (.cell (.get (.v 1) (.v 4)) 0) (.cons (.cell (.get (.v 1) (.v 4)) 1) (.cons (.cell (.get (.v 1) (.v 4)) 2) (.cons (.cell (.get (.v 1) (.v 4)) 3) (.cons (.cell (.get (.v 1) (.v 4)) 4) (.cons (.cell (.get (.v 1) (.v 4)) 5) (.cons (.cell (.get (.v 1) (.v 4)) 6) (.cons (.cell (.get (.v 1) (.v 4)) 7) (.cons (.cell (.get (.v 1) (.v 4)) 8) (.cons (.cell (.get (.v 1) (.v 4)) 9) .nil)))))))))))] [(.c (.int .i64))] 5
         (.ite (.cmp .neq (.v 5) (.ki .i64 0))
          (.ret [(.v 5)])
          (.back 0 [(.v 3), (.ar .add .i64 (.v 4) (.ki .i64 1))]))))
       (.ret [(.ki .i64 0)]))))))))
theorem ovalid_ent : EntOK Try.prog [] ⟨13, [(.g [(.int .i64), (.lst [.str, .str, (.int .i64), (.int .i64), (.int .i64), (.int .i64), .str, .bool, (.int .i64), (.lst [(.int .i64), (.int .i64)])]), (.int .i64)])], [(.c (.int .i64))], vcovalid⟩ :=
  ent_of_gen hP Try.func13 rfl (by decide) (sg := sgs) (by kernel_rfl)
def vcrovalid : VC := (.cal 28 [(.c (.int .i64))] [(.v 0)] [(.c .bool)] 3
 (.ite (.v 3)
  (.ite (.cmp .lss (.v 2) (.ki .i64 0))
   (.ret [(.ki .i64 2)])
   (.ite (.cmp .gtr (.v 2) (.ki .i64 2147483647))
    (.ret [(.ki .i64 2)])
    (.ite (.cmp .gtr (.len (.v 1)) (.v 0))
     (.ret [(.ki .i64 3)])
     (.loop [(.int .i64), (.int .i64)] [(.ki .i64 0), (.ki .i64 0)]
      (.ite (.cmp .lss (.v 5) (.len (.v 1)))
       (.ev [(.ob (.cmp .geq (.v 5) (.ki .i64 0))), (.ob (.cmp .lss (.v 5) (.len (.v 1))))]
        (.cal 30 [(.g [.str, .str, (.int .i64), (.int .i64), (.int .i64), (.int .i64), .str, .bool, (.int .i64), (.lst [(.int .i64), (.int .i64)])])] [(.rc (.cons (.cell (.get (.v 1) (.v 5)) 0) (.cons (.cell (.get (.v 1) (.v 5)) 1) (.cons (.cell (.get (.v 1) (.v 5)) 2) (.cons (.cell (.get (.v 1) (.v 5)) 3) (.cons (.cell (.get (.v 1) (.v 5)) 4) (.cons (.cell (.get (.v 1) (.v 5)) 5) (.cons (.cell (.get (.v 1) (.v 5)) 6) (.cons (.cell (.get (.v 1) (.v 5)) 7) (.cons (.cell (.get (.v 1) (.v 5)) 8) (.cons (.cell (.get (.v 1) (.v 5)) 9) .nil)))))))))))] [(.c (.int .i64))] 6
         (.ite (.cmp .neq (.v 6) (.ki .i64 0))
          (.ret [(.v 6)])
          (.back 0 [(.v 4), (.ar .add .i64 (.v 5) (.ki .i64 1))]))))
       (.ret [(.ki .i64 0)]))))))
  (.ret [(.ki .i64 2)])))
theorem rovalid_ent : EntOK Try.prog [] ⟨14, [(.g [(.int .i64), (.lst [.str, .str, (.int .i64), (.int .i64), (.int .i64), (.int .i64), .str, .bool, (.int .i64), (.lst [(.int .i64), (.int .i64)])]), (.int .i64)])], [(.c (.int .i64))], vcrovalid⟩ :=
  ent_of_gen hP Try.func14 rfl (by decide) (sg := sgs) (by kernel_rfl)
def vcosame : VC := (.ite (.cmp .eql (.v 0) (.v 3))
 (.ite (.cmp .eql (.v 2) (.v 5))
  (.cal 22 [(.c (.lst [.str, .str, (.int .i64), (.int .i64), (.int .i64), (.int .i64), .str, .bool, (.int .i64), (.lst [(.int .i64), (.int .i64)])])), (.c (.lst [.str, .str, (.int .i64), (.int .i64), (.int .i64), (.int .i64), .str, .bool, (.int .i64), (.lst [(.int .i64), (.int .i64)])]))] [(.v 1), (.v 4)] [(.c .bool)] 6
   (.ret [(.v 6)]))
  (.ret [(.kb false)]))
 (.ret [(.kb false)]))
theorem osame_ent : EntOK Try.prog [] ⟨15, [(.g [(.int .i64), (.lst [.str, .str, (.int .i64), (.int .i64), (.int .i64), (.int .i64), .str, .bool, (.int .i64), (.lst [(.int .i64), (.int .i64)])]), (.int .i64)]), (.g [(.int .i64), (.lst [.str, .str, (.int .i64), (.int .i64), (.int .i64), (.int .i64), .str, .bool, (.int .i64), (.lst [(.int .i64), (.int .i64)])]), (.int .i64)])], [(.c .bool)], vcosame⟩ :=
  ent_of_gen hP Try.func15 rfl (by decide) (sg := sgs) (by kernel_rfl)
def vcsameall : VC := (.ite (.cmp .neq (.len (.v 0)) (.len (.v 1)))
 (.ret [(.kb false)])
 (.loop [.bool, (.int .i64)] [(.kb false), (.ki .i64 0)]
  (.ite (.cmp .lss (.v 3) (.len (.v 0)))
   (.ev [(.ob (.cmp .geq (.v 3) (.ki .i64 0))), (.ob (.cmp .lss (.v 3) (.len (.v 0)))), (.ob (.cmp .geq (.v 3) (.ki .i64 0))), (.ob (.cmp .lss (.v 3) (.len (.v 1))))]
    (.cal 35 [(.g [.str, .str, (.int .i64), (.int .i64), (.int .i64), (.int .i64), .str, .bool, (.int .i64), (.lst [(.int .i64), (.int .i64)])]), (.g [.str, .str, (.int .i64), (.int .i64), (.int .i64), (.int .i64), .str, .bool, (.int .i64), (.lst [(.int .i64), (.int .i64)])])] [(.rc (.cons (.cell (.get (.v 0) (.v 3)) 0) (.cons (.cell (.get (.v 0) (.v 3)) 1) (.cons (.cell (.get (.v 0) (.v 3)) 2) (.cons (.cell (.get (.v 0) (.v 3)) 3) (.cons (.cell (.get (.v 0) (.v 3)) 4) (.cons (.cell (.get (.v 0) (.v 3)) 5) (.cons (.cell (.get (.v 0) (.v 3)) 6) (.cons (.cell (.get (.v 0) (.v 3)) 7) (.cons (.cell (.get (.v 0) (.v 3)) 8) (.cons (.cell (.get (.v 0) (.v 3)) 9) .nil))))))))))), (.rc (.cons (.cell (.get (.v 1) (.v 3)) 0) (.cons (.cell (.get (.v 1) (.v 3)) 1) (.cons (.cell (.get (.v 1) (.v 3)) 2) (.cons (.cell (.get (.v 1) (.v 3)) 3) (.cons (.cell (.get (.v 1) (.v 3)) 4) (.cons (.cell (.get (.v 1) (.v 3)) 5) (.cons (.cell (.get (.v 1) (.v 3)) 6) (.cons (.cell (.get (.v 1) (.v 3)) 7) (.cons (.cell (.get (.v 1) (.v 3)) 8) (.cons (.cell (.get (.v 1) (.v 3)) 9) .nil)))))))))))] [(.c .bool)] 4
     (.ite (.v 4)
      (.back 0 [(.v 2), (.ar .add .i64 (.v 3) (.ki .i64 1))])
      (.ret [(.kb false)]))))
   (.ret [(.kb true)]))))
theorem sameall_ent : EntOK Try.prog [] ⟨22, [(.c (.lst [.str, .str, (.int .i64), (.int .i64), (.int .i64), (.int .i64), .str, .bool, (.int .i64), (.lst [(.int .i64), (.int .i64)])])), (.c (.lst [.str, .str, (.int .i64), (.int .i64), (.int .i64), (.int .i64), .str, .bool, (.int .i64), (.lst [(.int .i64), (.int .i64)])]))], [(.c .bool)], vcsameall⟩ :=
  ent_of_gen hP Try.func22 rfl (by decide) (sg := sgs) (by kernel_rfl)
def vcclone : VC := (.cal 59 [(.c (.lst [(.int .i64), (.int .i64)]))] [(.v 9)] [(.c (.lst [(.int .i64), (.int .i64)]))] 10
 (.ret [(.rc (.cons (.v 0) (.cons (.v 1) (.cons (.v 2) (.cons (.v 3) (.cons (.v 4) (.cons (.v 5) (.cons (.v 6) (.cons (.v 7) (.cons (.v 8) (.cons (.v 10) .nil)))))))))))]))
theorem clone_ent : EntOK Try.prog [] ⟨34, [(.g [.str, .str, (.int .i64), (.int .i64), (.int .i64), (.int .i64), .str, .bool, (.int .i64), (.lst [(.int .i64), (.int .i64)])])], [(.g [.str, .str, (.int .i64), (.int .i64), (.int .i64), (.int .i64), .str, .bool, (.int .i64), (.lst [(.int .i64), (.int .i64)])])], vcclone⟩ :=
  ent_of_gen hP Try.func34 rfl (by decide) (sg := sgs) (by kernel_rfl)
def vcjoin : VC := (.ev [(.ob (.cmp .leq (.ki .i64 0) (.ar .add .i64 (.ar .add .i64 (.len (.v 0)) (.len (.v 1))) (.ki .i64 1)))), (.ob (.cmp .leq (.ar .add .i64 (.ar .add .i64 (.len (.v 0)) (.len (.v 1))) (.ki .i64 1)) (.ki .i64 4294967296)))]
 (.loop [(.lst [.str, .str, (.int .i64), (.int .i64), (.int .i64), (.int .i64), .str, .bool, (.int .i64), (.lst [(.int .i64), (.int .i64)])]), (.int .i64)] [(.rep (.ki .i64 0) (.rc (.cons (.ks ⟨List.toArray []⟩) (.cons (.ks ⟨List.toArray []⟩) (.cons (.ki .i64 0) (.cons (.ki .i64 0) (.cons (.ki .i64 0) (.cons (.ki .i64 0) (.cons (.ks ⟨List.toArray []⟩) (.cons (.kb false) (.cons (.ki .i64 0) (.cons .nil .nil)))))))))))), (.ki .i64 0)]
  (.ite (.cmp .lss (.v 13) (.len (.v 0)))
   (.ev [(.ob (.cmp .geq (.v 13) (.ki .i64 0))), (.ob (.cmp .lss (.v 13) (.len (.v 0))))]
    (.cal 34 [(.g [.str, .str, (.int .i64), (.int .i64), (.int .i64), (.int .i64), .str, .bool, (.int .i64), (.lst [(.int .i64), (.int .i64)])])] [(.rc (.cons (.cell (.get (.v 0) (.v 13)) 0) (.cons (.cell (.get (.v 0) (.v 13)) 1) (.cons (.cell (.get (.v 0) (.v 13)) 2) (.cons (.cell (.get (.v 0) (.v 13)) 3) (.cons (.cell (.get (.v 0) (.v 13)) 4) (.cons (.cell (.get (.v 0) (.v 13)) 5) (.cons (.cell (.get (.v 0) (.v 13)) 6) (.cons (.cell (.get (.v 0) (.v 13)) 7) (.cons (.cell (.get (.v 0) (.v 13)) 8) (.cons (.cell (.get (.v 0) (.v 13)) 9) .nil)))))))))))] [(.g [.str, .str, (.int .i64), (.int .i64), (.int .i64), (.int .i64), .str, .bool, (.int .i64), (.lst [(.int .i64), (.int .i64)])])] 14
     (.ev [(.ob (.cmp .leq (.len (.app (.v 12) (.cons (.rc (.cons (.v 14) (.cons (.v 15) (.cons (.v 16) (.cons (.v 17) (.cons (.v 18) (.cons (.v 19) (.cons (.v 20) (.cons (.v 21) (.cons (.v 22) (.cons (.v 23) .nil))))))))))) .nil))) (.ki .i64 4294967296)))]
      (.back 0 [(.app (.v 12) (.cons (.rc (.cons (.v 14) (.cons (.v 15) (.cons (.v 16) (.cons (.v 17) (.cons (.v 18) (.cons (.v 19) (.cons (.v 20) (.cons (.v 21) (.cons (.v 22) (.cons (.v 23) .nil))))))))))) .nil)), (.ar .add .i64 (.v 13) (.ki .i64 1))]))))
   (.loop [(.lst [.str, .str, (.int .i64), (.int .i64), (.int .i64), (.int .i64), .str, .bool, (.int .i64), (.lst [(.int .i64), (.int .i64)])]), (.int .i64)] [(.v 12), (.ki .i64 0)]
    (.ite (.cmp .lss (.v 15) (.len (.v 1)))
     (.ev [(.ob (.cmp .geq (.v 15) (.ki .i64 0))), (.ob (.cmp .lss (.v 15) (.len (.v 1))))]
      (.cal 34 [(.g [.str, .str, (.int .i64), (.int .i64), (.int .i64), (.int .i64), .str, .bool, (.int .i64), (.lst [(.int .i64), (.int .i64)])])] [(.rc (.cons (.cell (.get (.v 1) (.v 15)) 0) (.cons (.cell (.get (.v 1) (.v 15)) 1) (.cons (.cell (.get (.v 1) (.v 15)) 2) (.cons (.cell (.get (.v 1) (.v 15)) 3) (.cons (.cell (.get (.v 1) (.v 15)) 4) (.cons (.cell (.get (.v 1) (.v 15)) 5) (.cons (.cell (.get (.v 1) (.v 15)) 6) (.cons (.cell (.get (.v 1) (.v 15)) 7) (.cons (.cell (.get (.v 1) (.v 15)) 8) (.cons (.cell (.get (.v 1) (.v 15)) 9) .nil)))))))))))] [(.g [.str, .str, (.int .i64), (.int .i64), (.int .i64), (.int .i64), .str, .bool, (.int .i64), (.lst [(.int .i64), (.int .i64)])])] 16
       (.ev [(.ob (.cmp .leq (.len (.app (.v 14) (.cons (.rc (.cons (.v 16) (.cons (.v 17) (.cons (.v 18) (.cons (.v 19) (.cons (.v 20) (.cons (.v 21) (.cons (.v 22) (.cons (.v 23) (.cons (.v 24) (.cons (.v 25) .nil))))))))))) .nil))) (.ki .i64 4294967296)))]
        (.back 1 [(.app (.v 14) (.cons (.rc (.cons (.v 16) (.cons (.v 17) (.cons (.v 18) (.cons (.v 19) (.cons (.v 20) (.cons (.v 21) (.cons (.v 22) (.cons (.v 23) (.cons (.v 24) (.cons (.v 25) .nil))))))))))) .nil)), (.ar .add .i64 (.v 15) (.ki .i64 1))]))))
     (.cal 34 [(.g [.str, .str, (.int .i64), (.int .i64), (.int .i64), (.int .i64), .str, .bool, (.int .i64), (.lst [(.int .i64), (.int .i64)])])] [(.rc (.cons (.v 2) (.cons (.v 3) (.cons (.v 4) (.cons (.v 5) (.cons (.v 6) (.cons (.v 7) (.cons (.v 8) (.cons (.v 9) (.cons (.v 10) (.cons (.v 11) .nil)))))))))))] [(.g [.str, .str, (.int .i64), (.int .i64), (.int .i64), (.int .i64), .str, .bool, (.int .i64), (.lst [(.int .i64), (.int .i64)])])] 16
      (.ev [(.ob (.cmp .leq (.len (.app (.v 14) (.cons (.rc (.cons (.v 16) (.cons (.v 17) (.cons (.v 18) (.cons (.v 19) (.cons (.v 20) (.cons (.v 21) (.cons (.v 22) (.cons (.v 23) (.cons (.v 24) (.cons (.v 25) .nil))))))))))) .nil))) (.ki .i64 4294967296)))]
       (.ret [(.app (.v 14) (.cons (.rc (.cons (.v 16) (.cons (.v 17) (.cons (.v 18) (.cons (.v 19) (.cons (.v 20) (.cons (.v 21) (.cons (.v 22) (.cons (.v 23) (.cons (.v 24) (.cons (.v 25) .nil))))))))))) .nil))]))))))))
theorem join_ent : EntOK Try.prog [] ⟨31, [(.c (.lst [.str, .str, (.int .i64), (.int .i64), (.int .i64), (.int .i64), .str, .bool, (.int .i64), (.lst [(.int .i64), (.int .i64)])])), (.c (.lst [.str, .str, (.int .i64), (.int .i64), (.int .i64), (.int .i64), .str, .bool, (.int .i64), (.lst [(.int .i64), (.int .i64)])])), (.g [.str, .str, (.int .i64), (.int .i64), (.int .i64), (.int .i64), .str, .bool, (.int .i64), (.lst [(.int .i64), (.int .i64)])])], [(.c (.lst [.str, .str, (.int .i64), (.int .i64), (.int .i64), (.int .i64), .str, .bool, (.int .i64), (.lst [(.int .i64), (.int .i64)])]))], vcjoin⟩ :=
  ent_of_gen hP Try.func31 rfl (by decide) (sg := sgs) (by kernel_rfl)
def vcdisc : VC := (.loop [(.int .i64), (.int .i64)] [(.ki .i64 0), (.ki .i64 0)]
 (.ite (.cmp .lss (.v 2) (.len (.v 0)))
  (.ev [(.ob (.cmp .geq (.v 2) (.ki .i64 0))), (.ob (.cmp .lss (.v 2) (.len (.v 0))))]
   (.ite (.cmp .gtr (.v 2) (.ki .i64 0))
    (.ite (.cmp .eql (.cell (.get (.v 0) (.v 2)) 4) (.ki .i64 2))
     (.ret [(.v 2)])
     (.back 0 [(.v 1), (.ar .add .i64 (.v 2) (.ki .i64 1))]))
    (.back 0 [(.v 1), (.ar .add .i64 (.v 2) (.ki .i64 1))])))
  (.ret [(.ki .i64 (-1))])))
theorem disc_ent : EntOK Try.prog [] ⟨32, [(.c (.lst [.str, .str, (.int .i64), (.int .i64), (.int .i64), (.int .i64), .str, .bool, (.int .i64), (.lst [(.int .i64), (.int .i64)])]))], [(.c (.int .i64))], vcdisc⟩ :=
  ent_of_gen hP Try.func32 rfl (by decide) (sg := sgs) (by kernel_rfl)
def vcwithout : VC := (.loop [(.lst [.str, .str, (.int .i64), (.int .i64), (.int .i64), (.int .i64), .str, .bool, (.int .i64), (.lst [(.int .i64), (.int .i64)])]), (.int .i64)] [.nil, (.ki .i64 0)]
 (.ite (.cmp .lss (.v 3) (.len (.v 0)))
  (.ite (.cmp .neq (.v 3) (.v 1))
   (.ev [(.ob (.cmp .geq (.v 3) (.ki .i64 0))), (.ob (.cmp .lss (.v 3) (.len (.v 0))))]
    (.ev [(.ob (.cmp .leq (.len (.app (.v 2) (.cons (.rc (.cons (.cell (.get (.v 0) (.v 3)) 0) (.cons (.cell (.get (.v 0) (.v 3)) 1) (.cons (.cell (.get (.v 0) (.v 3)) 2) (.cons (.cell (.get (.v 0) (.v 3)) 3) (.cons (.cell (.get (.v 0) (.v 3)) 4) (.cons (.cell (.get (.v 0) (.v 3)) 5) (.cons (.cell (.get (.v 0) (.v 3)) 6) (.cons (.cell (.get (.v 0) (.v 3)) 7) (.cons (.cell (.get (.v 0) (.v 3)) 8) (.cons (.cell (.get (.v 0) (.v 3)) 9) .nil))))))))))) .nil))) (.ki .i64 4294967296)))]
     (.back 0 [(.app (.v 2) (.cons (.rc (.cons (.cell (.get (.v 0) (.v 3)) 0) (.cons (.cell (.get (.v 0) (.v 3)) 1) (.cons (.cell (.get (.v 0) (.v 3)) 2) (.cons (.cell (.get (.v 0) (.v 3)) 3) (.cons (.cell (.get (.v 0) (.v 3)) 4) (.cons (.cell (.get (.v 0) (.v 3)) 5) (.cons (.cell (.get (.v 0) (.v 3)) 6) (.cons (.cell (.get (.v 0) (.v 3)) 7) (.cons (.cell (.get (.v 0) (.v 3)) 8) (.cons (.cell (.get (.v 0) (.v 3)) 9) .nil))))))))))) .nil)), (.ar .add .i64 (.v 3) (.ki .i64 1))])))
   (.back 0 [(.v 2), (.ar .add .i64 (.v 3) (.ki .i64 1))]))
  (.ret [(.v 2)])))
theorem without_ent : EntOK Try.prog [] ⟨33, [(.c (.lst [.str, .str, (.int .i64), (.int .i64), (.int .i64), (.int .i64), .str, .bool, (.int .i64), (.lst [(.int .i64), (.int .i64)])])), (.c (.int .i64))], [(.r [.str, .str, (.int .i64), (.int .i64), (.int .i64), (.int .i64), .str, .bool, (.int .i64), (.lst [(.int .i64), (.int .i64)])])], vcwithout⟩ :=
  ent_of_gen hP Try.func33 rfl (by decide) (sg := sgs) (by kernel_rfl)
def vcpush : VC := (.cal 29 [(.g [.str, .str, (.int .i64), (.int .i64), (.int .i64), (.int .i64), .str, .bool, (.int .i64), (.lst [(.int .i64), (.int .i64)])])] [(.rc (.cons (.v 3) (.cons (.v 4) (.cons (.v 5) (.cons (.v 6) (.cons (.v 7) (.cons (.v 8) (.cons (.v 9) (.cons (.v 10) (.cons (.v 11) (.cons (.v 12) .nil)))))))))))] [(.c (.int .i64))] 13
 (.ite (.cmp .neq (.v 13) (.ki .i64 0))
  (.ret [(.rc (.cons (.v 0) (.cons (.v 1) (.cons (.v 2) .nil)))), (.v 13)])
  (.ite (.cmp .lss (.len (.v 1)) (.v 0))
   (.cal 31 [(.c (.lst [.str, .str, (.int .i64), (.int .i64), (.int .i64), (.int .i64), .str, .bool, (.int .i64), (.lst [(.int .i64), (.int .i64)])])), (.c (.lst [.str, .str, (.int .i64), (.int .i64), (.int .i64), (.int .i64), .str, .bool, (.int .i64), (.lst [(.int .i64), (.int .i64)])])), (.g [.str, .str, (.int .i64), (.int .i64), (.int .i64), (.int .i64), .str, .bool, (.int .i64), (.lst [(.int .i64), (.int .i64)])])] [(.v 1), .nil, (.rc (.cons (.v 3) (.cons (.v 4) (.cons (.v 5) (.cons (.v 6) (.cons (.v 7) (.cons (.v 8) (.cons (.v 9) (.cons (.v 10) (.cons (.v 11) (.cons (.v 12) .nil)))))))))))] [(.c (.lst [.str, .str, (.int .i64), (.int .i64), (.int .i64), (.int .i64), .str, .bool, (.int .i64), (.lst [(.int .i64), (.int .i64)])]))] 14
    (.ret [(.rc (.cons (.v 0) (.cons (.v 14) (.cons (.v 2) .nil)))), (.ki .i64 0)]))
   (.cal 32 [(.c (.lst [.str, .str, (.int .i64), (.int .i64), (.int .i64), (.int .i64), .str, .bool, (.int .i64), (.lst [(.int .i64), (.int .i64)])]))] [(.v 1)] [(.c (.int .i64))] 14
    (.ite (.cmp .lss (.v 14) (.ki .i64 0))
     (.ret [(.rc (.cons (.v 0) (.cons (.v 1) (.cons (.v 2) .nil)))), (.ki .i64 3)])
     (.ev [(.ob (.cmp .leq (.ki .i64 0) (.v 14))), (.ob (.cmp .leq (.v 14) (.len (.v 1)))), (.ob (.cmp .leq (.ki .i64 0) (.v 14))), (.ob (.cmp .leq (.v 14) (.v 14))), (.ob (.cmp .leq (.ki .i64 0) (.len (.v 1)))), (.ob (.cmp .leq (.len (.v 1)) (.len (.v 1)))), (.ob (.cmp .leq (.ki .i64 0) (.len (.v 1)))), (.ob (.cmp .leq (.len (.v 1)) (.len (.v 1)))), (.ob (.cmp .leq (.ki .i64 0) (.ar .add .i64 (.v 14) (.ki .i64 1)))), (.ob (.cmp .leq (.ar .add .i64 (.v 14) (.ki .i64 1)) (.len (.v 1))))]
      (.cal 31 [(.c (.lst [.str, .str, (.int .i64), (.int .i64), (.int .i64), (.int .i64), .str, .bool, (.int .i64), (.lst [(.int .i64), (.int .i64)])])), (.c (.lst [.str, .str, (.int .i64), (.int .i64), (.int .i64), (.int .i64), .str, .bool, (.int .i64), (.lst [(.int .i64), (.int .i64)])])), (.g [.str, .str, (.int .i64), (.int .i64), (.int .i64), (.int .i64), .str, .bool, (.int .i64), (.lst [(.int .i64), (.int .i64)])])] [(.sub (.v 1) (.ki .i64 0) (.v 14)), (.sub (.v 1) (.ar .add .i64 (.v 14) (.ki .i64 1)) (.len (.v 1))), (.rc (.cons (.v 3) (.cons (.v 4) (.cons (.v 5) (.cons (.v 6) (.cons (.v 7) (.cons (.v 8) (.cons (.v 9) (.cons (.v 10) (.cons (.v 11) (.cons (.v 12) .nil)))))))))))] [(.c (.lst [.str, .str, (.int .i64), (.int .i64), (.int .i64), (.int .i64), .str, .bool, (.int .i64), (.lst [(.int .i64), (.int .i64)])]))] 15
       (.ite (.cmp .lss (.v 2) (.ki .i64 2147483647))
        (.ret [(.rc (.cons (.v 0) (.cons (.v 15) (.cons (.ar .add .i64 (.v 2) (.ki .i64 1)) .nil)))), (.ki .i64 0)])
        (.ret [(.rc (.cons (.v 0) (.cons (.v 15) (.cons (.v 2) .nil)))), (.ki .i64 0)])))))))))
theorem push_ent : EntOK Try.prog [] ⟨16, [(.g [(.int .i64), (.lst [.str, .str, (.int .i64), (.int .i64), (.int .i64), (.int .i64), .str, .bool, (.int .i64), (.lst [(.int .i64), (.int .i64)])]), (.int .i64)]), (.g [.str, .str, (.int .i64), (.int .i64), (.int .i64), (.int .i64), .str, .bool, (.int .i64), (.lst [(.int .i64), (.int .i64)])])], [(.g [(.int .i64), (.lst [.str, .str, (.int .i64), (.int .i64), (.int .i64), (.int .i64), .str, .bool, (.int .i64), (.lst [(.int .i64), (.int .i64)])]), (.int .i64)]), (.c (.int .i64))], vcpush⟩ :=
  ent_of_gen hP Try.func16 rfl (by decide) (sg := sgs) (by kernel_rfl)
def vcrpush : VC := (.cal 30 [(.g [.str, .str, (.int .i64), (.int .i64), (.int .i64), (.int .i64), .str, .bool, (.int .i64), (.lst [(.int .i64), (.int .i64)])])] [(.rc (.cons (.v 3) (.cons (.v 4) (.cons (.v 5) (.cons (.v 6) (.cons (.v 7) (.cons (.v 8) (.cons (.v 9) (.cons (.v 10) (.cons (.v 11) (.cons (.v 12) .nil)))))))))))] [(.c (.int .i64))] 13
 (.ite (.cmp .neq (.v 13) (.ki .i64 0))
  (.ret [(.rc (.cons (.v 0) (.cons (.v 1) (.cons (.v 2) .nil)))), (.v 13)])
  (.cal 33 [(.c (.lst [.str, .str, (.int .i64), (.int .i64), (.int .i64), (.int .i64), .str, .bool, (.int .i64), (.lst [(.int .i64), (.int .i64)])])), (.c (.int .i64))] [(.v 1), (.ki .i64 (-1))] [(.r [.str, .str, (.int .i64), (.int .i64), (.int .i64), (.int .i64), .str, .bool, (.int .i64), (.lst [(.int .i64), (.int .i64)])])] 14
   (.ite (.cmp .geq (.len (.v 14)) (.v 0))
    (.loop [(.int .i64), (.int .i64)] [(.ki .i64 0), (.ar .sub .i64 (.len (.v 14)) (.ki .i64 1))]
     (.ite (.cmp .gtr (.v 16) (.ki .i64 0))
      (.ev [(.ob (.cmp .geq (.v 16) (.ki .i64 0))), (.ob (.cmp .lss (.v 16) (.len (.v 14))))]
       (.ev [(.ob (.cmp .lss (.v 16) (.len (.v 14))))]
        (.ite (.cmp .eql (.cell (.get (.v 14) (.v 16)) 4) (.ki .i64 2))
         (.back 0 [(.v 16), (.ar .sub .i64 (.v 16) (.ki .i64 1))])
         (.back 0 [(.v 15), (.ar .sub .i64 (.v 16) (.ki .i64 1))]))))
      (.ite (.cmp .eql (.v 15) (.ki .i64 0))
       (.ret [(.rc (.cons (.v 0) (.cons (.v 1) (.cons (.v 2) .nil)))), (.ki .i64 3)])
       (.cal 33 [(.c (.lst [.str, .str, (.int .i64), (.int .i64), (.int .i64), (.int .i64), .str, .bool, (.int .i64), (.lst [(.int .i64), (.int .i64)])])), (.c (.int .i64))] [(.v 14), (.v 15)] [(.r [.str, .str, (.int .i64), (.int .i64), (.int .i64), (.int .i64), .str, .bool, (.int .i64), (.lst [(.int .i64), (.int .i64)])])] 17
        (.ev [(.ob (.cmp .leq (.len (.app (.v 17) (.cons (.rc (.cons (.v 3) (.cons (.v 4) (.cons (.v 5) (.cons (.v 6) (.cons (.v 7) (.cons (.v 8) (.cons (.v 9) (.cons (.v 10) (.cons (.v 11) (.cons (.v 12) .nil))))))))))) .nil))) (.ki .i64 4294967296)))]
         (.ret [(.rc (.cons (.v 0) (.cons (.app (.v 17) (.cons (.rc (.cons (.v 3) (.cons (.v 4) (.cons (.v 5) (.cons (.v 6) (.cons (.v 7) (.cons (.v 8) (.cons (.v 9) (.cons (.v 10) (.cons (.v 11) (.cons (.v 12) .nil))))))))))) .nil)) (.cons (.mn .i64 (.ar .add .i64 (.v 2) (.ki .i64 1)) (.ki .i64 2147483647)) .nil)))), (.ki .i64 0)]))))))
    (.ev [(.ob (.cmp .leq (.len (.app (.v 14) (.cons (.rc (.cons (.v 3) (.cons (.v 4) (.cons (.v 5) (.cons (.v 6) (.cons (.v 7) (.cons (.v 8) (.cons (.v 9) (.cons (.v 10) (.cons (.v 11) (.cons (.v 12) .nil))))))))))) .nil))) (.ki .i64 4294967296)))]
     (.ret [(.rc (.cons (.v 0) (.cons (.app (.v 14) (.cons (.rc (.cons (.v 3) (.cons (.v 4) (.cons (.v 5) (.cons (.v 6) (.cons (.v 7) (.cons (.v 8) (.cons (.v 9) (.cons (.v 10) (.cons (.v 11) (.cons (.v 12) .nil))))))))))) .nil)) (.cons (.v 2) .nil)))), (.ki .i64 0)]))))))
theorem rpush_ent : EntOK Try.prog [] ⟨17, [(.g [(.int .i64), (.lst [.str, .str, (.int .i64), (.int .i64), (.int .i64), (.int .i64), .str, .bool, (.int .i64), (.lst [(.int .i64), (.int .i64)])]), (.int .i64)]), (.g [.str, .str, (.int .i64), (.int .i64), (.int .i64), (.int .i64), .str, .bool, (.int .i64), (.lst [(.int .i64), (.int .i64)])])], [(.g [(.int .i64), (.lst [.str, .str, (.int .i64), (.int .i64), (.int .i64), (.int .i64), .str, .bool, (.int .i64), (.lst [(.int .i64), (.int .i64)])]), (.int .i64)]), (.c (.int .i64))], vcrpush⟩ :=
  ent_of_gen hP Try.func17 rfl (by decide) (sg := sgs) (by kernel_rfl)
def vchead : VC := (.ite (.cmp .eql (.len (.v 1)) (.ki .i64 0))
 (.ret [(.rc (.cons (.ks ⟨List.toArray []⟩) (.cons (.ks ⟨List.toArray []⟩) (.cons (.ki .i64 0) (.cons (.ki .i64 0) (.cons (.ki .i64 0) (.cons (.ki .i64 0) (.cons (.ks ⟨List.toArray []⟩) (.cons (.kb false) (.cons (.ki .i64 0) (.cons .nil .nil))))))))))), (.kb false)])
 (.ev [(.ob (.cmp .lss (.ki .i64 0) (.len (.v 1))))]
  (.cal 34 [(.g [.str, .str, (.int .i64), (.int .i64), (.int .i64), (.int .i64), .str, .bool, (.int .i64), (.lst [(.int .i64), (.int .i64)])])] [(.rc (.cons (.cell (.get (.v 1) (.ki .i64 0)) 0) (.cons (.cell (.get (.v 1) (.ki .i64 0)) 1) (.cons (.cell (.get (.v 1) (.ki .i64 0)) 2) (.cons (.cell (.get (.v 1) (.ki .i64 0)) 3) (.cons (.cell (.get (.v 1) (.ki .i64 0)) 4) (.cons (.cell (.get (.v 1) (.ki .i64 0)) 5) (.cons (.cell (.get (.v 1) (.ki .i64 0)) 6) (.cons (.cell (.get (.v 1) (.ki .i64 0)) 7) (.cons (.cell (.get (.v 1) (.ki .i64 0)) 8) (.cons (.cell (.get (.v 1) (.ki .i64 0)) 9) .nil)))))))))))] [(.g [.str, .str, (.int .i64), (.int .i64), (.int .i64), (.int .i64), .str, .bool, (.int .i64), (.lst [(.int .i64), (.int .i64)])])] 3
   (.ret [(.rc (.cons (.v 3) (.cons (.v 4) (.cons (.v 5) (.cons (.v 6) (.cons (.v 7) (.cons (.v 8) (.cons (.v 9) (.cons (.v 10) (.cons (.v 11) (.cons (.v 12) .nil))))))))))), (.kb true)]))))
theorem head_ent : EntOK Try.prog [] ⟨18, [(.g [(.int .i64), (.lst [.str, .str, (.int .i64), (.int .i64), (.int .i64), (.int .i64), .str, .bool, (.int .i64), (.lst [(.int .i64), (.int .i64)])]), (.int .i64)])], [(.g [.str, .str, (.int .i64), (.int .i64), (.int .i64), (.int .i64), .str, .bool, (.int .i64), (.lst [(.int .i64), (.int .i64)])]), (.c .bool)], vchead⟩ :=
  ent_of_gen hP Try.func18 rfl (by decide) (sg := sgs) (by kernel_rfl)
def vcrhead : VC := (.ite (.cmp .eql (.len (.v 1)) (.ki .i64 0))
 (.ret [(.rc (.cons (.ks ⟨List.toArray []⟩) (.cons (.ks ⟨List.toArray []⟩) (.cons (.ki .i64 0) (.cons (.ki .i64 0) (.cons (.ki .i64 0) (.cons (.ki .i64 0) (.cons (.ks ⟨List.toArray []⟩) (.cons (.kb false) (.cons (.ki .i64 0) (.cons .nil .nil))))))))))), (.kb false)])
 (.ev [(.ob (.cmp .lss (.ki .i64 0) (.len (.v 1))))]
  (.ret [(.rc (.cons (.cell (.get (.v 1) (.ki .i64 0)) 0) (.cons (.cell (.get (.v 1) (.ki .i64 0)) 1) (.cons (.cell (.get (.v 1) (.ki .i64 0)) 2) (.cons (.cell (.get (.v 1) (.ki .i64 0)) 3) (.cons (.cell (.get (.v 1) (.ki .i64 0)) 4) (.cons (.cell (.get (.v 1) (.ki .i64 0)) 5) (.cons (.cell (.get (.v 1) (.ki .i64 0)) 6) (.cons (.cell (.get (.v 1) (.ki .i64 0)) 7) (.cons (.cell (.get (.v 1) (.ki .i64 0)) 8) (.cons (.cell (.get (.v 1) (.ki .i64 0)) 9) .nil))))))))))), (.kb true)])))
theorem rhead_ent : EntOK Try.prog [] ⟨19, [(.g [(.int .i64), (.lst [.str, .str, (.int .i64), (.int .i64), (.int .i64), (.int .i64), .str, .bool, (.int .i64), (.lst [(.int .i64), (.int .i64)])]), (.int .i64)])], [(.g [.str, .str, (.int .i64), (.int .i64), (.int .i64), (.int .i64), .str, .bool, (.int .i64), (.lst [(.int .i64), (.int .i64)])]), (.c .bool)], vcrhead⟩ :=
  ent_of_gen hP Try.func19 rfl (by decide) (sg := sgs) (by kernel_rfl)
def vcack : VC := (.ite (.cmp .eql (.len (.v 1)) (.ki .i64 0))
 (.ret [(.rc (.cons (.v 0) (.cons (.v 1) (.cons (.v 2) .nil)))), (.ki .i64 8)])
 (.ev [(.ob (.cmp .lss (.ki .i64 0) (.len (.v 1))))]
  (.ite (.seq (.cell (.get (.v 1) (.ki .i64 0)) 1) (.v 3))
   (.ev [(.ob (.cmp .lss (.ki .i64 0) (.len (.v 1))))]
    (.ite (.cmp .neq (.cell (.get (.v 1) (.ki .i64 0)) 3) (.v 4))
     (.ret [(.rc (.cons (.v 0) (.cons (.v 1) (.cons (.v 2) .nil)))), (.ki .i64 8)])
     (.ev [(.ob (.cmp .leq (.ki .i64 0) (.len (.v 1)))), (.ob (.cmp .leq (.len (.v 1)) (.len (.v 1)))), (.ob (.cmp .leq (.ki .i64 0) (.len (.v 1)))), (.ob (.cmp .leq (.len (.v 1)) (.len (.v 1)))), (.ob (.cmp .leq (.ki .i64 1) (.len (.v 1))))]
      (.ev [(.ob (.cmp .leq (.ki .i64 0) (.len (.sub (.v 1) (.ki .i64 1) (.len (.v 1)))))), (.ob (.cmp .leq (.len (.sub (.v 1) (.ki .i64 1) (.len (.v 1)))) (.ki .i64 4294967296)))]
       (.loop [(.int .i64), (.int .i64), (.lst [.str, .str, (.int .i64), (.int .i64), (.int .i64), (.int .i64), .str, .bool, (.int .i64), (.lst [(.int .i64), (.int .i64)])]), (.int .i64)] [(.v 0), (.v 2), (.rep (.ki .i64 0) (.rc (.cons (.ks ⟨List.toArray []⟩) (.cons (.ks ⟨List.toArray []⟩) (.cons (.ki .i64 0) (.cons (.ki .i64 0) (.cons (.ki .i64 0) (.cons (.ki .i64 0) (.cons (.ks ⟨List.toArray []⟩) (.cons (.kb false) (.cons (.ki .i64 0) (.cons .nil .nil)))))))))))), (.ki .i64 0)]
        (.ite (.cmp .lss (.v 8) (.len (.sub (.v 1) (.ki .i64 1) (.len (.v 1)))))
         (.ev [(.ob (.cmp .geq (.v 8) (.ki .i64 0))), (.ob (.cmp .lss (.v 8) (.len (.sub (.v 1) (.ki .i64 1) (.len (.v 1))))))]
          (.cal 34 [(.g [.str, .str, (.int .i64), (.int .i64), (.int .i64), (.int .i64), .str, .bool, (.int .i64), (.lst [(.int .i64), (.int .i64)])])] [(.rc (.cons (.cell (.get (.sub (.v 1) (.ki .i64 1) (.len (.v 1))) (.v 8)) 0) (.cons (.cell (.get (.sub (.v 1) (.ki .i64 1) (.len (.v 1))) (.v 8)) 1) (.cons (.cell (.get (.sub (.v 1) (.ki .i64 1) (.len (.v 1))) (.v 8)) 2) (.cons (.cell (.get (.sub (.v 1) (.ki .i64 1) (.len (.v 1))) (.v 8)) 3) (.cons (.cell (.get (.sub (.v 1) (.ki .i64 1) (.len (.v 1))) (.v 8)) 4) (.cons (.cell (.get (.sub (.v 1) (.ki .i64 1) (.len (.v 1))) (.v 8)) 5) (.cons (.cell (.get (.sub (.v 1) (.ki .i64 1) (.len (.v 1))) (.v 8)) 6) (.cons (.cell (.get (.sub (.v 1) (.ki .i64 1) (.len (.v 1))) (.v 8)) 7) (.cons (.cell (.get (.sub (.v 1) (.ki .i64 1) (.len (.v 1))) (.v 8)) 8) (.cons (.cell (.get (.sub (.v 1) (.ki .i64 1) (.len (.v 1))) (.v 8)) 9) .nil)))))))))))] [(.g [.str, .str, (.int .i64), (.int .i64), (.int .i64), (.int .i64), .str, .bool, (.int .i64), (.lst [(.int .i64), (.int .i64)])])] 9
           (.ev [(.ob (.cmp .leq (.len (.app (.v 7) (.cons (.rc (.cons (.v 9) (.cons (.v 10) (.cons (.v 11) (.cons (.v 12) (.cons (.v 13) (.cons (.v 14) (.cons (.v 15) (.cons (.v 16) (.cons (.v 17) (.cons (.v 18) .nil))))))))))) .nil))) (.ki .i64 4294967296)))]
            (.back 0 [(.v 5), (.v 6), (.app (.v 7) (.cons (.rc (.cons (.v 9) (.cons (.v 10) (.cons (.v 11) (.cons (.v 12) (.cons (.v 13) (.cons (.v 14) (.cons (.v 15) (.cons (.v 16) (.cons (.v 17) (.cons (.v 18) .nil))))))))))) .nil)), (.ar .add .i64 (.v 8) (.ki .i64 1))]))))
         (.ret [(.rc (.cons (.v 5) (.cons (.v 7) (.cons (.v 6) .nil)))), (.ki .i64 0)])))))))
   (.ret [(.rc (.cons (.v 0) (.cons (.v 1) (.cons (.v 2) .nil)))), (.ki .i64 8)]))))
theorem ack_ent : EntOK Try.prog [] ⟨20, [(.g [(.int .i64), (.lst [.str, .str, (.int .i64), (.int .i64), (.int .i64), (.int .i64), .str, .bool, (.int .i64), (.lst [(.int .i64), (.int .i64)])]), (.int .i64)]), (.c .str), (.c (.int .i64))], [(.g [(.int .i64), (.lst [.str, .str, (.int .i64), (.int .i64), (.int .i64), (.int .i64), .str, .bool, (.int .i64), (.lst [(.int .i64), (.int .i64)])]), (.int .i64)]), (.c (.int .i64))], vcack⟩ :=
  ent_of_gen hP Try.func20 rfl (by decide) (sg := sgs) (by kernel_rfl)
def vcrack : VC := (.ite (.cmp .eql (.len (.v 1)) (.ki .i64 0))
 (.ret [(.rc (.cons (.v 0) (.cons (.v 1) (.cons (.v 2) .nil)))), (.ki .i64 8)])
 (.ev [(.ob (.cmp .lss (.ki .i64 0) (.len (.v 1))))]
  (.ite (.seq (.cell (.get (.v 1) (.ki .i64 0)) 1) (.v 3))
   (.ev [(.ob (.cmp .lss (.ki .i64 0) (.len (.v 1))))]
    (.ite (.cmp .neq (.cell (.get (.v 1) (.ki .i64 0)) 3) (.v 4))
     (.ret [(.rc (.cons (.v 0) (.cons (.v 1) (.cons (.v 2) .nil)))), (.ki .i64 8)])
     (.cal 33 [(.c (.lst [.str, .str, (.int .i64), (.int .i64), (.int .i64), (.int .i64), .str, .bool, (.int .i64), (.lst [(.int .i64), (.int .i64)])])), (.c (.int .i64))] [(.v 1), (.ki .i64 0)] [(.r [.str, .str, (.int .i64), (.int .i64), (.int .i64), (.int .i64), .str, .bool, (.int .i64), (.lst [(.int .i64), (.int .i64)])])] 5
      (.ret [(.rc (.cons (.v 0) (.cons (.v 5) (.cons (.v 2) .nil)))), (.ki .i64 0)]))))
   (.ret [(.rc (.cons (.v 0) (.cons (.v 1) (.cons (.v 2) .nil)))), (.ki .i64 8)]))))
theorem rack_ent : EntOK Try.prog [] ⟨21, [(.g [(.int .i64), (.lst [.str, .str, (.int .i64), (.int .i64), (.int .i64), (.int .i64), .str, .bool, (.int .i64), (.lst [(.int .i64), (.int .i64)])]), (.int .i64)]), (.c .str), (.c (.int .i64))], [(.g [(.int .i64), (.lst [.str, .str, (.int .i64), (.int .i64), (.int .i64), (.int .i64), .str, .bool, (.int .i64), (.lst [(.int .i64), (.int .i64)])]), (.int .i64)]), (.c (.int .i64))], vcrack⟩ :=
  ent_of_gen hP Try.func21 rfl (by decide) (sg := sgs) (by kernel_rfl)
def vcsave : VC := (.cal 13 [(.g [(.int .i64), (.lst [.str, .str, (.int .i64), (.int .i64), (.int .i64), (.int .i64), .str, .bool, (.int .i64), (.lst [(.int .i64), (.int .i64)])]), (.int .i64)])] [(.rc (.cons (.v 0) (.cons (.v 1) (.cons (.v 2) .nil))))] [(.c (.int .i64))] 3
 (.ite (.cmp .neq (.v 3) (.ki .i64 0))
  (.ret [.nil, (.v 3)])
  (.ev [(.ob (.cmp .leq (.ki .i64 0) (.len (.v 1)))), (.ob (.cmp .leq (.len (.v 1)) (.ki .i64 4294967296)))]
   (.loop [(.lst [(.lst [(.int .u8)])]), (.lst [(.int .u8)]), (.int .i64), (.int .i64)] [(.rep (.ki .i64 0) .nil), .nil, (.ki .i64 0), (.ki .i64 0)]
    (.ite (.cmp .lss (.v 7) (.len (.v 1)))
     (.ev [(.ob (.cmp .geq (.v 7) (.ki .i64 0))), (.ob (.cmp .lss (.v 7) (.len (.v 1))))]
      (.cal 36 [(.g [.str, .str, (.int .i64), (.int .i64), (.int .i64), (.int .i64), .str, .bool, (.int .i64), (.lst [(.int .i64), (.int .i64)])])] [(.rc (.cons (.cell (.get (.v 1) (.v 7)) 0) (.cons (.cell (.get (.v 1) (.v 7)) 1) (.cons (.cell (.get (.v 1) (.v 7)) 2) (.cons (.cell (.get (.v 1) (.v 7)) 3) (.cons (.cell (.get (.v 1) (.v 7)) 4) (.cons (.cell (.get (.v 1) (.v 7)) 5) (.cons (.cell (.get (.v 1) (.v 7)) 6) (.cons (.cell (.get (.v 1) (.v 7)) 7) (.cons (.cell (.get (.v 1) (.v 7)) 8) (.cons (.cell (.get (.v 1) (.v 7)) 9) .nil)))))))))))] [(.c (.lst [(.int .u8)])), (.c (.int .i64))] 8
       (.ite (.cmp .neq (.v 9) (.ki .i64 0))
        (.ret [.nil, (.v 9)])
        (.ev [(.ob (.cmp .leq (.len (.app (.v 4) (.cons (.v 8) .nil))) (.ki .i64 4294967296)))]
         (.back 0 [(.app (.v 4) (.cons (.v 8) .nil)), (.v 5), (.v 6), (.ar .add .i64 (.v 7) (.ki .i64 1))])))))
     (.cal 37 [(.c (.lst [(.lst [(.int .u8)])]))] [(.v 4)] [(.c (.lst [(.int .u8)])), (.c (.int .i64))] 8
      (.ite (.cmp .neq (.v 9) (.ki .i64 0))
       (.ret [.nil, (.v 9)])
       (.ev [(.call 39 [(.c (.int .i64))] [(.v 0)] [(.c (.lst [(.int .u8)]))] 10), (.call 39 [(.c (.int .i64))] [(.v 2)] [(.c (.lst [(.int .u8)]))] 11), (.call 38 [(.c (.lst [(.int .i64), (.lst [(.int .u8)])]))] [(.cons (.rc (.cons (.ki .i64 1) (.cons (.v 10) .nil))) (.cons (.rc (.cons (.ki .i64 2) (.cons (.v 11) .nil))) (.cons (.rc (.cons (.ki .i64 3) (.cons (.v 8) .nil))) .nil)))] [(.c (.lst [(.int .u8)])), (.c (.int .i64))] 12)]
        (.ret [(.v 12), (.v 13)])))))))))
theorem save_ent : EntOK Try.prog [] ⟨23, [(.g [(.int .i64), (.lst [.str, .str, (.int .i64), (.int .i64), (.int .i64), (.int .i64), .str, .bool, (.int .i64), (.lst [(.int .i64), (.int .i64)])]), (.int .i64)])], [(.c (.lst [(.int .u8)])), (.c (.int .i64))], vcsave⟩ :=
  ent_of_gen hP Try.func23 rfl (by decide) (sg := sgs) (by kernel_rfl)
def vcrsave : VC := (.cal 14 [(.g [(.int .i64), (.lst [.str, .str, (.int .i64), (.int .i64), (.int .i64), (.int .i64), .str, .bool, (.int .i64), (.lst [(.int .i64), (.int .i64)])]), (.int .i64)])] [(.rc (.cons (.v 0) (.cons (.v 1) (.cons (.v 2) .nil))))] [(.c (.int .i64))] 3
 (.ite (.cmp .neq (.v 3) (.ki .i64 0))
  (.ret [.nil, (.v 3)])
  (.loop [(.lst [(.lst [(.int .u8)])]), (.int .i64)] [.nil, (.ki .i64 0)]
   (.ite (.cmp .lss (.v 5) (.len (.v 1)))
    (.ev [(.ob (.cmp .geq (.v 5) (.ki .i64 0))), (.ob (.cmp .lss (.v 5) (.len (.v 1))))]
     (.cal 40 [(.g [.str, .str, (.int .i64), (.int .i64), (.int .i64), (.int .i64), .str, .bool, (.int .i64), (.lst [(.int .i64), (.int .i64)])])] [(.rc (.cons (.cell (.get (.v 1) (.v 5)) 0) (.cons (.cell (.get (.v 1) (.v 5)) 1) (.cons (.cell (.get (.v 1) (.v 5)) 2) (.cons (.cell (.get (.v 1) (.v 5)) 3) (.cons (.cell (.get (.v 1) (.v 5)) 4) (.cons (.cell (.get (.v 1) (.v 5)) 5) (.cons (.cell (.get (.v 1) (.v 5)) 6) (.cons (.cell (.get (.v 1) (.v 5)) 7) (.cons (.cell (.get (.v 1) (.v 5)) 8) (.cons (.cell (.get (.v 1) (.v 5)) 9) .nil)))))))))))] [(.c (.lst [(.int .u8)])), (.c (.int .i64))] 6
      (.ev [(.ob (.cmp .leq (.len (.app (.v 4) (.cons (.v 6) .nil))) (.ki .i64 4294967296)))]
       (.back 0 [(.app (.v 4) (.cons (.v 6) .nil)), (.ar .add .i64 (.v 5) (.ki .i64 1))]))))
    (.cal 41 [(.c (.lst [(.lst [(.int .u8)])]))] [(.v 4)] [(.c (.lst [(.int .u8)])), (.c (.int .i64))] 6
     (.cal 42 [(.c (.int .i64))] [(.v 0)] [(.r [(.int .u8)])] 8
      (.cal 42 [(.c (.int .i64))] [(.v 2)] [(.r [(.int .u8)])] 9
       (.cal 43 [(.c (.lst [(.int .i64), (.lst [(.int .u8)])]))] [(.app (.app (.app .nil (.cons (.rc (.cons (.ki .i64 1) (.cons (.v 8) .nil))) .nil)) (.cons (.rc (.cons (.ki .i64 2) (.cons (.v 9) .nil))) .nil)) (.cons (.rc (.cons (.ki .i64 3) (.cons (.v 6) .nil))) .nil))] [(.c (.lst [(.int .u8)])), (.c (.int .i64))] 10
        (.ret [(.v 10), (.v 11)])))))))))
theorem rsave_ent : EntOK Try.prog [] ⟨24, [(.g [(.int .i64), (.lst [.str, .str, (.int .i64), (.int .i64), (.int .i64), (.int .i64), .str, .bool, (.int .i64), (.lst [(.int .i64), (.int .i64)])]), (.int .i64)])], [(.c (.lst [(.int .u8)])), (.c (.int .i64))], vcrsave⟩ :=
  ent_of_gen hP Try.func24 rfl (by decide) (sg := sgs) (by kernel_rfl)
def vcload : VC := (.cal 44 [(.c (.lst [(.int .u8)]))] [(.v 0)] [(.c (.lst [(.int .i64), (.lst [(.int .u8)])])), (.c (.int .i64))] 1
 (.ite (.cmp .neq (.v 2) (.ki .i64 0))
  (.ret [(.rc (.cons (.ki .i64 0) (.cons .nil (.cons (.ki .i64 0) .nil)))), (.v 2)])
  (.ite (.cmp .neq (.len (.v 1)) (.ki .i64 3))
   (.ret [(.rc (.cons (.ki .i64 0) (.cons .nil (.cons (.ki .i64 0) .nil)))), (.ki .i64 5)])
   (.ev [(.ob (.cmp .lss (.ki .i64 0) (.len (.v 1))))]
    (.ite (.cmp .neq (.cell (.get (.v 1) (.ki .i64 0)) 0) (.ki .i64 1))
     (.ret [(.rc (.cons (.ki .i64 0) (.cons .nil (.cons (.ki .i64 0) .nil)))), (.ki .i64 5)])
     (.ev [(.ob (.cmp .lss (.ki .i64 1) (.len (.v 1))))]
      (.ite (.cmp .neq (.cell (.get (.v 1) (.ki .i64 1)) 0) (.ki .i64 2))
       (.ret [(.rc (.cons (.ki .i64 0) (.cons .nil (.cons (.ki .i64 0) .nil)))), (.ki .i64 5)])
       (.ev [(.ob (.cmp .lss (.ki .i64 2) (.len (.v 1))))]
        (.ite (.cmp .neq (.cell (.get (.v 1) (.ki .i64 2)) 0) (.ki .i64 3))
         (.ret [(.rc (.cons (.ki .i64 0) (.cons .nil (.cons (.ki .i64 0) .nil)))), (.ki .i64 5)])
         (.ev [(.ob (.cmp .lss (.ki .i64 0) (.len (.v 1))))]
          (.cal 45 [(.c (.lst [(.int .u8)]))] [(.cell (.get (.v 1) (.ki .i64 0)) 1)] [(.c (.int .i64)), (.c (.int .i64))] 3
           (.ite (.cmp .neq (.v 4) (.ki .i64 0))
            (.ret [(.rc (.cons (.ki .i64 0) (.cons .nil (.cons (.ki .i64 0) .nil)))), (.v 4)])
            (.ev [(.ob (.cmp .lss (.ki .i64 1) (.len (.v 1))))]
             (.cal 45 [(.c (.lst [(.int .u8)]))] [(.cell (.get (.v 1) (.ki .i64 1)) 1)] [(.c (.int .i64)), (.c (.int .i64))] 5
              (.ite (.cmp .neq (.v 6) (.ki .i64 0))
               (.ret [(.rc (.cons (.ki .i64 0) (.cons .nil (.cons (.ki .i64 0) .nil)))), (.v 6)])
               (.ev [(.ob (.cmp .lss (.ki .i64 2) (.len (.v 1))))]
                (.cal 46 [(.c (.lst [(.int .u8)]))] [(.cell (.get (.v 1) (.ki .i64 2)) 1)] [(.c (.lst [(.lst [(.int .u8)])])), (.c (.int .i64))] 7
                 (.ite (.cmp .neq (.v 8) (.ki .i64 0))
                  (.ret [(.rc (.cons (.ki .i64 0) (.cons .nil (.cons (.ki .i64 0) .nil)))), (.v 8)])
                  (.loop [(.int .i64), (.int .i64), (.lst [.str, .str, (.int .i64), (.int .i64), (.int .i64), (.int .i64), .str, .bool, (.int .i64), (.lst [(.int .i64), (.int .i64)])]), (.int .i64), (.int .i64)] [(.v 3), (.v 5), .nil, (.ki .i64 0), (.ki .i64 0)]
                   (.ite (.cmp .lss (.v 13) (.len (.v 7)))
                    (.ev [(.ob (.cmp .geq (.v 13) (.ki .i64 0))), (.ob (.cmp .lss (.v 13) (.len (.v 7))))]
                     (.cal 47 [(.c (.lst [(.int .u8)]))] [(.get (.v 7) (.v 13))] [(.g [.str, .str, (.int .i64), (.int .i64), (.int .i64), (.int .i64), .str, .bool, (.int .i64), (.lst [(.int .i64), (.int .i64)])]), (.c (.int .i64))] 14
                      (.ite (.cmp .neq (.v 24) (.ki .i64 0))
                       (.ret [(.rc (.cons (.ki .i64 0) (.cons .nil (.cons (.ki .i64 0) .nil)))), (.v 24)])
                       (.ev [(.ob (.cmp .leq (.len (.app (.v 11) (.cons (.rc (.cons (.v 14) (.cons (.v 15) (.cons (.v 16) (.cons (.v 17) (.cons (.v 18) (.cons (.v 19) (.cons (.v 20) (.cons (.v 21) (.cons (.v 22) (.cons (.v 23) .nil))))))))))) .nil))) (.ki .i64 4294967296)))]
                        (.back 0 [(.v 9), (.v 10), (.app (.v 11) (.cons (.rc (.cons (.v 14) (.cons (.v 15) (.cons (.v 16) (.cons (.v 17) (.cons (.v 18) (.cons (.v 19) (.cons (.v 20) (.cons (.v 21) (.cons (.v 22) (.cons (.v 23) .nil))))))))))) .nil)), (.v 12), (.ar .add .i64 (.v 13) (.ki .i64 1))])))))
                    (.cal 13 [(.g [(.int .i64), (.lst [.str, .str, (.int .i64), (.int .i64), (.int .i64), (.int .i64), .str, .bool, (.int .i64), (.lst [(.int .i64), (.int .i64)])]), (.int .i64)])] [(.rc (.cons (.v 9) (.cons (.v 11) (.cons (.v 10) .nil))))] [(.c (.int .i64))] 14
                     (.ite (.cmp .neq (.v 14) (.ki .i64 0))
                      (.ret [(.rc (.cons (.ki .i64 0) (.cons .nil (.cons (.ki .i64 0) .nil)))), (.v 14)])
                      (.ret [(.rc (.cons (.v 9) (.cons (.v 11) (.cons (.v 10) .nil)))), (.ki .i64 0)])))))))))))))))))))))))
theorem load_ent : EntOK Try.prog [] ⟨25, [(.c (.lst [(.int .u8)]))], [(.g [(.int .i64), (.lst [.str, .str, (.int .i64), (.int .i64), (.int .i64), (.int .i64), .str, .bool, (.int .i64), (.lst [(.int .i64), (.int .i64)])]), (.int .i64)]), (.c (.int .i64))], vcload⟩ :=
  ent_of_gen hP Try.func25 rfl (by decide) (sg := sgs) (by kernel_rfl)
def vcevent : VC := (.ite (.cmp .eql (.v 0) (.ki .i64 0))
 (.ret [(.rc (.cons (.ks ⟨List.toArray [83]⟩) (.cons (.ks ⟨List.toArray [84]⟩) (.cons (.ki .i64 1) (.cons (.v 0) (.cons (.ki .i64 1) (.cons (.v 0) (.cons (.ks ⟨List.toArray [65]⟩) (.cons (.kb false) (.cons (.ki .i64 0) (.cons (.cons (.rc (.cons (.v 0) (.cons (.ki .i64 7) .nil))) .nil) .nil)))))))))))])
 (.ret [(.rc (.cons (.ks ⟨List.toArray [83]⟩) (.cons (.ks ⟨List.toArray [84]⟩) (.cons (.ki .i64 1) (.cons (.v 0) (.cons (.ki .i64 2) (.cons (.v 0) (.cons (.ks ⟨List.toArray []⟩) (.cons (.kb false) (.cons (.ki .i64 0) (.cons (.cons (.rc (.cons (.v 0) (.cons (.ki .i64 7) .nil))) .nil) .nil)))))))))))]))
theorem event_ent : EntOK Try.prog [] ⟨27, [(.c (.int .i64))], [(.g [.str, .str, (.int .i64), (.int .i64), (.int .i64), (.int .i64), .str, .bool, (.int .i64), (.lst [(.int .i64), (.int .i64)])])], vcevent⟩ :=
  ent_of_gen hP Try.func27 rfl (by decide) (sg := sgs) (by kernel_rfl)
def vcawake : VC := (.cal 11 [(.c (.int .i64))] [(.ki .i64 4)] [(.g [(.int .i64), (.lst [.str, .str, (.int .i64), (.int .i64), (.int .i64), (.int .i64), .str, .bool, (.int .i64), (.lst [(.int .i64), (.int .i64)])]), (.int .i64)]), (.c (.int .i64))] 0
 (.loop [(.int .i64), (.lst [.str, .str, (.int .i64), (.int .i64), (.int .i64), (.int .i64), .str, .bool, (.int .i64), (.lst [(.int .i64), (.int .i64)])]), (.int .i64), .bool, (.int .i64)] [(.v 0), (.v 1), (.v 2), (.kb false), (.ki .i64 0)]
  (.ite (.cmp .lss (.v 8) (.ki .i64 5))
   (.ev [(.call 27 [(.c (.int .i64))] [(.v 8)] [(.g [.str, .str, (.int .i64), (.int .i64), (.int .i64), (.int .i64), .str, .bool, (.int .i64), (.lst [(.int .i64), (.int .i64)])])] 9), (.call 16 [(.g [(.int .i64), (.lst [.str, .str, (.int .i64), (.int .i64), (.int .i64), (.int .i64), .str, .bool, (.int .i64), (.lst [(.int .i64), (.int .i64)])]), (.int .i64)]), (.g [.str, .str, (.int .i64), (.int .i64), (.int .i64), (.int .i64), .str, .bool, (.int .i64), (.lst [(.int .i64), (.int .i64)])])] [(.rc (.cons (.v 4) (.cons (.v 5) (.cons (.v 6) .nil)))), (.rc (.cons (.v 9) (.cons (.v 10) (.cons (.v 11) (.cons (.v 12) (.cons (.v 13) (.cons (.v 14) (.cons (.v 15) (.cons (.v 16) (.cons (.v 17) (.cons (.v 18) .nil)))))))))))] [(.g [(.int .i64), (.lst [.str, .str, (.int .i64), (.int .i64), (.int .i64), (.int .i64), .str, .bool, (.int .i64), (.lst [(.int .i64), (.int .i64)])]), (.int .i64)]), (.c (.int .i64))] 19)]
    (.ite (.cmp .neq (.v 22) (.ki .i64 0))
     (.ret [(.kb false)])
     (.back 0 [(.v 19), (.v 20), (.v 21), (.v 7), (.ar .add .i64 (.v 8) (.ki .i64 1))])))
   (.ite (.cmp .neq (.v 3) (.ki .i64 0))
    (.ret [(.kb false)])
    (.ite (.cmp .neq (.v 6) (.ki .i64 1))
     (.ret [(.kb false)])
     (.ev [(.call 27 [(.c (.int .i64))] [(.ki .i64 0)] [(.g [.str, .str, (.int .i64), (.int .i64), (.int .i64), (.int .i64), .str, .bool, (.int .i64), (.lst [(.int .i64), (.int .i64)])])] 9), (.call 27 [(.c (.int .i64))] [(.ki .i64 2)] [(.g [.str, .str, (.int .i64), (.int .i64), (.int .i64), (.int .i64), .str, .bool, (.int .i64), (.lst [(.int .i64), (.int .i64)])])] 19), (.call 27 [(.c (.int .i64))] [(.ki .i64 3)] [(.g [.str, .str, (.int .i64), (.int .i64), (.int .i64), (.int .i64), .str, .bool, (.int .i64), (.lst [(.int .i64), (.int .i64)])])] 29), (.call 27 [(.c (.int .i64))] [(.ki .i64 4)] [(.g [.str, .str, (.int .i64), (.int .i64), (.int .i64), (.int .i64), .str, .bool, (.int .i64), (.lst [(.int .i64), (.int .i64)])])] 39), (.call 22 [(.c (.lst [.str, .str, (.int .i64), (.int .i64), (.int .i64), (.int .i64), .str, .bool, (.int .i64), (.lst [(.int .i64), (.int .i64)])])), (.c (.lst [.str, .str, (.int .i64), (.int .i64), (.int .i64), (.int .i64), .str, .bool, (.int .i64), (.lst [(.int .i64), (.int .i64)])]))] [(.v 5), (.cons (.rc (.cons (.v 9) (.cons (.v 10) (.cons (.v 11) (.cons (.v 12) (.cons (.v 13) (.cons (.v 14) (.cons (.v 15) (.cons (.v 16) (.cons (.v 17) (.cons (.v 18) .nil))))))))))) (.cons (.rc (.cons (.v 19) (.cons (.v 20) (.cons (.v 21) (.cons (.v 22) (.cons (.v 23) (.cons (.v 24) (.cons (.v 25) (.cons (.v 26) (.cons (.v 27) (.cons (.v 28) .nil))))))))))) (.cons (.rc (.cons (.v 29) (.cons (.v 30) (.cons (.v 31) (.cons (.v 32) (.cons (.v 33) (.cons (.v 34) (.cons (.v 35) (.cons (.v 36) (.cons (.v 37) (.cons (.v 38) .nil))))))))))) (.cons (.rc (.cons (.v 39) (.cons (.v 40) (.cons (.v 41) (.cons (.v 42) (.cons (.v 43) (.cons (.v 44) (.cons (.v 45) (.cons (.v 46) (.cons (.v 47) (.cons (.v 48) .nil))))))))))) .nil))))] [(.c .bool)] 49)]
      (.ite (.v 49)
       (.cal 18 [(.g [(.int .i64), (.lst [.str, .str, (.int .i64), (.int .i64), (.int .i64), (.int .i64), .str, .bool, (.int .i64), (.lst [(.int .i64), (.int .i64)])]), (.int .i64)])] [(.rc (.cons (.v 4) (.cons (.v 5) (.cons (.v 6) .nil))))] [(.g [.str, .str, (.int .i64), (.int .i64), (.int .i64), (.int .i64), .str, .bool, (.int .i64), (.lst [(.int .i64), (.int .i64)])]), (.c .bool)] 50
        (.cal 20 [(.g [(.int .i64), (.lst [.str, .str, (.int .i64), (.int .i64), (.int .i64), (.int .i64), .str, .bool, (.int .i64), (.lst [(.int .i64), (.int .i64)])]), (.int .i64)]), (.c .str), (.c (.int .i64))] [(.rc (.cons (.v 4) (.cons (.v 5) (.cons (.v 6) .nil)))), (.ks ⟨List.toArray [84]⟩), (.ki .i64 2)] [(.g [(.int .i64), (.lst [.str, .str, (.int .i64), (.int .i64), (.int .i64), (.int .i64), .str, .bool, (.int .i64), (.lst [(.int .i64), (.int .i64)])]), (.int .i64)]), (.c (.int .i64))] 61
         (.cal 20 [(.g [(.int .i64), (.lst [.str, .str, (.int .i64), (.int .i64), (.int .i64), (.int .i64), .str, .bool, (.int .i64), (.lst [(.int .i64), (.int .i64)])]), (.int .i64)]), (.c .str), (.c (.int .i64))] [(.rc (.cons (.v 4) (.cons (.v 5) (.cons (.v 6) .nil)))), (.ks ⟨List.toArray [84]⟩), (.ki .i64 0)] [(.g [(.int .i64), (.lst [.str, .str, (.int .i64), (.int .i64), (.int .i64), (.int .i64), .str, .bool, (.int .i64), (.lst [(.int .i64), (.int .i64)])]), (.int .i64)]), (.c (.int .i64))] 65
          (.cal 23 [(.g [(.int .i64), (.lst [.str, .str, (.int .i64), (.int .i64), (.int .i64), (.int .i64), .str, .bool, (.int .i64), (.lst [(.int .i64), (.int .i64)])]), (.int .i64)])] [(.rc (.cons (.v 4) (.cons (.v 5) (.cons (.v 6) .nil))))] [(.c (.lst [(.int .u8)])), (.c (.int .i64))] 69
           (.cal 25 [(.c (.lst [(.int .u8)]))] [(.v 69)] [(.g [(.int .i64), (.lst [.str, .str, (.int .i64), (.int .i64), (.int .i64), (.int .i64), .str, .bool, (.int .i64), (.lst [(.int .i64), (.int .i64)])]), (.int .i64)]), (.c (.int .i64))] 71
            (.cal 11 [(.c (.int .i64))] [(.ki .i64 3)] [(.g [(.int .i64), (.lst [.str, .str, (.int .i64), (.int .i64), (.int .i64), (.int .i64), .str, .bool, (.int .i64), (.lst [(.int .i64), (.int .i64)])]), (.int .i64)]), (.c (.int .i64))] 75
             (.ite (.seq (.v 51) (.ks ⟨List.toArray [84]⟩))
              (.ite (.v 60)
               (.ite (.cmp .eql (.v 64) (.ki .i64 8))
                (.ite (.cmp .eql (.len (.v 66)) (.ki .i64 3))
                 (.ite (.cmp .eql (.v 68) (.ki .i64 0))
                  (.ite (.cmp .eql (.v 70) (.ki .i64 0))
                   (.cal 15 [(.g [(.int .i64), (.lst [.str, .str, (.int .i64), (.int .i64), (.int .i64), (.int .i64), .str, .bool, (.int .i64), (.lst [(.int .i64), (.int .i64)])]), (.int .i64)]), (.g [(.int .i64), (.lst [.str, .str, (.int .i64), (.int .i64), (.int .i64), (.int .i64), .str, .bool, (.int .i64), (.lst [(.int .i64), (.int .i64)])]), (.int .i64)])] [(.rc (.cons (.v 71) (.cons (.v 72) (.cons (.v 73) .nil)))), (.rc (.cons (.v 4) (.cons (.v 5) (.cons (.v 6) .nil))))] [(.c .bool)] 79
                    (.ite (.v 79)
                     (.ite (.cmp .eql (.v 74) (.ki .i64 0))
                      (.ite (.cmp .eql (.v 78) (.ki .i64 2))
                       (.cal 13 [(.g [(.int .i64), (.lst [.str, .str, (.int .i64), (.int .i64), (.int .i64), (.int .i64), .str, .bool, (.int .i64), (.lst [(.int .i64), (.int .i64)])]), (.int .i64)])] [(.rc (.cons (.v 4) (.cons (.v 5) (.cons (.v 6) .nil))))] [(.c (.int .i64))] 80
                        (.ret [(.cmp .eql (.v 80) (.ki .i64 0))]))
                       (.ret [(.kb false)]))
                      (.ret [(.kb false)]))
                     (.ret [(.kb false)])))
                   (.ret [(.kb false)]))
                  (.ret [(.kb false)]))
                 (.ret [(.kb false)]))
                (.ret [(.kb false)]))
               (.ret [(.kb false)]))
              (.ret [(.kb false)]))))))))
       (.ret [(.kb false)]))))))))
theorem awake_ent : EntOK Try.prog [] ⟨10, [], [(.c .bool)], vcawake⟩ :=
  ent_of_gen hP Try.func10 rfl (by decide) (sg := sgs) (by kernel_rfl)

abbrev Evt := E30.Ev
abbrev evsD (l : List Evt) : D := .lst (l.map evD)
abbrev tEs : TS := .c (.lst [.str, .str, .int .i64, .int .i64, .int .i64, .int .i64, .str, .bool, .int .i64, .lst [.int .i64, .int .i64]])
structure Ob where
  rm : Int
  it : List Evt
  lo : Int
  deriving DecidableEq
abbrev obL (o : Ob) : List D := [I64d o.rm, evsD o.it, I64d o.lo]
abbrev obD (o : Ob) : D := .rc (obL o)
abbrev tO : TS := .g [.int .i64, .lst [.str, .str, .int .i64, .int .i64, .int .i64, .int .i64, .str, .bool, .int .i64, .lst [.int .i64, .int .i64]], .int .i64]
structure ObT (o : Ob) : Prop where
  rm : inI o.rm
  lo : inI o.lo
  ln : o.it.length ≤ 4294967200
  it : ∀ e ∈ o.it, EvT e
def ob0 : Ob := ⟨0, [], 0⟩
/-! what the answers are -/
def errL : List Evt → Int
  | [] => 0
  | e :: l => if validS e ≠ 0 then validS e else errL l
def ovS (o : Ob) : Int := if o.rm < 4 ∨ 256 < o.rm ∨ o.lo < 0 ∨ 2147483647 < o.lo then 2 else if o.rm < (o.it.length : Int) then 3 else errL o.it
def newS (n : Int) : Ob := if n < 4 ∨ 256 < n then ob0 else ⟨n, [], 0⟩
def newE (n : Int) : Int := if n < 4 ∨ 256 < n then 2 else 0
def disG : Nat → List Evt → Int
  | _, [] => -1
  | i, e :: l => if 0 < i ∧ e.ki = 2 then i else disG (i + 1) l
def woS (l : List Evt) (k : Int) : List Evt := if 0 ≤ k ∧ k < l.length then l.take k.toNat ++ l.drop (k.toNat + 1) else l
def shortE (e : Evt) : Bool := decide (e.st.size ≤ 50 ∧ e.tx.size ≤ 50 ∧ e.tk.size ≤ 50 ∧ e.rd.length ≤ 18)
theorem disG_ge : ∀ (l : List Evt) (i : Nat), disG i l = -1 ∨ (i ≤ disG i l ∧ disG i l < i + l.length ∧ 0 < disG i l)
  | [], i => .inl rfl
  | e :: l, i => by
    simp only [disG, List.length_cons]
    split
    · right; omega
    · rcases disG_ge l (i + 1) with h | h
      · exact .inl h
      · right; omega
theorem clone_fn (e : Evt) (hl : e.rd.length ≤ 4294967296) : Fun Try.prog [] 34 [tE] [evD e] [tE] (.ok [evD e]) := by
  refine clone_ent _ _ ?_
  show vcclone.den _ _ _ _ _
  unfold vcclone
  refine den_cal [rdD e.rd] rfl (clonerd_fn e.rd hl) rfl rfl (den_ret rfl)
theorem short_fn (l : List Evt) (hl : l.length ≤ 4294967296) : Fun Try.prog [] 9 [tEs] [evsD l] [tB] (.ok [.bool (l.all shortE)]) := by
  refine short_ent _ _ ?_
  show vcshort.den _ _ _ _ _
  unfold vcshort
  refine den_loop (fun xs => ∃ (q : Bool) (i : Nat), xs = [.bool q, I64d i] ∧ i ≤ l.length ∧ (l.take i).all shortE = true) (fun xs => l.length - (xs.getD 1 default).toI.toNat) ⟨false, 0, rfl, by omega, rfl⟩ ?_
  simp only [AllSh]
  intro q n _ _ ⟨_, i, he, hi, hall⟩
  simp only [List.cons.injEq, D.int.injEq, D.bool.injEq, true_and, and_true] at he
  obtain ⟨rfl, rfl⟩ := he
  (try simp only [List.cons_append, List.nil_append])
  refine den_ite (fun h => ?_) (fun h => den_ret ?_)
  · simp only [E.den, D.toI, D.toB, D.toL, D.toS, D.len, D.mapL, flatD, dE] at h
    have hi' : i < l.length := by omega
    have hg := getD_map (g := evD) ev0 hi'
    have htk := take_get ev0 hi'
    have hbad : shortE (l.getD i ev0) = false → (FR.ok [D.bool false] : FR) = FR.ok [.bool (l.all shortE)] := fun h => by
      have : l.all shortE = false := by
        rw [List.all_eq_false]
        exact ⟨l.getD i ev0, mem_getD ev0 hi', by rw [h]; decide⟩
      rw [this]
    have hw : IntKind.wrap .i64 ((i : Int) + 1) = ((i + 1 : Nat) : Int) := by rw [wrap_i64 (by omega) (by omega)]; omega
    refine den_ev (evs_ob (by simp only [E.den, D.toI, D.toB, D.toL, D.toS, D.len, D.mapL, flatD, dE]; omega) (evs_ob (by simp only [E.den, D.toI, D.toB, D.toL, D.toS, D.len, D.mapL, flatD, dE]; omega) (evs_nil ?_)))
    refine den_ite (fun k0 => ?_) (fun k0 => ?_)
    · simp only [E.den, D.toI, D.toB, D.toL, D.toS, D.len, D.mapL, flatD, dE, hg] at k0
      exact den_ret (hbad (by simp only [shortE, decide_eq_false_iff_not]; omega))
    · simp only [E.den, D.toI, D.toB, D.toL, D.toS, D.len, D.mapL, flatD, dE, hg] at k0
      refine den_ev (evs_ob (by simp only [E.den, D.toI, D.toB, D.toL, D.toS, D.len, D.mapL, flatD, dE]; omega) (evs_ob (by simp only [E.den, D.toI, D.toB, D.toL, D.toS, D.len, D.mapL, flatD, dE]; omega) (evs_nil ?_)))
      refine den_ite (fun k1 => ?_) (fun k1 => ?_)
      · simp only [E.den, D.toI, D.toB, D.toL, D.toS, D.len, D.mapL, flatD, dE, hg] at k1
        exact den_ret (hbad (by simp only [shortE, decide_eq_false_iff_not]; omega))
      · simp only [E.den, D.toI, D.toB, D.toL, D.toS, D.len, D.mapL, flatD, dE, hg] at k1
        refine den_ev (evs_ob (by simp only [E.den, D.toI, D.toB, D.toL, D.toS, D.len, D.mapL, flatD, dE]; omega) (evs_ob (by simp only [E.den, D.toI, D.toB, D.toL, D.toS, D.len, D.mapL, flatD, dE]; omega) (evs_nil ?_)))
        refine den_ite (fun k6 => ?_) (fun k6 => ?_)
        · simp only [E.den, D.toI, D.toB, D.toL, D.toS, D.len, D.mapL, flatD, dE, hg] at k6
          exact den_ret (hbad (by simp only [shortE, decide_eq_false_iff_not]; omega))
        · simp only [E.den, D.toI, D.toB, D.toL, D.toS, D.len, D.mapL, flatD, dE, hg] at k6
          refine den_ev (evs_ob (by simp only [E.den, D.toI, D.toB, D.toL, D.toS, D.len, D.mapL, flatD, dE]; omega) (evs_ob (by simp only [E.den, D.toI, D.toB, D.toL, D.toS, D.len, D.mapL, flatD, dE]; omega) (evs_nil ?_)))
          refine den_ite (fun k9 => ?_) (fun k9 => ?_)
          · simp only [E.den, D.toI, D.toB, D.toL, D.toS, D.len, D.mapL, flatD, dE, hg] at k9
            exact den_ret (hbad (by simp only [shortE, decide_eq_false_iff_not]; omega))
          · simp only [E.den, D.toI, D.toB, D.toL, D.toS, D.len, D.mapL, flatD, dE, hg] at k9
            refine den_back rfl ⟨q, i + 1, (by simp only [E.den, D.toI, D.toB, D.toL, D.toS, D.len, D.mapL, flatD, dE]; rw [hw]), by omega, ?_⟩ (by simp only []; simp only [E.den, D.toI, D.toB, D.toL, D.toS, D.len, D.mapL, flatD, dE]; rw [hw]; omega)
            rw [htk, List.all_append, hall]
            simp only [List.all_cons, List.all_nil, Bool.and_true, Bool.true_and, shortE, decide_eq_true_eq]
            omega
  · simp only [E.den, D.toI, D.toB, D.toL, D.toS, D.len, D.mapL, flatD, dE] at h
    have : i = l.length := by omega
    subst this
    rw [List.take_length] at hall
    simp only [E.den, D.toI, D.toB, D.toL, D.toS, D.len, D.mapL, flatD, dE]
    rw [hall]
theorem room_fn (v : Int) : Fun Try.prog [] 28 [tI] [I64d v] [tB] (.ok [.bool (decide (4 ≤ v ∧ v ≤ 256))]) := by
  refine room_ent _ _ ?_
  show vcroom.den _ _ _ _ _
  unfold vcroom
  refine den_ite (fun h => den_ret ?_) (fun h => den_ret ?_) <;> simp only [E.den, D.toI, D.toB, D.toL, D.toS, D.len, D.mapL, flatD, dE] at h <;> simp only [E.den, D.toI, D.toB, D.toL, D.toS, D.len, D.mapL, flatD, dE] <;> simp [h] <;> omega
theorem new_fn (v : Int) : Fun Try.prog [] 11 [tI] [I64d v] [tO, tI] (.ok [obD (newS v), I64d (newE v)]) := by
  refine new_ent _ _ ?_
  show vcnew.den _ _ _ _ _
  unfold vcnew
  refine den_ite (fun h1 => ?_) (fun h1 => ?_)
  · simp only [E.den, D.toI, D.toB, D.toL, D.toS, D.len, D.mapL, flatD, dE, str_eq, emp_iff] at h1
    refine den_ret ?_
    simp only [E.den, D.toI, D.toB, D.toL, D.toS, D.len, D.mapL, flatD, dE]
    (first | (have hn : v < 4 ∨ 256 < v := (by omega); rw [show newS v = ob0 from by (unfold newS; rw [if_pos hn]), show newE v = 2 from by (unfold newE; rw [if_pos hn])]; rfl) | (have hn : ¬ (v < 4 ∨ 256 < v) := (by omega); rw [show newS v = ⟨v, [], 0⟩ from by (unfold newS; rw [if_neg hn]), show newE v = 0 from by (unfold newE; rw [if_neg hn])]; rfl))
  · simp only [E.den, D.toI, D.toB, D.toL, D.toS, D.len, D.mapL, flatD, dE, str_eq, emp_iff] at h1
    refine den_ite (fun h2 => ?_) (fun h2 => ?_)
    · simp only [E.den, D.toI, D.toB, D.toL, D.toS, D.len, D.mapL, flatD, dE, str_eq, emp_iff] at h2
      refine den_ret ?_
      simp only [E.den, D.toI, D.toB, D.toL, D.toS, D.len, D.mapL, flatD, dE]
      (first | (have hn : v < 4 ∨ 256 < v := (by omega); rw [show newS v = ob0 from by (unfold newS; rw [if_pos hn]), show newE v = 2 from by (unfold newE; rw [if_pos hn])]; rfl) | (have hn : ¬ (v < 4 ∨ 256 < v) := (by omega); rw [show newS v = ⟨v, [], 0⟩ from by (unfold newS; rw [if_neg hn]), show newE v = 0 from by (unfold newE; rw [if_neg hn])]; rfl))
    · simp only [E.den, D.toI, D.toB, D.toL, D.toS, D.len, D.mapL, flatD, dE, str_eq, emp_iff] at h2
      refine den_ret ?_
      simp only [E.den, D.toI, D.toB, D.toL, D.toS, D.len, D.mapL, flatD, dE]
      (first | (have hn : v < 4 ∨ 256 < v := (by omega); rw [show newS v = ob0 from by (unfold newS; rw [if_pos hn]), show newE v = 2 from by (unfold newE; rw [if_pos hn])]; rfl) | (have hn : ¬ (v < 4 ∨ 256 < v) := (by omega); rw [show newS v = ⟨v, [], 0⟩ from by (unfold newS; rw [if_neg hn]), show newE v = 0 from by (unfold newE; rw [if_neg hn])]; rfl))
theorem rnew_fn (v : Int) : Fun Try.prog [] 12 [tI] [I64d v] [tO, tI] (.ok [obD (newS v), I64d (newE v)]) := by
  refine rnew_ent _ _ ?_
  show vcrnew.den _ _ _ _ _
  unfold vcrnew
  refine den_cal [.bool (decide (4 ≤ v ∧ v ≤ 256))] rfl (room_fn v) rfl rfl ?_
  refine den_ite (fun h1 => ?_) (fun h1 => ?_)
  · simp only [E.den, D.toI, D.toB, D.toL, D.toS, D.len, D.mapL, flatD, dE, str_eq, emp_iff] at h1
    refine den_ret ?_
    simp only [E.den, D.toI, D.toB, D.toL, D.toS, D.len, D.mapL, flatD, dE]
    (first | (have hn : v < 4 ∨ 256 < v := (by omega); rw [show newS v = ob0 from by (unfold newS; rw [if_pos hn]), show newE v = 2 from by (unfold newE; rw [if_pos hn])]; rfl) | (have hn : ¬ (v < 4 ∨ 256 < v) := (by omega); rw [show newS v = ⟨v, [], 0⟩ from by (unfold newS; rw [if_neg hn]), show newE v = 0 from by (unfold newE; rw [if_neg hn])]; rfl))
  · simp only [E.den, D.toI, D.toB, D.toL, D.toS, D.len, D.mapL, flatD, dE, str_eq, emp_iff] at h1
    refine den_ret ?_
    simp only [E.den, D.toI, D.toB, D.toL, D.toS, D.len, D.mapL, flatD, dE]
    (first | (have hn : v < 4 ∨ 256 < v := (by omega); rw [show newS v = ob0 from by (unfold newS; rw [if_pos hn]), show newE v = 2 from by (unfold newE; rw [if_pos hn])]; rfl) | (have hn : ¬ (v < 4 ∨ 256 < v) := (by omega); rw [show newS v = ⟨v, [], 0⟩ from by (unfold newS; rw [if_neg hn]), show newE v = 0 from by (unfold newE; rw [if_neg hn])]; rfl))
theorem ovalid_fn (o : Ob) (ho : ObT o) : Fun Try.prog [] 13 [tO] [obD o] [tI] (.ok [I64d (ovS o)]) := by
  refine ovalid_ent _ _ ?_
  show vcovalid.den _ _ _ _ _
  unfold vcovalid
  have hln := ho.ln
  refine den_ite (fun h1 => ?_) (fun h1 => ?_)
  · simp only [E.den, D.toI, D.toB, D.toL, D.toS, D.len, D.mapL, flatD, dE, str_eq, emp_iff] at h1
    refine den_ret ?_
    simp only [E.den, D.toI, D.toB, D.toL, D.toS, D.len, D.mapL, flatD, dE]
    rw [show ovS o = 2 from by unfold ovS; rw [if_pos (by omega)]]
  · simp only [E.den, D.toI, D.toB, D.toL, D.toS, D.len, D.mapL, flatD, dE, str_eq, emp_iff] at h1
    refine den_ite (fun h2 => ?_) (fun h2 => ?_)
    · simp only [E.den, D.toI, D.toB, D.toL, D.toS, D.len, D.mapL, flatD, dE, str_eq, emp_iff] at h2
      refine den_ret ?_
      simp only [E.den, D.toI, D.toB, D.toL, D.toS, D.len, D.mapL, flatD, dE]
      rw [show ovS o = 2 from by unfold ovS; rw [if_pos (by omega)]]
    · simp only [E.den, D.toI, D.toB, D.toL, D.toS, D.len, D.mapL, flatD, dE, str_eq, emp_iff] at h2
      refine den_ite (fun h3 => ?_) (fun h3 => ?_)
      · simp only [E.den, D.toI, D.toB, D.toL, D.toS, D.len, D.mapL, flatD, dE, str_eq, emp_iff] at h3
        refine den_ret ?_
        simp only [E.den, D.toI, D.toB, D.toL, D.toS, D.len, D.mapL, flatD, dE]
        rw [show ovS o = 2 from by unfold ovS; rw [if_pos (by omega)]]
      · simp only [E.den, D.toI, D.toB, D.toL, D.toS, D.len, D.mapL, flatD, dE, str_eq, emp_iff] at h3
        refine den_ite (fun h4 => ?_) (fun h4 => ?_)
        · simp only [E.den, D.toI, D.toB, D.toL, D.toS, D.len, D.mapL, flatD, dE, str_eq, emp_iff] at h4
          refine den_ret ?_
          simp only [E.den, D.toI, D.toB, D.toL, D.toS, D.len, D.mapL, flatD, dE]
          rw [show ovS o = 2 from by unfold ovS; rw [if_pos (by omega)]]
        · simp only [E.den, D.toI, D.toB, D.toL, D.toS, D.len, D.mapL, flatD, dE, str_eq, emp_iff] at h4
          refine den_ite (fun h5 => ?_) (fun h5 => ?_)
          · simp only [E.den, D.toI, D.toB, D.toL, D.toS, D.len, D.mapL, flatD, dE, str_eq, emp_iff] at h5
            refine den_ret ?_
            simp only [E.den, D.toI, D.toB, D.toL, D.toS, D.len, D.mapL, flatD, dE]
            rw [show ovS o = 3 from by unfold ovS; rw [if_neg (by omega), if_pos (by omega)]]
          · simp only [E.den, D.toI, D.toB, D.toL, D.toS, D.len, D.mapL, flatD, dE, str_eq, emp_iff] at h5
            refine den_loop (fun xs => ∃ (q : Int) (i : Nat), xs = [I64d q, I64d i] ∧ i ≤ o.it.length ∧ errL o.it = errL (o.it.drop i)) (fun xs => o.it.length - (xs.getD 1 default).toI.toNat) ⟨0, 0, rfl, by omega, rfl⟩ ?_
            simp only [AllSh]
            intro q _ _ n _ _ ⟨_, i, hq, hi, hv⟩
            simp only [List.cons.injEq, D.int.injEq, true_and, and_true] at hq
            obtain ⟨rfl, rfl⟩ := hq
            (try simp only [List.cons_append, List.nil_append])
            have hov : ovS o = errL o.it := by unfold ovS; rw [if_neg (by omega), if_neg (by omega)]
            refine den_ite (fun k1 => ?_) (fun k1 => den_ret ?_)
            · simp only [E.den, D.toI, D.toB, D.toL, D.toS, D.len, D.mapL, flatD, dE] at k1
              have hi' : i < o.it.length := by omega
              have hg := getD_map (g := evD) ev0 hi'
              rw [drop_get ev0 hi', errL] at hv
              have hw : IntKind.wrap .i64 ((i : Int) + 1) = ((i + 1 : Nat) : Int) := by rw [wrap_i64 (by omega) (by omega)]; omega
              refine den_ev (evs_ob (by simp only [E.den, D.toI, D.toB, D.toL, D.toS, D.len, D.mapL, flatD, dE]; omega) (evs_ob (by simp only [E.den, D.toI, D.toB, D.toL, D.toS, D.len, D.mapL, flatD, dE]; omega) (evs_nil ?_)))
              refine den_cal [I64d (validS (o.it.getD i ev0))] rfl (E30.valid_fn (o.it.getD i ev0) (ho.it _ (mem_getD ev0 hi'))) (by simp only [E.den, D.toI, D.toB, D.toL, D.toS, D.len, D.mapL, flatD, dE, hg]) rfl ?_
              (try simp only [List.cons_append, List.nil_append])
              refine den_ite (fun k2 => den_ret ?_) (fun k2 => ?_)
              · simp only [E.den, D.toI, D.toB, D.toL, D.toS, D.len, D.mapL, flatD, dE] at k2
                simp only [E.den, D.toI, D.toB, D.toL, D.toS, D.len, D.mapL, flatD, dE]
                rw [hov, hv, if_pos k2]
              · simp only [E.den, D.toI, D.toB, D.toL, D.toS, D.len, D.mapL, flatD, dE] at k2
                refine den_back rfl ⟨q, i + 1, (by simp only [E.den, D.toI, D.toB, D.toL, D.toS, D.len, D.mapL, flatD, dE]; rw [hw]), by omega, ?_⟩ (by simp only []; simp only [E.den, D.toI, D.toB, D.toL, D.toS, D.len, D.mapL, flatD, dE]; rw [hw]; omega)
                rw [hv, if_neg (fun c => c k2)]
            · simp only [E.den, D.toI, D.toB, D.toL, D.toS, D.len, D.mapL, flatD, dE] at k1
              have : i = o.it.length := by omega
              subst this
              rw [List.drop_length] at hv
              simp only [E.den, D.toI, D.toB, D.toL, D.toS, D.len, D.mapL, flatD, dE]
              rw [hov, hv]
              rfl
theorem rovalid_fn (o : Ob) (ho : ObT o) : Fun Try.prog [] 14 [tO] [obD o] [tI] (.ok [I64d (ovS o)]) := by
  refine rovalid_ent _ _ ?_
  show vcrovalid.den _ _ _ _ _
  unfold vcrovalid
  have hln := ho.ln
  refine den_cal [.bool (decide (4 ≤ o.rm ∧ o.rm ≤ 256))] rfl (room_fn o.rm) rfl rfl ?_
  refine den_ite (fun h1 => ?_) (fun h1 => ?_)
  · simp only [E.den, D.toI, D.toB, D.toL, D.toS, D.len, D.mapL, flatD, dE, str_eq, emp_iff] at h1
    refine den_ite (fun h2 => ?_) (fun h2 => ?_)
    · simp only [E.den, D.toI, D.toB, D.toL, D.toS, D.len, D.mapL, flatD, dE, str_eq, emp_iff] at h2
      refine den_ret ?_
      simp only [E.den, D.toI, D.toB, D.toL, D.toS, D.len, D.mapL, flatD, dE]
      rw [show ovS o = 2 from by unfold ovS; rw [if_pos (by omega)]]
    · simp only [E.den, D.toI, D.toB, D.toL, D.toS, D.len, D.mapL, flatD, dE, str_eq, emp_iff] at h2
      refine den_ite (fun h3 => ?_) (fun h3 => ?_)
      · simp only [E.den, D.toI, D.toB, D.toL, D.toS, D.len, D.mapL, flatD, dE, str_eq, emp_iff] at h3
        refine den_ret ?_
        simp only [E.den, D.toI, D.toB, D.toL, D.toS, D.len, D.mapL, flatD, dE]
        rw [show ovS o = 2 from by unfold ovS; rw [if_pos (by omega)]]
      · simp only [E.den, D.toI, D.toB, D.toL, D.toS, D.len, D.mapL, flatD, dE, str_eq, emp_iff] at h3
        refine den_ite (fun h4 => ?_) (fun h4 => ?_)
        · simp only [E.den, D.toI, D.toB, D.toL, D.toS, D.len, D.mapL, flatD, dE, str_eq, emp_iff] at h4
          refine den_ret ?_
          simp only [E.den, D.toI, D.toB, D.toL, D.toS, D.len, D.mapL, flatD, dE]
          rw [show ovS o = 3 from by unfold ovS; rw [if_neg (by omega), if_pos (by omega)]]
        · simp only [E.den, D.toI, D.toB, D.toL, D.toS, D.len, D.mapL, flatD, dE, str_eq, emp_iff] at h4
          refine den_loop (fun xs => ∃ (q : Int) (i : Nat), xs = [I64d q, I64d i] ∧ i ≤ o.it.length ∧ errL o.it = errL (o.it.drop i)) (fun xs => o.it.length - (xs.getD 1 default).toI.toNat) ⟨0, 0, rfl, by omega, rfl⟩ ?_
          simp only [AllSh]
          intro q _ _ n _ _ ⟨_, i, hq, hi, hv⟩
          simp only [List.cons.injEq, D.int.injEq, true_and, and_true] at hq
          obtain ⟨rfl, rfl⟩ := hq
          (try simp only [List.cons_append, List.nil_append])
          have hov : ovS o = errL o.it := by unfold ovS; rw [if_neg (by omega), if_neg (by omega)]
          refine den_ite (fun k1 => ?_) (fun k1 => den_ret ?_)
          · simp only [E.den, D.toI, D.toB, D.toL, D.toS, D.len, D.mapL, flatD, dE] at k1
            have hi' : i < o.it.length := by omega
            have hg := getD_map (g := evD) ev0 hi'
            rw [drop_get ev0 hi', errL] at hv
            have hw : IntKind.wrap .i64 ((i : Int) + 1) = ((i + 1 : Nat) : Int) := by rw [wrap_i64 (by omega) (by omega)]; omega
            refine den_ev (evs_ob (by simp only [E.den, D.toI, D.toB, D.toL, D.toS, D.len, D.mapL, flatD, dE]; omega) (evs_ob (by simp only [E.den, D.toI, D.toB, D.toL, D.toS, D.len, D.mapL, flatD, dE]; omega) (evs_nil ?_)))
            refine den_cal [I64d (validS (o.it.getD i ev0))] rfl (E30.rvalid_fn (o.it.getD i ev0) (ho.it _ (mem_getD ev0 hi'))) (by simp only [E.den, D.toI, D.toB, D.toL, D.toS, D.len, D.mapL, flatD, dE, hg]) rfl ?_
            (try simp only [List.cons_append, List.nil_append])
            refine den_ite (fun k2 => den_ret ?_) (fun k2 => ?_)
            · simp only [E.den, D.toI, D.toB, D.toL, D.toS, D.len, D.mapL, flatD, dE] at k2
              simp only [E.den, D.toI, D.toB, D.toL, D.toS, D.len, D.mapL, flatD, dE]
              rw [hov, hv, if_pos k2]
            · simp only [E.den, D.toI, D.toB, D.toL, D.toS, D.len, D.mapL, flatD, dE] at k2
              refine den_back rfl ⟨q, i + 1, (by simp only [E.den, D.toI, D.toB, D.toL, D.toS, D.len, D.mapL, flatD, dE]; rw [hw]), by omega, ?_⟩ (by simp only []; simp only [E.den, D.toI, D.toB, D.toL, D.toS, D.len, D.mapL, flatD, dE]; rw [hw]; omega)
              rw [hv, if_neg (fun c => c k2)]
          · simp only [E.den, D.toI, D.toB, D.toL, D.toS, D.len, D.mapL, flatD, dE] at k1
            have : i = o.it.length := by omega
            subst this
            rw [List.drop_length] at hv
            simp only [E.den, D.toI, D.toB, D.toL, D.toS, D.len, D.mapL, flatD, dE]
            rw [hov, hv]
            rfl
  · simp only [E.den, D.toI, D.toB, D.toL, D.toS, D.len, D.mapL, flatD, dE, str_eq, emp_iff] at h1
    refine den_ret ?_
    simp only [E.den, D.toI, D.toB, D.toL, D.toS, D.len, D.mapL, flatD, dE]
    rw [show ovS o = 2 from by unfold ovS; rw [if_pos (by omega)]]
theorem sameall_fn (a b : List Evt) (ha : a.length ≤ 4294967296) (hb : b.length ≤ 4294967296) (hat : ∀ e ∈ a, EvT e) (hbt : ∀ e ∈ b, EvT e) : Fun Try.prog [] 22 [tEs, tEs] [evsD a, evsD b] [tB] (.ok [.bool (decide (a = b))]) := by
  refine sameall_ent _ _ ?_
  show vcsameall.den _ _ _ _ _
  unfold vcsameall
  refine den_ite (fun h => den_ret ?_) (fun h => ?_)
  · simp only [E.den, D.toI, D.toB, D.toL, D.toS, D.len, D.mapL, flatD, dE] at h
    have hne : a ≠ b := fun e => h (by rw [e])
    simp only [E.den, D.toI, D.toB, D.toL, D.toS, D.len, D.mapL, flatD, dE]
    simp [hne]
  simp only [E.den, D.toI, D.toB, D.toL, D.toS, D.len, D.mapL, flatD, dE] at h
  refine den_loop (fun xs => ∃ (q : Bool) (i : Nat), xs = [.bool q, I64d i] ∧ i ≤ a.length ∧ a.take i = b.take i) (fun xs => a.length - (xs.getD 1 default).toI.toNat) ⟨false, 0, rfl, by omega, rfl⟩ ?_
  simp only [AllSh]
  intro q n _ _ ⟨_, i, he, hi, htk⟩
  simp only [List.cons.injEq, D.int.injEq, D.bool.injEq, true_and, and_true] at he
  obtain ⟨rfl, rfl⟩ := he
  (try simp only [List.cons_append, List.nil_append])
  refine den_ite (fun h2 => ?_) (fun h2 => ?_)
  · simp only [E.den, D.toI, D.toB, D.toL, D.toS, D.len, D.mapL, flatD, dE] at h2
    have hia : i < a.length := by omega
    have hib : i < b.length := by omega
    have ga := getD_map (g := evD) ev0 hia
    have gb := getD_map (g := evD) ev0 hib
    have hw : IntKind.wrap .i64 ((i : Int) + 1) = ((i + 1 : Nat) : Int) := by rw [wrap_i64 (by omega) (by omega)]; omega
    refine den_ev (evs_ob (by simp only [E.den, D.toI, D.toB, D.toL, D.toS, D.len, D.mapL, flatD, dE]; omega) (evs_ob (by simp only [E.den, D.toI, D.toB, D.toL, D.toS, D.len, D.mapL, flatD, dE]; omega) (evs_ob (by simp only [E.den, D.toI, D.toB, D.toL, D.toS, D.len, D.mapL, flatD, dE]; omega) (evs_ob (by simp only [E.den, D.toI, D.toB, D.toL, D.toS, D.len, D.mapL, flatD, dE]; omega) (evs_nil ?_)))))
    refine den_cal [.bool (decide (a.getD i ev0 = b.getD i ev0))] rfl (rsame_fn (a.getD i ev0) (b.getD i ev0) (hat _ (mem_getD ev0 hia)).rl (hbt _ (mem_getD ev0 hib)).rl) (by simp only [E.den, D.toI, D.toB, D.toL, D.toS, D.len, D.mapL, flatD, dE, ga, gb]) rfl ?_
    (try simp only [List.cons_append, List.nil_append])
    refine den_ite (fun h3 => ?_) (fun h3 => den_ret ?_)
    · simp only [E.den, D.toI, D.toB, D.toL, D.toS, D.len, D.mapL, flatD, dE] at h3
      exact den_back rfl ⟨q, i + 1, (by simp only [E.den, D.toI, D.toB, D.toL, D.toS, D.len, D.mapL, flatD, dE]; rw [hw]), by omega, take_step ev0 hia hib htk h3⟩ (by simp only []; simp only [E.den, D.toI, D.toB, D.toL, D.toS, D.len, D.mapL, flatD, dE]; rw [hw]; omega)
    · simp only [E.den, D.toI, D.toB, D.toL, D.toS, D.len, D.mapL, flatD, dE] at h3
      have hne : a ≠ b := fun e => h3 (by rw [e])
      simp only [E.den, D.toI, D.toB, D.toL, D.toS, D.len, D.mapL, flatD, dE]
      simp [hne]
  · simp only [E.den, D.toI, D.toB, D.toL, D.toS, D.len, D.mapL, flatD, dE] at h2
    have hia : i = a.length := by omega
    subst hia
    have heq : a = b := take_all (by omega) htk
    refine den_ret ?_
    simp only [E.den, D.toI, D.toB, D.toL, D.toS, D.len, D.mapL, flatD, dE]
    simp [heq]
theorem osame_fn (a b : Ob) (ha : ObT a) (hb : ObT b) : Fun Try.prog [] 15 [tO, tO] [obD a, obD b] [tB] (.ok [.bool (decide (a = b))]) := by
  refine osame_ent _ _ ?_
  show vcosame.den _ _ _ _ _
  unfold vcosame
  have hla := ha.ln
  have hlb := hb.ln
  refine den_ite (fun h => ?_) (fun h => den_ret ?_)
  · simp only [E.den, D.toI, D.toB, D.toL, D.toS, D.len, D.mapL, flatD, dE] at h
    refine den_ite (fun h2 => ?_) (fun h2 => den_ret ?_)
    · simp only [E.den, D.toI, D.toB, D.toL, D.toS, D.len, D.mapL, flatD, dE] at h2
      refine den_cal [.bool (decide (a.it = b.it))] rfl (sameall_fn a.it b.it (by omega) (by omega) ha.it hb.it) rfl rfl (den_ret ?_)
      simp only [E.den, D.toI, D.toB, D.toL, D.toS, D.len, D.mapL, flatD, dE]
      have heq : (a = b) ↔ (a.it = b.it) := by (cases a; cases b; simp_all)
      simp only [heq]
    · simp only [E.den, D.toI, D.toB, D.toL, D.toS, D.len, D.mapL, flatD, dE] at h2
      have hne : a ≠ b := fun e => h2 (by rw [e])
      simp only [E.den, D.toI, D.toB, D.toL, D.toS, D.len, D.mapL, flatD, dE]
      simp [hne]
  · simp only [E.den, D.toI, D.toB, D.toL, D.toS, D.len, D.mapL, flatD, dE] at h
    have hne : a ≠ b := fun e => h (by rw [e])
    simp only [E.den, D.toI, D.toB, D.toL, D.toS, D.len, D.mapL, flatD, dE]
    simp [hne]
theorem join_fn (a b : List Evt) (e : Evt) (ha : a.length + b.length ≤ 4294967200) (hat : ∀ x ∈ a, x.rd.length ≤ 4294967296) (hbt : ∀ x ∈ b, x.rd.length ≤ 4294967296) (het : e.rd.length ≤ 4294967296) : Fun Try.prog [] 31 [tEs, tEs, tE] [evsD a, evsD b, evD e] [tEs] (.ok [evsD (a ++ b ++ [e])]) := by
  refine join_ent _ _ ?_
  show vcjoin.den _ _ _ _ _
  unfold vcjoin
  have hw1 : IntKind.wrap .i64 ((a.length : Int) + b.length) = (a.length : Int) + b.length := wrap_i64 (by omega) (by omega)
  have hw2 : IntKind.wrap .i64 ((a.length : Int) + b.length + 1) = (a.length : Int) + b.length + 1 := wrap_i64 (by omega) (by omega)
  refine den_ev (evs_ob (by simp only [E.den, D.toI, D.toB, D.toL, D.toS, D.len, D.mapL, flatD, dE, hw1, hw2]; omega) (evs_ob (by simp only [E.den, D.toI, D.toB, D.toL, D.toS, D.len, D.mapL, flatD, dE, hw1, hw2]; omega) (evs_nil ?_)))
  refine den_loop (fun xs => ∃ i : Nat, xs = [evsD (a.take i), I64d i] ∧ i ≤ a.length) (fun xs => a.length - (xs.getD 1 default).toI.toNat) ⟨0, rfl, by omega⟩ ?_
  simp only [AllSh]
  intro _ _ n _ _ ⟨i, hq, hi⟩
  simp only [List.cons.injEq, D.int.injEq, D.lst.injEq, true_and, and_true] at hq
  obtain ⟨rfl, rfl⟩ := hq
  (try simp only [List.cons_append, List.nil_append])
  refine den_ite (fun h => ?_) (fun h => ?_)
  · simp only [E.den, D.toI, D.toB, D.toL, D.toS, D.len, D.mapL, flatD, dE] at h
    have hi' : i < a.length := by omega
    have hg := getD_map (g := evD) ev0 hi'
    have hw : IntKind.wrap .i64 ((i : Int) + 1) = ((i + 1 : Nat) : Int) := by rw [wrap_i64 (by omega) (by omega)]; omega
    refine den_ev (evs_ob (by simp only [E.den, D.toI, D.toB, D.toL, D.toS, D.len, D.mapL, flatD, dE]; omega) (evs_ob (by simp only [E.den, D.toI, D.toB, D.toL, D.toS, D.len, D.mapL, flatD, dE]; omega) (evs_nil ?_)))
    refine den_cal (evL (a.getD i ev0)) rfl (clone_fn (a.getD i ev0) (hat _ (mem_getD ev0 hi'))) (by simp only [E.den, D.toI, D.toB, D.toL, D.toS, D.len, D.mapL, flatD, dE, hg]) rfl ?_
    (try simp only [List.cons_append, List.nil_append])
    refine den_ev (evs_ob (by simp only [E.den, D.toI, D.toB, D.toL, D.toS, D.len, D.mapL, flatD, dE]; simp only [List.length_take]; omega) (evs_nil ?_))
    refine den_back rfl ⟨i + 1, ?_, by omega⟩ (by simp only []; simp only [E.den, D.toI, D.toB, D.toL, D.toS, D.len, D.mapL, flatD, dE]; rw [hw]; omega)
    simp only [E.den, D.toI, D.toB, D.toL, D.toS, D.len, D.mapL, flatD, dE]
    rw [hw, take_get ev0 hi']
    simp
  · simp only [E.den, D.toI, D.toB, D.toL, D.toS, D.len, D.mapL, flatD, dE] at h
    have hia : i = a.length := by omega
    subst hia
    rw [List.take_length]
    refine den_loop (fun xs => ∃ i : Nat, xs = [evsD (a ++ b.take i), I64d i] ∧ i ≤ b.length) (fun xs => b.length - (xs.getD 1 default).toI.toNat) ⟨0, (by simp only [E.den, D.toI, D.toB, D.toL, D.toS, D.len, D.mapL, flatD, dE]; simp), by omega⟩ ?_
    simp only [AllSh]
    intro _ _ n _ _ ⟨i, hq, hi⟩
    simp only [List.cons.injEq, D.int.injEq, D.lst.injEq, true_and, and_true] at hq
    obtain ⟨rfl, rfl⟩ := hq
    (try simp only [List.cons_append, List.nil_append])
    refine den_ite (fun h => ?_) (fun h => ?_)
    · simp only [E.den, D.toI, D.toB, D.toL, D.toS, D.len, D.mapL, flatD, dE] at h
      have hi' : i < b.length := by omega
      have hg := getD_map (g := evD) ev0 hi'
      have hw : IntKind.wrap .i64 ((i : Int) + 1) = ((i + 1 : Nat) : Int) := by rw [wrap_i64 (by omega) (by omega)]; omega
      refine den_ev (evs_ob (by simp only [E.den, D.toI, D.toB, D.toL, D.toS, D.len, D.mapL, flatD, dE]; omega) (evs_ob (by simp only [E.den, D.toI, D.toB, D.toL, D.toS, D.len, D.mapL, flatD, dE]; omega) (evs_nil ?_)))
      refine den_cal (evL (b.getD i ev0)) rfl (clone_fn (b.getD i ev0) (hbt _ (mem_getD ev0 hi'))) (by simp only [E.den, D.toI, D.toB, D.toL, D.toS, D.len, D.mapL, flatD, dE, hg]) rfl ?_
      (try simp only [List.cons_append, List.nil_append])
      refine den_ev (evs_ob (by simp only [E.den, D.toI, D.toB, D.toL, D.toS, D.len, D.mapL, flatD, dE]; simp only [List.length_take]; omega) (evs_nil ?_))
      refine den_back rfl ⟨i + 1, ?_, by omega⟩ (by simp only []; simp only [E.den, D.toI, D.toB, D.toL, D.toS, D.len, D.mapL, flatD, dE]; rw [hw]; omega)
      simp only [E.den, D.toI, D.toB, D.toL, D.toS, D.len, D.mapL, flatD, dE]
      rw [hw, take_get ev0 hi']
      simp
    · simp only [E.den, D.toI, D.toB, D.toL, D.toS, D.len, D.mapL, flatD, dE] at h
      have hib : i = b.length := by omega
      subst hib
      rw [List.take_length]
      refine den_cal (evL e) rfl (clone_fn e het) rfl rfl ?_
      (try simp only [List.cons_append, List.nil_append])
      refine den_ev (evs_ob (by simp only [E.den, D.toI, D.toB, D.toL, D.toS, D.len, D.mapL, flatD, dE]; omega) (evs_nil (den_ret ?_)))
      simp only [E.den, D.toI, D.toB, D.toL, D.toS, D.len, D.mapL, flatD, dE]
      simp
theorem disc_fn (l : List Evt) (hl : l.length ≤ 4294967296) : Fun Try.prog [] 32 [tEs] [evsD l] [tI] (.ok [I64d (disG 0 l)]) := by
  refine disc_ent _ _ ?_
  show vcdisc.den _ _ _ _ _
  unfold vcdisc
  refine den_loop (fun xs => ∃ (q : Int) (i : Nat), xs = [I64d q, I64d i] ∧ i ≤ l.length ∧ disG 0 l = disG i (l.drop i)) (fun xs => l.length - (xs.getD 1 default).toI.toNat) ⟨0, 0, rfl, by omega, rfl⟩ ?_
  simp only [AllSh]
  intro q _ _ n _ _ ⟨_, i, hq, hi, hv⟩
  simp only [List.cons.injEq, D.int.injEq, true_and, and_true] at hq
  obtain ⟨rfl, rfl⟩ := hq
  (try simp only [List.cons_append, List.nil_append])
  refine den_ite (fun h => ?_) (fun h => den_ret ?_)
  · simp only [E.den, D.toI, D.toB, D.toL, D.toS, D.len, D.mapL, flatD, dE] at h
    have hi' : i < l.length := by omega
    have hg := getD_map (g := evD) ev0 hi'
    rw [drop_get ev0 hi', disG] at hv
    have hw : IntKind.wrap .i64 ((i : Int) + 1) = ((i + 1 : Nat) : Int) := by rw [wrap_i64 (by omega) (by omega)]; omega
    refine den_ev (evs_ob (by simp only [E.den, D.toI, D.toB, D.toL, D.toS, D.len, D.mapL, flatD, dE]; omega) (evs_ob (by simp only [E.den, D.toI, D.toB, D.toL, D.toS, D.len, D.mapL, flatD, dE]; omega) (evs_nil ?_)))
    refine den_ite (fun k1 => ?_) (fun k1 => ?_)
    · simp only [E.den, D.toI, D.toB, D.toL, D.toS, D.len, D.mapL, flatD, dE] at k1
      refine den_ite (fun k2 => den_ret ?_) (fun k2 => ?_)
      · simp only [E.den, D.toI, D.toB, D.toL, D.toS, D.len, D.mapL, flatD, dE, hg] at k2
        simp only [E.den, D.toI, D.toB, D.toL, D.toS, D.len, D.mapL, flatD, dE]
        rw [hv, if_pos ⟨by omega, k2⟩]
      · simp only [E.den, D.toI, D.toB, D.toL, D.toS, D.len, D.mapL, flatD, dE, hg] at k2
        refine den_back rfl ⟨q, i + 1, (by simp only [E.den, D.toI, D.toB, D.toL, D.toS, D.len, D.mapL, flatD, dE]; rw [hw]), by omega, ?_⟩ (by simp only []; simp only [E.den, D.toI, D.toB, D.toL, D.toS, D.len, D.mapL, flatD, dE]; rw [hw]; omega)
        rw [hv, if_neg (fun c => k2 c.2)]
    · simp only [E.den, D.toI, D.toB, D.toL, D.toS, D.len, D.mapL, flatD, dE] at k1
      refine den_back rfl ⟨q, i + 1, (by simp only [E.den, D.toI, D.toB, D.toL, D.toS, D.len, D.mapL, flatD, dE]; rw [hw]), by omega, ?_⟩ (by simp only []; simp only [E.den, D.toI, D.toB, D.toL, D.toS, D.len, D.mapL, flatD, dE]; rw [hw]; omega)
      rw [hv, if_neg (fun c => by omega)]
  · simp only [E.den, D.toI, D.toB, D.toL, D.toS, D.len, D.mapL, flatD, dE] at h
    have : i = l.length := by omega
    subst this
    rw [List.drop_length] at hv
    simp only [E.den, D.toI, D.toB, D.toL, D.toS, D.len, D.mapL, flatD, dE]
    rw [hv]
    rfl
theorem woS_take {l : List Evt} {k : Int} {i : Nat} (hi : i < l.length) : woS (l.take (i + 1)) k = if (i : Int) = k then woS (l.take i) k else woS (l.take i) k ++ [l.getD i ev0] := by
  have hl : (l.take (i + 1)).length = i + 1 := by rw [List.length_take]; omega
  have hl0 : (l.take i).length = i := by rw [List.length_take]; omega
  unfold woS
  rw [hl, hl0]
  split
  · rename_i h
    split
    · rename_i h2
      subst h2
      rw [if_neg (by omega), Int.toNat_natCast, List.take_take, Nat.min_eq_left (by omega), List.drop_eq_nil_of_le (by omega), List.append_nil]
    · rename_i h2
      rw [if_pos (by omega), take_get ev0 hi, List.take_append_of_le_length (by omega), List.drop_append_of_le_length (by omega), List.append_assoc]
  · rename_i h
    rw [if_neg (by omega), if_neg (by omega), take_get ev0 hi]
theorem without_fn (l : List Evt) (k : Int) (hl : l.length ≤ 4294967296) : Fun Try.prog [] 33 [tEs, tI] [evsD l, I64d k] [.r [.str, .str, .int .i64, .int .i64, .int .i64, .int .i64, .str, .bool, .int .i64, .lst [.int .i64, .int .i64]]] (.ok [evsD (woS l k)]) := by
  refine without_ent _ _ ?_
  show vcwithout.den _ _ _ _ _
  unfold vcwithout
  refine den_loop (fun xs => ∃ i : Nat, xs = [evsD (woS (l.take i) k), I64d i] ∧ i ≤ l.length ∧ (woS (l.take i) k).length ≤ i) (fun xs => l.length - (xs.getD 1 default).toI.toNat) ⟨0, (by simp only [E.den, D.toI, D.toB, D.toL, D.toS, D.len, D.mapL, flatD, dE]; simp [woS]), by omega, (by simp [woS])⟩ ?_
  simp only [AllSh]
  intro _ _ n _ _ ⟨i, hq, hi, hle⟩
  simp only [List.cons.injEq, D.int.injEq, D.lst.injEq, true_and, and_true] at hq
  obtain ⟨rfl, rfl⟩ := hq
  (try simp only [List.cons_append, List.nil_append])
  refine den_ite (fun h => ?_) (fun h => den_ret ?_)
  · simp only [E.den, D.toI, D.toB, D.toL, D.toS, D.len, D.mapL, flatD, dE] at h
    have hi' : i < l.length := by omega
    have hg := getD_map (g := evD) ev0 hi'
    have hwo := woS_take (k := k) hi'
    have hw : IntKind.wrap .i64 ((i : Int) + 1) = ((i + 1 : Nat) : Int) := by rw [wrap_i64 (by omega) (by omega)]; omega
    refine den_ite (fun h2 => ?_) (fun h2 => ?_)
    · simp only [E.den, D.toI, D.toB, D.toL, D.toS, D.len, D.mapL, flatD, dE] at h2
      rw [if_neg h2] at hwo
      refine den_ev (evs_ob (by simp only [E.den, D.toI, D.toB, D.toL, D.toS, D.len, D.mapL, flatD, dE]; omega) (evs_ob (by simp only [E.den, D.toI, D.toB, D.toL, D.toS, D.len, D.mapL, flatD, dE]; omega) (evs_nil ?_)))
      refine den_ev (evs_ob (by simp only [E.den, D.toI, D.toB, D.toL, D.toS, D.len, D.mapL, flatD, dE]; omega) (evs_nil ?_))
      refine den_back rfl ⟨i + 1, ?_, by omega, by rw [hwo, List.length_append]; simp only [List.length_cons, List.length_nil]; omega⟩ (by simp only []; simp only [E.den, D.toI, D.toB, D.toL, D.toS, D.len, D.mapL, flatD, dE]; rw [hw]; omega)
      simp only [E.den, D.toI, D.toB, D.toL, D.toS, D.len, D.mapL, flatD, dE, hg]
      rw [hw, hwo]
      simp
    · simp only [E.den, D.toI, D.toB, D.toL, D.toS, D.len, D.mapL, flatD, dE] at h2
      rw [if_pos h2] at hwo
      refine den_back rfl ⟨i + 1, ?_, by omega, by rw [hwo]; omega⟩ (by simp only []; simp only [E.den, D.toI, D.toB, D.toL, D.toS, D.len, D.mapL, flatD, dE]; rw [hw]; omega)
      simp only [E.den, D.toI, D.toB, D.toL, D.toS, D.len, D.mapL, flatD, dE]
      rw [hw, hwo]
  · simp only [E.den, D.toI, D.toB, D.toL, D.toS, D.len, D.mapL, flatD, dE] at h
    have : i = l.length := by omega
    subst this
    simp only [E.den, D.toI, D.toB, D.toL, D.toS, D.len, D.mapL, flatD, dE]
    rw [List.take_length]
end Go.Proofs.Ytmkkijgnlohieaa.O31
set_option maxRecDepth 100000
set_option linter.unusedSimpArgs false
set_option linter.unusedVariables false
namespace Go.Proofs.Ytmkkijgnlohieaa.O31
open Go.Proofs.Ytmkkijgnlohieaa Go.Proofs.Ytmkkijgnlohieaa.Sy Go.Proofs.Ytmkkijgnlohieaa.L7 Go.Proofs.Ytmkkijgnlohieaa.Id Go.Proofs.Ytmkkijgnlohieaa.R26 Go.Proofs.Ytmkkijgnlohieaa.E30 Go.RowKit Go.WideShapes Go.ChangeShapes Go.ChangeAt

theorem errL_zero : ∀ {l : List Evt}, errL l = 0 → ∀ x ∈ l, validS x = 0
  | [], _ => fun x hx => by cases hx
  | e :: l, h => fun x hx => by
    simp only [errL] at h
    split at h
    · rename_i h2; exact absurd h h2
    · rename_i h2
      rcases List.mem_cons.1 hx with rfl | hx
      · exact Decidable.not_not.1 h2
      · exact errL_zero h x hx
theorem errL_all : ∀ {l : List Evt}, (∀ x ∈ l, validS x = 0) → errL l = 0
  | [], _ => rfl
  | e :: l, h => by
    simp only [errL]
    rw [if_neg (fun c => c (h e (by simp)))]
    exact errL_all fun x hx => h x (by simp [hx])
structure OvOk (o : Ob) : Prop where
  rm : 4 ≤ o.rm ∧ o.rm ≤ 256
  lo : 0 ≤ o.lo ∧ o.lo ≤ 2147483647
  ln : (o.it.length : Int) ≤ o.rm
  it : ∀ x ∈ o.it, validS x = 0
theorem ov_ok {o : Ob} (h : ovS o = 0) : OvOk o := by
  unfold ovS at h
  split at h
  · cases h
  split at h
  · cases h
  exact ⟨by omega, by omega, by omega, errL_zero h⟩
theorem ok_ov {o : Ob} (h : OvOk o) : ovS o = 0 := by
  have h1 := h.rm
  have h2 := h.lo
  have h3 := h.ln
  unfold ovS
  rw [if_neg (by omega), if_neg (by omega), errL_all h.it]
def pushV (o : Ob) (e : Evt) : Int := if validS e ≠ 0 then validS e else if (o.it.length : Int) < o.rm then 0 else if disG 0 o.it < 0 then 3 else 0
def pushO (o : Ob) (e : Evt) : Ob := if validS e ≠ 0 then o else if (o.it.length : Int) < o.rm then ⟨o.rm, o.it ++ [e], o.lo⟩ else if disG 0 o.it < 0 then o
  else ⟨o.rm, o.it.take (disG 0 o.it).toNat ++ o.it.drop ((disG 0 o.it).toNat + 1) ++ [e], if o.lo < 2147483647 then o.lo + 1 else o.lo⟩
theorem push_bad {o : Ob} {e : Evt} (h : validS e ≠ 0) : pushO o e = o ∧ pushV o e = validS e := by simp [pushO, pushV, h]
theorem push_room {o : Ob} {e : Evt} (h : validS e = 0) (h2 : (o.it.length : Int) < o.rm) : pushO o e = ⟨o.rm, o.it ++ [e], o.lo⟩ ∧ pushV o e = 0 := by
  simp [pushO, pushV, h, h2]
theorem push_full {o : Ob} {e : Evt} (h : validS e = 0) (h2 : ¬ (o.it.length : Int) < o.rm) (h3 : disG 0 o.it < 0) : pushO o e = o ∧ pushV o e = 3 := by
  simp [pushO, pushV, h, h2, h3]
theorem push_out {o : Ob} {e : Evt} (h : validS e = 0) (h2 : ¬ (o.it.length : Int) < o.rm) (h3 : ¬ disG 0 o.it < 0) : pushO o e = ⟨o.rm, o.it.take (disG 0 o.it).toNat ++ o.it.drop ((disG 0 o.it).toNat + 1) ++ [e], if o.lo < 2147483647 then o.lo + 1 else o.lo⟩ ∧ pushV o e = 0 := by
  simp [pushO, pushV, h, h2, h3]
theorem sub_evs (l : List Evt) (a b : Nat) : ((l.map evD).take b).drop a = ((l.take b).drop a).map evD := by simp
theorem push_fn (o : Ob) (e : Evt) (ho : ObT o) (he : EvT e) (hv : ovS o = 0) : Fun Try.prog [] 16 [tO, tE] [obD o, evD e] [tO, tI] (.ok [obD (pushO o e), I64d (pushV o e)]) := by
  refine push_ent _ _ ?_
  show vcpush.den _ _ _ _ _
  unfold vcpush
  have hok := ov_ok hv
  have hrm := hok.rm
  have hlo := hok.lo
  have hln := hok.ln
  have hsm : ∀ x ∈ o.it, x.rd.length ≤ 4294967296 := fun x hx => by have := (ok_of (hok.it x hx)).rl; omega
  refine den_cal [I64d (validS e)] rfl (E30.valid_fn e he) rfl rfl ?_
  (try simp only [List.cons_append, List.nil_append])
  refine den_ite (fun h => den_ret ?_) (fun h => ?_)
  · simp only [E.den, D.toI, D.toB, D.toL, D.toS, D.len, D.mapL, flatD, dE] at h
    simp only [E.den, D.toI, D.toB, D.toL, D.toS, D.len, D.mapL, flatD, dE]
    rw [(push_bad h).1, (push_bad h).2]
  simp only [E.den, D.toI, D.toB, D.toL, D.toS, D.len, D.mapL, flatD, dE] at h
  have her : e.rd.length ≤ 4294967296 := by have := (ok_of h).rl; omega
  refine den_ite (fun h2 => ?_) (fun h2 => ?_)
  · simp only [E.den, D.toI, D.toB, D.toL, D.toS, D.len, D.mapL, flatD, dE] at h2
    refine den_cal [evsD (o.it ++ [] ++ [e])] rfl (join_fn o.it [] e (by simp only [List.length_nil]; omega) hsm (fun x hx => by cases hx) her) rfl rfl (den_ret ?_)
    simp only [E.den, D.toI, D.toB, D.toL, D.toS, D.len, D.mapL, flatD, dE]
    rw [(push_room h h2).1, (push_room h h2).2]
    (try simp)
  simp only [E.den, D.toI, D.toB, D.toL, D.toS, D.len, D.mapL, flatD, dE] at h2
  refine den_cal [I64d (disG 0 o.it)] rfl (disc_fn o.it (by omega)) rfl rfl ?_
  (try simp only [List.cons_append, List.nil_append])
  refine den_ite (fun h3 => den_ret ?_) (fun h3 => ?_)
  · simp only [E.den, D.toI, D.toB, D.toL, D.toS, D.len, D.mapL, flatD, dE] at h3
    simp only [E.den, D.toI, D.toB, D.toL, D.toS, D.len, D.mapL, flatD, dE]
    rw [(push_full h (by omega) h3).1, (push_full h (by omega) h3).2]
  simp only [E.den, D.toI, D.toB, D.toL, D.toS, D.len, D.mapL, flatD, dE] at h3
  have hd := disG_ge o.it 0
  have hpo := push_out (e := e) h (by omega) (show ¬ disG 0 o.it < 0 by omega)
  obtain ⟨d, hdd⟩ : ∃ d : Nat, disG 0 o.it = d := ⟨(disG 0 o.it).toNat, by omega⟩
  rw [hdd] at hd hpo ⊢
  have hw1 : IntKind.wrap .i64 ((d : Int) + 1) = ((d + 1 : Nat) : Int) := by rw [wrap_i64 (by omega) (by omega)]; omega
  refine den_ev (evs_ob (by simp only [E.den, D.toI, D.toB, D.toL, D.toS, D.len, D.mapL, flatD, dE]; omega) (evs_ob (by simp only [E.den, D.toI, D.toB, D.toL, D.toS, D.len, D.mapL, flatD, dE]; omega) (evs_ob (by simp only [E.den, D.toI, D.toB, D.toL, D.toS, D.len, D.mapL, flatD, dE]; omega) (evs_ob (by simp only [E.den, D.toI, D.toB, D.toL, D.toS, D.len, D.mapL, flatD, dE]; omega) (evs_ob (by simp only [E.den, D.toI, D.toB, D.toL, D.toS, D.len, D.mapL, flatD, dE]; omega) (evs_ob (by simp only [E.den, D.toI, D.toB, D.toL, D.toS, D.len, D.mapL, flatD, dE]; omega) (evs_ob (by simp only [E.den, D.toI, D.toB, D.toL, D.toS, D.len, D.mapL, flatD, dE]; omega) (evs_ob (by simp only [E.den, D.toI, D.toB, D.toL, D.toS, D.len, D.mapL, flatD, dE]; omega) (evs_ob (by simp only [E.den, D.toI, D.toB, D.toL, D.toS, D.len, D.mapL, flatD, dE, hw1]; omega) (evs_ob (by simp only [E.den, D.toI, D.toB, D.toL, D.toS, D.len, D.mapL, flatD, dE, hw1]; omega) (evs_nil ?_)))))))))))
  refine den_cal [evsD (o.it.take d ++ o.it.drop (d + 1) ++ [e])] rfl (join_fn (o.it.take d) (o.it.drop (d + 1)) e (by rw [List.length_take, List.length_drop]; omega) (fun x hx => hsm x (List.mem_of_mem_take hx)) (fun x hx => hsm x (List.mem_of_mem_drop hx)) her) (by simp only [E.den, D.toI, D.toB, D.toL, D.toS, D.len, D.mapL, flatD, dE, hw1]; simp [List.take_of_length_le]) rfl ?_
  (try simp only [List.cons_append, List.nil_append])
  have hl1 : IntKind.wrap .i64 (o.lo + 1) = o.lo + 1 := wrap_i64 (by omega) (by omega)
  rw [Int.toNat_natCast] at hpo
  refine den_ite (fun h4 => den_ret ?_) (fun h4 => den_ret ?_)
  · simp only [E.den, D.toI, D.toB, D.toL, D.toS, D.len, D.mapL, flatD, dE] at h4
    simp only [E.den, D.toI, D.toB, D.toL, D.toS, D.len, D.mapL, flatD, dE]
    rw [hpo.1, hpo.2, if_pos h4, hl1]
  · simp only [E.den, D.toI, D.toB, D.toL, D.toS, D.len, D.mapL, flatD, dE] at h4
    simp only [E.den, D.toI, D.toB, D.toL, D.toS, D.len, D.mapL, flatD, dE]
    rw [hpo.1, hpo.2, if_neg (by omega)]
def lastG (l : List Evt) (i : Nat) : Int := if disG (i + 1) (l.drop (i + 1)) = -1 then 0 else disG (i + 1) (l.drop (i + 1))
theorem lastG_hit {l : List Evt} {i : Nat} (hi : i < l.length) (h0 : 0 < i) (h : (l.getD i ev0).ki = 2) : lastG l (i - 1) = i := by
  unfold lastG
  have e : disG i (l.drop i) = i := by rw [drop_get ev0 hi, disG, if_pos ⟨h0, h⟩]
  rw [show i - 1 + 1 = i by omega, e, if_neg (by omega)]
theorem lastG_miss {l : List Evt} {i : Nat} (hi : i < l.length) (h0 : 0 < i) (h : (l.getD i ev0).ki ≠ 2) : lastG l (i - 1) = lastG l i := by
  have e : disG i (l.drop i) = disG (i + 1) (l.drop (i + 1)) := by rw [drop_get ev0 hi, disG, if_neg (fun c => h c.2)]
  unfold lastG
  rw [show i - 1 + 1 = i by omega, e]
theorem lastG_zero {l : List Evt} (hl : 0 < l.length) : lastG l 0 = if disG 0 l = -1 then 0 else disG 0 l := by
  have e : disG 0 l = disG 1 (l.drop 1) := by
    conv => lhs; rw [← List.drop_zero (l := l), drop_get ev0 hl, disG, if_neg (fun c => by omega)]
  unfold lastG
  rw [← e]
theorem woS_none (l : List Evt) : woS l (-1) = l := by unfold woS; rw [if_neg (by omega)]
theorem rpush_fn (o : Ob) (e : Evt) (ho : ObT o) (he : EvT e) (hv : ovS o = 0) : Fun Try.prog [] 17 [tO, tE] [obD o, evD e] [tO, tI] (.ok [obD (pushO o e), I64d (pushV o e)]) := by
  refine rpush_ent _ _ ?_
  show vcrpush.den _ _ _ _ _
  unfold vcrpush
  have hok := ov_ok hv
  have hrm := hok.rm
  have hlo := hok.lo
  have hln := hok.ln
  have hl1 : IntKind.wrap .i64 (o.lo + 1) = o.lo + 1 := wrap_i64 (by omega) (by omega)
  refine den_cal [I64d (validS e)] rfl (E30.rvalid_fn e he) rfl rfl ?_
  (try simp only [List.cons_append, List.nil_append])
  refine den_ite (fun h => den_ret ?_) (fun h => ?_)
  · simp only [E.den, D.toI, D.toB, D.toL, D.toS, D.len, D.mapL, flatD, dE] at h
    simp only [E.den, D.toI, D.toB, D.toL, D.toS, D.len, D.mapL, flatD, dE]
    rw [(push_bad h).1, (push_bad h).2]
  simp only [E.den, D.toI, D.toB, D.toL, D.toS, D.len, D.mapL, flatD, dE] at h
  refine den_cal [evsD o.it] rfl (fun_as (without_fn o.it (-1) (by omega)) (by rw [woS_none] <;> rfl)) rfl rfl ?_
  (try simp only [List.cons_append, List.nil_append])
  refine den_ite (fun h2 => ?_) (fun h2 => ?_)
  · simp only [E.den, D.toI, D.toB, D.toL, D.toS, D.len, D.mapL, flatD, dE] at h2
    have hw1 : IntKind.wrap .i64 ((o.it.length : Int) - 1) = ((o.it.length - 1 : Nat) : Int) := by rw [wrap_i64 (by omega) (by omega)]; omega
    refine den_loop (fun xs => ∃ i : Nat, xs = [I64d (lastG o.it i), I64d i] ∧ i < o.it.length) (fun xs => (xs.getD 1 default).toI.toNat) ⟨o.it.length - 1, ?_, by omega⟩ ?_
    · simp only [E.den, D.toI, D.toB, D.toL, D.toS, D.len, D.mapL, flatD, dE]
      rw [hw1]
      unfold lastG
      rw [show o.it.length - 1 + 1 = o.it.length by omega, List.drop_length]
      rfl
    simp only [AllSh]
    intro _ _ _ n _ _ ⟨i, hq, hi⟩
    simp only [List.cons.injEq, D.int.injEq, true_and, and_true] at hq
    obtain ⟨rfl, rfl⟩ := hq
    (try simp only [List.cons_append, List.nil_append])
    refine den_ite (fun k1 => ?_) (fun k1 => ?_)
    · simp only [E.den, D.toI, D.toB, D.toL, D.toS, D.len, D.mapL, flatD, dE] at k1
      have hg := getD_map (g := evD) ev0 hi
      have hw2 : IntKind.wrap .i64 ((i : Int) - 1) = ((i - 1 : Nat) : Int) := by rw [wrap_i64 (by omega) (by omega)]; omega
      refine den_ev (evs_ob (by simp only [E.den, D.toI, D.toB, D.toL, D.toS, D.len, D.mapL, flatD, dE]; omega) (evs_ob (by simp only [E.den, D.toI, D.toB, D.toL, D.toS, D.len, D.mapL, flatD, dE]; omega) (evs_nil ?_)))
      refine den_ev (evs_ob (by simp only [E.den, D.toI, D.toB, D.toL, D.toS, D.len, D.mapL, flatD, dE]; omega) (evs_nil ?_))
      refine den_ite (fun k2 => ?_) (fun k2 => ?_)
      · simp only [E.den, D.toI, D.toB, D.toL, D.toS, D.len, D.mapL, flatD, dE, hg] at k2
        exact den_back rfl ⟨i - 1, (by simp only [E.den, D.toI, D.toB, D.toL, D.toS, D.len, D.mapL, flatD, dE]; rw [hw2, lastG_hit hi (by omega) k2]), by omega⟩ (by simp only []; simp only [E.den, D.toI, D.toB, D.toL, D.toS, D.len, D.mapL, flatD, dE]; rw [hw2]; omega)
      · simp only [E.den, D.toI, D.toB, D.toL, D.toS, D.len, D.mapL, flatD, dE, hg] at k2
        exact den_back rfl ⟨i - 1, (by simp only [E.den, D.toI, D.toB, D.toL, D.toS, D.len, D.mapL, flatD, dE]; rw [hw2, lastG_miss hi (by omega) k2]), by omega⟩ (by simp only []; simp only [E.den, D.toI, D.toB, D.toL, D.toS, D.len, D.mapL, flatD, dE]; rw [hw2]; omega)
    · simp only [E.den, D.toI, D.toB, D.toL, D.toS, D.len, D.mapL, flatD, dE] at k1
      have : i = 0 := by omega
      subst this
      have hd := disG_ge o.it 0
      have hz := lastG_zero (l := o.it) (by omega)
      refine den_ite (fun k2 => den_ret ?_) (fun k2 => ?_)
      · simp only [E.den, D.toI, D.toB, D.toL, D.toS, D.len, D.mapL, flatD, dE] at k2
        have h3 : disG 0 o.it < 0 := by
          rw [hz] at k2
          split at k2 <;> omega
        simp only [E.den, D.toI, D.toB, D.toL, D.toS, D.len, D.mapL, flatD, dE]
        rw [(push_full h (by omega) h3).1, (push_full h (by omega) h3).2]
      · simp only [E.den, D.toI, D.toB, D.toL, D.toS, D.len, D.mapL, flatD, dE] at k2
        have h3 : ¬ disG 0 o.it < 0 := by
          rw [hz] at k2
          split at k2 <;> omega
        have hz2 : lastG o.it 0 = disG 0 o.it := by rw [hz, if_neg (by omega)]
        have hpo := push_out (e := e) h (by omega) h3
        have hwo : woS o.it (lastG o.it 0) = o.it.take (disG 0 o.it).toNat ++ o.it.drop ((disG 0 o.it).toNat + 1) := by unfold woS; rw [hz2, if_pos (by omega)]
        refine den_cal [evsD (o.it.take (disG 0 o.it).toNat ++ o.it.drop ((disG 0 o.it).toNat + 1))] rfl (fun_as (without_fn o.it (lastG o.it 0) (by omega)) (by rw [hwo] <;> rfl)) rfl rfl ?_
        (try simp only [List.cons_append, List.nil_append])
        refine den_ev (evs_ob (by simp only [E.den, D.toI, D.toB, D.toL, D.toS, D.len, D.mapL, flatD, dE]; rw [List.length_take, List.length_drop]; omega) (evs_nil (den_ret ?_)))
        simp only [E.den, D.toI, D.toB, D.toL, D.toS, D.len, D.mapL, flatD, dE]
        rw [hpo.1, hpo.2, hl1]
        have : (if (2147483647 : Int) < o.lo + 1 then 2147483647 else o.lo + 1) = if o.lo < 2147483647 then o.lo + 1 else o.lo := by split <;> split <;> omega
        rw [this]
        simp
  · simp only [E.den, D.toI, D.toB, D.toL, D.toS, D.len, D.mapL, flatD, dE] at h2
    refine den_ev (evs_ob (by simp only [E.den, D.toI, D.toB, D.toL, D.toS, D.len, D.mapL, flatD, dE]; omega) (evs_nil (den_ret ?_)))
    simp only [E.den, D.toI, D.toB, D.toL, D.toS, D.len, D.mapL, flatD, dE]
    rw [(push_room h h2).1, (push_room h h2).2]
    (try simp)
def headE (o : Ob) : Evt := o.it.getD 0 ev0
theorem head_fn (o : Ob) (hl : o.it.length ≤ 4294967296) (hsm : ∀ x ∈ o.it, x.rd.length ≤ 4294967296) : Fun Try.prog [] 18 [tO] [obD o] [tE, tB] (.ok [evD (headE o), .bool (decide (o.it ≠ []))]) := by
  refine head_ent _ _ ?_
  show vchead.den _ _ _ _ _
  unfold vchead
  refine den_ite (fun h => den_ret ?_) (fun h => ?_)
  · simp only [E.den, D.toI, D.toB, D.toL, D.toS, D.len, D.mapL, flatD, dE] at h
    have : o.it = [] := List.length_eq_zero_iff.1 (by omega)
    simp only [E.den, D.toI, D.toB, D.toL, D.toS, D.len, D.mapL, flatD, dE]
    unfold headE
    rw [this]
    rfl
  · simp only [E.den, D.toI, D.toB, D.toL, D.toS, D.len, D.mapL, flatD, dE] at h
    have hne : o.it ≠ [] := fun c => by rw [c] at h; simp at h
    have hg := getD_map (g := evD) (l := o.it) (i := 0) ev0 (by omega)
    refine den_ev (evs_ob (by simp only [E.den, D.toI, D.toB, D.toL, D.toS, D.len, D.mapL, flatD, dE]; omega) (evs_nil ?_))
    refine den_cal (evL (headE o)) rfl (clone_fn (headE o) (hsm _ (mem_getD ev0 (by omega)))) (by simp only [E.den, D.toI, D.toB, D.toL, D.toS, D.len, D.mapL, flatD, dE, show (0 : Int).toNat = 0 from rfl, hg]; rfl) rfl (den_ret ?_)
    simp only [E.den, D.toI, D.toB, D.toL, D.toS, D.len, D.mapL, flatD, dE]
    rw [decide_eq_true hne]
theorem rhead_fn (o : Ob) (hl : o.it.length ≤ 4294967296) : Fun Try.prog [] 19 [tO] [obD o] [tE, tB] (.ok [evD (headE o), .bool (decide (o.it ≠ []))]) := by
  refine rhead_ent _ _ ?_
  show vcrhead.den _ _ _ _ _
  unfold vcrhead
  refine den_ite (fun h => den_ret ?_) (fun h => ?_)
  · simp only [E.den, D.toI, D.toB, D.toL, D.toS, D.len, D.mapL, flatD, dE] at h
    have : o.it = [] := List.length_eq_zero_iff.1 (by omega)
    simp only [E.den, D.toI, D.toB, D.toL, D.toS, D.len, D.mapL, flatD, dE]
    unfold headE
    rw [this]
    rfl
  · simp only [E.den, D.toI, D.toB, D.toL, D.toS, D.len, D.mapL, flatD, dE] at h
    have hne : o.it ≠ [] := fun c => by rw [c] at h; simp at h
    have hg := getD_map (g := evD) (l := o.it) (i := 0) ev0 (by omega)
    refine den_ev (evs_ob (by simp only [E.den, D.toI, D.toB, D.toL, D.toS, D.len, D.mapL, flatD, dE]; omega) (evs_nil (den_ret ?_)))
    simp only [E.den, D.toI, D.toB, D.toL, D.toS, D.len, D.mapL, flatD, dE, show (0 : Int).toNat = 0 from rfl, hg]
    rw [decide_eq_true hne]
    rfl
def ackV (o : Ob) (x : ByteArray) (q : Int) : Int := if o.it.length = 0 ∨ (headE o).tx ≠ x ∨ (headE o).sq ≠ q then 8 else 0
def ackO (o : Ob) (x : ByteArray) (q : Int) : Ob := if ackV o x q = 0 then ⟨o.rm, o.it.drop 1, o.lo⟩ else o
theorem ack_no {o : Ob} {x : ByteArray} {q : Int} (h : o.it.length = 0 ∨ (headE o).tx ≠ x ∨ (headE o).sq ≠ q) : ackO o x q = o ∧ ackV o x q = 8 := by
  have hv : ackV o x q = 8 := by unfold ackV; rw [if_pos h]
  exact ⟨by unfold ackO; rw [hv, if_neg (by decide)], hv⟩
theorem ack_yes {o : Ob} {x : ByteArray} {q : Int} (h : ¬ (o.it.length = 0 ∨ (headE o).tx ≠ x ∨ (headE o).sq ≠ q)) : ackO o x q = ⟨o.rm, o.it.drop 1, o.lo⟩ ∧ ackV o x q = 0 := by
  have hv : ackV o x q = 0 := by unfold ackV; rw [if_neg h]
  exact ⟨by unfold ackO; rw [hv, if_pos rfl], hv⟩
theorem ack_fn (o : Ob) (x : ByteArray) (q : Int) (hl : o.it.length ≤ 4294967200) (hsm : ∀ x ∈ o.it, x.rd.length ≤ 4294967296) : Fun Try.prog [] 20 [tO, tZ, tI] [obD o, .str x, I64d q] [tO, tI] (.ok [obD (ackO o x q), I64d (ackV o x q)]) := by
  refine ack_ent _ _ ?_
  show vcack.den _ _ _ _ _
  unfold vcack
  refine den_ite (fun h => den_ret ?_) (fun h => ?_)
  · simp only [E.den, D.toI, D.toB, D.toL, D.toS, D.len, D.mapL, flatD, dE] at h
    have hn := ack_no (x := x) (q := q) (o := o) (.inl (by omega))
    simp only [E.den, D.toI, D.toB, D.toL, D.toS, D.len, D.mapL, flatD, dE]
    rw [hn.1, hn.2]
  simp only [E.den, D.toI, D.toB, D.toL, D.toS, D.len, D.mapL, flatD, dE] at h
  have hz : (0 : Int).toNat = 0 := rfl
  have hg := getD_map (g := evD) (l := o.it) (i := 0) ev0 (by omega)
  refine den_ev (evs_ob (by simp only [E.den, D.toI, D.toB, D.toL, D.toS, D.len, D.mapL, flatD, dE]; omega) (evs_nil ?_))
  refine den_ite (fun h2 => ?_) (fun h2 => den_ret ?_)
  rotate_left
  · simp only [E.den, D.toI, D.toB, D.toL, D.toS, D.len, D.mapL, flatD, dE, hz, hg, str_eq] at h2
    have hn := ack_no (x := x) (q := q) (o := o) (.inr (.inl h2))
    simp only [E.den, D.toI, D.toB, D.toL, D.toS, D.len, D.mapL, flatD, dE]
    rw [hn.1, hn.2]
  simp only [E.den, D.toI, D.toB, D.toL, D.toS, D.len, D.mapL, flatD, dE, hz, hg, str_eq] at h2
  refine den_ev (evs_ob (by simp only [E.den, D.toI, D.toB, D.toL, D.toS, D.len, D.mapL, flatD, dE]; omega) (evs_nil ?_))
  refine den_ite (fun h3 => den_ret ?_) (fun h3 => ?_)
  · simp only [E.den, D.toI, D.toB, D.toL, D.toS, D.len, D.mapL, flatD, dE, hz, hg] at h3
    have hn := ack_no (x := x) (q := q) (o := o) (.inr (.inr h3))
    simp only [E.den, D.toI, D.toB, D.toL, D.toS, D.len, D.mapL, flatD, dE]
    rw [hn.1, hn.2]
  simp only [E.den, D.toI, D.toB, D.toL, D.toS, D.len, D.mapL, flatD, dE, hz, hg] at h3
  have hy := ack_yes (x := x) (q := q) (o := o) (fun c => by rcases c with c | c | c; omega; exact c h2; exact c h3)
  have hsub : List.drop (Int.toNat 1) (List.take o.it.length (List.map evD o.it)) = (o.it.drop 1).map evD := by
    rw [show Int.toNat 1 = 1 from rfl, List.take_of_length_le (by rw [List.length_map]; omega), List.map_drop]
  have hrl : (o.it.drop 1).length = o.it.length - 1 := List.length_drop
  refine den_ev (evs_ob (by simp only [E.den, D.toI, D.toB, D.toL, D.toS, D.len, D.mapL, flatD, dE]; omega) (evs_ob (by simp only [E.den, D.toI, D.toB, D.toL, D.toS, D.len, D.mapL, flatD, dE]; omega) (evs_ob (by simp only [E.den, D.toI, D.toB, D.toL, D.toS, D.len, D.mapL, flatD, dE]; omega) (evs_ob (by simp only [E.den, D.toI, D.toB, D.toL, D.toS, D.len, D.mapL, flatD, dE]; omega) (evs_ob (by simp only [E.den, D.toI, D.toB, D.toL, D.toS, D.len, D.mapL, flatD, dE]; omega) (evs_nil ?_))))))
  refine den_ev (evs_ob (by simp only [E.den, D.toI, D.toB, D.toL, D.toS, D.len, D.mapL, flatD, dE, hsub]; omega) (evs_ob (by simp only [E.den, D.toI, D.toB, D.toL, D.toS, D.len, D.mapL, flatD, dE, hsub]; omega) (evs_nil ?_)))
  refine den_loop (fun xs => ∃ i : Nat, xs = [I64d o.rm, I64d o.lo, evsD ((o.it.drop 1).take i), I64d i] ∧ i ≤ (o.it.drop 1).length) (fun xs => (o.it.drop 1).length - (xs.getD 3 default).toI.toNat) ⟨0, rfl, by omega⟩ ?_
  simp only [AllSh]
  intro _ _ _ _ _ _ _ _ n _ _ ⟨i, hq, hi⟩
  simp only [List.cons.injEq, D.int.injEq, D.lst.injEq, true_and, and_true] at hq
  obtain ⟨rfl, rfl, rfl, rfl⟩ := hq
  (try simp only [List.cons_append, List.nil_append])
  refine den_ite (fun k => ?_) (fun k => den_ret ?_)
  · simp only [E.den, D.toI, D.toB, D.toL, D.toS, D.len, D.mapL, flatD, dE, hsub] at k
    have hi' : i < (o.it.drop 1).length := by omega
    have hgi := getD_map (g := evD) ev0 hi'
    have hw : IntKind.wrap .i64 ((i : Int) + 1) = ((i + 1 : Nat) : Int) := by rw [wrap_i64 (by omega) (by omega)]; omega
    refine den_ev (evs_ob (by simp only [E.den, D.toI, D.toB, D.toL, D.toS, D.len, D.mapL, flatD, dE]; omega) (evs_ob (by simp only [E.den, D.toI, D.toB, D.toL, D.toS, D.len, D.mapL, flatD, dE, hsub]; omega) (evs_nil ?_)))
    refine den_cal (evL ((o.it.drop 1).getD i ev0)) rfl (clone_fn ((o.it.drop 1).getD i ev0) (hsm _ (List.mem_of_mem_drop (mem_getD ev0 hi')))) (by simp only [E.den, D.toI, D.toB, D.toL, D.toS, D.len, D.mapL, flatD, dE, hsub, hgi]) rfl ?_
    (try simp only [List.cons_append, List.nil_append])
    refine den_ev (evs_ob (by simp only [E.den, D.toI, D.toB, D.toL, D.toS, D.len, D.mapL, flatD, dE]; simp only [List.length_take]; omega) (evs_nil ?_))
    refine den_back rfl ⟨i + 1, ?_, by omega⟩ (by simp only []; simp only [E.den, D.toI, D.toB, D.toL, D.toS, D.len, D.mapL, flatD, dE]; rw [hw]; omega)
    simp only [E.den, D.toI, D.toB, D.toL, D.toS, D.len, D.mapL, flatD, dE]
    rw [hw, take_get ev0 hi']
    simp
  · simp only [E.den, D.toI, D.toB, D.toL, D.toS, D.len, D.mapL, flatD, dE, hsub] at k
    have : i = (o.it.drop 1).length := by omega
    subst this
    simp only [E.den, D.toI, D.toB, D.toL, D.toS, D.len, D.mapL, flatD, dE]
    rw [hy.1, hy.2, List.take_length]
theorem rack_fn (o : Ob) (x : ByteArray) (q : Int) (hl : o.it.length ≤ 4294967200) : Fun Try.prog [] 21 [tO, tZ, tI] [obD o, .str x, I64d q] [tO, tI] (.ok [obD (ackO o x q), I64d (ackV o x q)]) := by
  refine rack_ent _ _ ?_
  show vcrack.den _ _ _ _ _
  unfold vcrack
  refine den_ite (fun h => den_ret ?_) (fun h => ?_)
  · simp only [E.den, D.toI, D.toB, D.toL, D.toS, D.len, D.mapL, flatD, dE] at h
    have hn := ack_no (x := x) (q := q) (o := o) (.inl (by omega))
    simp only [E.den, D.toI, D.toB, D.toL, D.toS, D.len, D.mapL, flatD, dE]
    rw [hn.1, hn.2]
  simp only [E.den, D.toI, D.toB, D.toL, D.toS, D.len, D.mapL, flatD, dE] at h
  have hz : (0 : Int).toNat = 0 := rfl
  have hg := getD_map (g := evD) (l := o.it) (i := 0) ev0 (by omega)
  refine den_ev (evs_ob (by simp only [E.den, D.toI, D.toB, D.toL, D.toS, D.len, D.mapL, flatD, dE]; omega) (evs_nil ?_))
  refine den_ite (fun h2 => ?_) (fun h2 => den_ret ?_)
  rotate_left
  · simp only [E.den, D.toI, D.toB, D.toL, D.toS, D.len, D.mapL, flatD, dE, hz, hg, str_eq] at h2
    have hn := ack_no (x := x) (q := q) (o := o) (.inr (.inl h2))
    simp only [E.den, D.toI, D.toB, D.toL, D.toS, D.len, D.mapL, flatD, dE]
    rw [hn.1, hn.2]
  simp only [E.den, D.toI, D.toB, D.toL, D.toS, D.len, D.mapL, flatD, dE, hz, hg, str_eq] at h2
  refine den_ev (evs_ob (by simp only [E.den, D.toI, D.toB, D.toL, D.toS, D.len, D.mapL, flatD, dE]; omega) (evs_nil ?_))
  refine den_ite (fun h3 => den_ret ?_) (fun h3 => ?_)
  · simp only [E.den, D.toI, D.toB, D.toL, D.toS, D.len, D.mapL, flatD, dE, hz, hg] at h3
    have hn := ack_no (x := x) (q := q) (o := o) (.inr (.inr h3))
    simp only [E.den, D.toI, D.toB, D.toL, D.toS, D.len, D.mapL, flatD, dE]
    rw [hn.1, hn.2]
  simp only [E.den, D.toI, D.toB, D.toL, D.toS, D.len, D.mapL, flatD, dE, hz, hg] at h3
  have hy := ack_yes (x := x) (q := q) (o := o) (fun c => by rcases c with c | c | c; omega; exact c h2; exact c h3)
  have hwo : woS o.it 0 = o.it.drop 1 := by unfold woS; rw [if_pos (by omega)]; rfl
  refine den_cal [evsD (o.it.drop 1)] rfl (fun_as (without_fn o.it 0 (by omega)) (by rw [hwo] <;> rfl)) rfl rfl (den_ret ?_)
  simp only [E.den, D.toI, D.toB, D.toL, D.toS, D.len, D.mapL, flatD, dE]
  rw [hy.1, hy.2]
/-! what stays valid -/
theorem push_T {o : Ob} {e : Evt} (ho : ObT o) (he : EvT e) (hv : ovS o = 0) : ObT (pushO o e) ∧ ovS (pushO o e) = 0 := by
  have hok := ov_ok hv
  have hrm := hok.rm
  have hlo := hok.lo
  have hln := hok.ln
  by_cases h : validS e = 0
  rotate_left
  · rw [(push_bad h).1]; exact ⟨ho, hv⟩
  by_cases h2 : (o.it.length : Int) < o.rm
  · rw [(push_room h h2).1]
    refine ⟨⟨ho.rm, ho.lo, by simp only [List.length_append, List.length_cons, List.length_nil]; omega, fun x hx => ?_⟩, ok_ov ⟨hrm, hlo, by simp only [List.length_append, List.length_cons, List.length_nil]; omega, fun x hx => ?_⟩⟩
    · rcases List.mem_append.1 hx with hx | hx
      · exact ho.it x hx
      · rw [List.mem_singleton.1 hx]; exact he
    · rcases List.mem_append.1 hx with hx | hx
      · exact hok.it x hx
      · rw [List.mem_singleton.1 hx]; exact h
  by_cases h3 : disG 0 o.it < 0
  · rw [(push_full h h2 h3).1]; exact ⟨ho, hv⟩
  · rw [(push_out h h2 h3).1]
    have hd := disG_ge o.it 0
    have hlen : (o.it.take (disG 0 o.it).toNat ++ o.it.drop ((disG 0 o.it).toNat + 1) ++ [e]).length = o.it.length := by
      simp only [List.length_append, List.length_cons, List.length_nil, List.length_take, List.length_drop]; omega
    have hmem : ∀ x ∈ o.it.take (disG 0 o.it).toNat ++ o.it.drop ((disG 0 o.it).toNat + 1) ++ [e], x ∈ o.it ∨ x = e := fun x hx => by
      rcases List.mem_append.1 hx with hx | hx
      · rcases List.mem_append.1 hx with hx | hx
        · exact .inl (List.mem_of_mem_take hx)
        · exact .inl (List.mem_of_mem_drop hx)
      · exact .inr (List.mem_singleton.1 hx)
    refine ⟨⟨ho.rm, ?_, by simp only [hlen]; omega, fun x hx => ?_⟩, ok_ov ⟨hrm, ?_, by simp only [hlen]; omega, fun x hx => ?_⟩⟩
    · simp only [inI]; split <;> omega
    · rcases hmem x hx with hx | rfl
      · exact ho.it x hx
      · exact he
    · simp only []; split <;> omega
    · rcases hmem x hx with hx | rfl
      · exact hok.it x hx
      · exact h
theorem ack_T {o : Ob} {x : ByteArray} {q : Int} (ho : ObT o) (hv : ovS o = 0) : ObT (ackO o x q) ∧ ovS (ackO o x q) = 0 := by
  have hok := ov_ok hv
  have hln := hok.ln
  have hl2 := ho.ln
  unfold ackO
  split
  · have hlen : (o.it.drop 1).length = o.it.length - 1 := List.length_drop
    exact ⟨⟨ho.rm, ho.lo, by simp only [hlen]; omega, fun x hx => ho.it x (List.mem_of_mem_drop hx)⟩, ok_ov ⟨hok.rm, hok.lo, by simp only [hlen]; omega, fun x hx => hok.it x (List.mem_of_mem_drop hx)⟩⟩
  · exact ⟨ho, hv⟩
theorem ok_small {o : Ob} (hv : ovS o = 0) : ∀ x ∈ o.it, x.rd.length ≤ 4294967296 := fun x hx => by have := (ok_of ((ov_ok hv).it x hx)).rl; omega
end Go.Proofs.Ytmkkijgnlohieaa.O31
set_option maxRecDepth 100000
set_option linter.unusedSimpArgs false
set_option linter.unusedVariables false
namespace Go.Proofs.Ytmkkijgnlohieaa.D30
open Go.Proofs.Ytmkkijgnlohieaa Go.Proofs.Ytmkkijgnlohieaa.Sy Go.Proofs.Ytmkkijgnlohieaa.L7 Go.Proofs.Ytmkkijgnlohieaa.Id Go.Proofs.Ytmkkijgnlohieaa.R26 Go.Proofs.Ytmkkijgnlohieaa.E30 Go.RowKit Go.WideShapes Go.ChangeShapes Go.ChangeAt
theorem hP : NoNum Try.prog := by unfold NoNum; kernel_rfl
def sgs : Nat → Option (List TS × List TS) := fun f => if Nat.beq f 72 then some ([.p [.s .str, .s .str, .s (.int .i64), .s (.int .i64), .s (.int .i64), .s (.int .i64), .s .str, .s .bool, .s (.int .i64), .s (.lst [.int .i64, .int .i64])], .g [.int .i64, .lst [.int .u8]]], [.c .bool]) else none
def vcdecode : VC := (.cal 44 [(.c (.lst [(.int .u8)]))] [(.v 0)] [(.c (.lst [(.int .i64), (.lst [(.int .u8)])])), (.c (.int .i64))] 1
 (.ite (.cmp .neq (.v 2) (.ki .i64 0))
  (.ret [(.rc (.cons (.ks ⟨List.toArray []⟩) (.cons (.ks ⟨List.toArray []⟩) (.cons (.ki .i64 0) (.cons (.ki .i64 0) (.cons (.ki .i64 0) (.cons (.ki .i64 0) (.cons (.ks ⟨List.toArray []⟩) (.cons (.kb false) (.cons (.ki .i64 0) (.cons .nil .nil))))))))))), (.v 2)])
  (.loop [.str, .str, (.int .i64), (.int .i64), (.int .i64), (.int .i64), .str, .bool, (.int .i64), (.lst [(.int .i64), (.int .i64)]), (.int .i64), (.int .i64)] [(.ks ⟨List.toArray []⟩), (.ks ⟨List.toArray []⟩), (.ki .i64 0), (.ki .i64 0), (.ki .i64 0), (.ki .i64 0), (.ks ⟨List.toArray []⟩), (.kb false), (.ki .i64 0), .nil, (.ki .i64 0), (.ki .i64 0)]
   (.ite (.cmp .lss (.v 14) (.len (.v 1)))
    (.ev [(.ob (.cmp .geq (.v 14) (.ki .i64 0))), (.ob (.cmp .lss (.v 14) (.len (.v 1))))]
     (.cal 72 [(.p [(.s .str), (.s .str), (.s (.int .i64)), (.s (.int .i64)), (.s (.int .i64)), (.s (.int .i64)), (.s .str), (.s .bool), (.s (.int .i64)), (.s (.lst [(.int .i64), (.int .i64)]))]), (.g [(.int .i64), (.lst [(.int .u8)])])] [(.rc (.cons (.v 3) (.cons (.v 4) (.cons (.v 5) (.cons (.v 6) (.cons (.v 7) (.cons (.v 8) (.cons (.v 9) (.cons (.v 10) (.cons (.v 11) (.cons (.v 12) .nil))))))))))), (.rc (.cons (.cell (.get (.v 1) (.v 14)) 0) (.cons (.cell (.get (.v 1) (.v 14)) 1) .nil)))] [(.c .bool)] 15
      (.ite (.v 15)
       (.back 0 [(.v 16), (.v 17), (.v 18), (.v 19), (.v 20), (.v 21), (.v 22), (.v 23), (.v 24), (.v 25), (.v 13), (.ar .add .i64 (.v 14) (.ki .i64 1))])
       (.ret [(.rc (.cons (.ks ⟨List.toArray []⟩) (.cons (.ks ⟨List.toArray []⟩) (.cons (.ki .i64 0) (.cons (.ki .i64 0) (.cons (.ki .i64 0) (.cons (.ki .i64 0) (.cons (.ks ⟨List.toArray []⟩) (.cons (.kb false) (.cons (.ki .i64 0) (.cons .nil .nil))))))))))), (.ki .i64 5)]))))
    (.cal 29 [(.g [.str, .str, (.int .i64), (.int .i64), (.int .i64), (.int .i64), .str, .bool, (.int .i64), (.lst [(.int .i64), (.int .i64)])])] [(.rc (.cons (.v 3) (.cons (.v 4) (.cons (.v 5) (.cons (.v 6) (.cons (.v 7) (.cons (.v 8) (.cons (.v 9) (.cons (.v 10) (.cons (.v 11) (.cons (.v 12) .nil)))))))))))] [(.c (.int .i64))] 15
     (.ite (.cmp .neq (.v 15) (.ki .i64 0))
      (.ret [(.rc (.cons (.ks ⟨List.toArray []⟩) (.cons (.ks ⟨List.toArray []⟩) (.cons (.ki .i64 0) (.cons (.ki .i64 0) (.cons (.ki .i64 0) (.cons (.ki .i64 0) (.cons (.ks ⟨List.toArray []⟩) (.cons (.kb false) (.cons (.ki .i64 0) (.cons .nil .nil))))))))))), (.v 15)])
      (.ret [(.rc (.cons (.v 3) (.cons (.v 4) (.cons (.v 5) (.cons (.v 6) (.cons (.v 7) (.cons (.v 8) (.cons (.v 9) (.cons (.v 10) (.cons (.v 11) (.cons (.v 12) .nil))))))))))), (.ki .i64 0)])))))))
theorem decode_ent : EntOK Try.prog [] ⟨47, [(.c (.lst [(.int .u8)]))], [(.g [.str, .str, (.int .i64), (.int .i64), (.int .i64), (.int .i64), .str, .bool, (.int .i64), (.lst [(.int .i64), (.int .i64)])]), (.c (.int .i64))], vcdecode⟩ :=
  ent_of_gen hP Try.func47 rfl (by decide) (sg := sgs) (by kernel_rfl)
def vctakefield : VC := (.ite (.cmp .eql (.v 10) (.ki .i64 1))
 (.ret [(.not (.seq (.b2s (.v 11)) (.ks ⟨List.toArray []⟩))), (.rc (.cons (.b2s (.v 11)) (.cons (.v 1) (.cons (.v 2) (.cons (.v 3) (.cons (.v 4) (.cons (.v 5) (.cons (.v 6) (.cons (.v 7) (.cons (.v 8) (.cons (.v 9) .nil)))))))))))])
 (.ite (.cmp .eql (.v 10) (.ki .i64 2))
  (.ret [(.not (.seq (.b2s (.v 11)) (.ks ⟨List.toArray []⟩))), (.rc (.cons (.v 0) (.cons (.b2s (.v 11)) (.cons (.v 2) (.cons (.v 3) (.cons (.v 4) (.cons (.v 5) (.cons (.v 6) (.cons (.v 7) (.cons (.v 8) (.cons (.v 9) .nil)))))))))))])
  (.ite (.cmp .eql (.v 10) (.ki .i64 7))
   (.ret [(.not (.seq (.b2s (.v 11)) (.ks ⟨List.toArray []⟩))), (.rc (.cons (.v 0) (.cons (.v 1) (.cons (.v 2) (.cons (.v 3) (.cons (.v 4) (.cons (.v 5) (.cons (.b2s (.v 11)) (.cons (.v 7) (.cons (.v 8) (.cons (.v 9) .nil)))))))))))])
   (.ite (.cmp .eql (.v 10) (.ki .i64 10))
    (.cal 89 [(.c (.lst [(.int .u8)]))] [(.v 11)] [(.c (.lst [(.int .i64), (.int .i64)])), (.c .bool)] 12
     (.ite (.v 13)
      (.ret [(.cmp .gtr (.len (.v 12)) (.ki .i64 0)), (.rc (.cons (.v 0) (.cons (.v 1) (.cons (.v 2) (.cons (.v 3) (.cons (.v 4) (.cons (.v 5) (.cons (.v 6) (.cons (.v 7) (.cons (.v 8) (.cons (.v 12) .nil)))))))))))])
      (.ret [(.kb false), (.rc (.cons (.v 0) (.cons (.v 1) (.cons (.v 2) (.cons (.v 3) (.cons (.v 4) (.cons (.v 5) (.cons (.v 6) (.cons (.v 7) (.cons (.v 8) (.cons (.v 12) .nil)))))))))))])))
    (.cal 45 [(.c (.lst [(.int .u8)]))] [(.v 11)] [(.c (.int .i64)), (.c (.int .i64))] 12
     (.ite (.cmp .neq (.v 13) (.ki .i64 0))
      (.ret [(.kb false), (.rc (.cons (.v 0) (.cons (.v 1) (.cons (.v 2) (.cons (.v 3) (.cons (.v 4) (.cons (.v 5) (.cons (.v 6) (.cons (.v 7) (.cons (.v 8) (.cons (.v 9) .nil)))))))))))])
      (.ite (.cmp .eql (.v 12) (.ki .i64 0))
       (.ret [(.kb false), (.rc (.cons (.v 0) (.cons (.v 1) (.cons (.v 2) (.cons (.v 3) (.cons (.v 4) (.cons (.v 5) (.cons (.v 6) (.cons (.v 7) (.cons (.v 8) (.cons (.v 9) .nil)))))))))))])
       (.ite (.cmp .eql (.v 10) (.ki .i64 3))
        (.ret [(.kb true), (.rc (.cons (.v 0) (.cons (.v 1) (.cons (.v 12) (.cons (.v 3) (.cons (.v 4) (.cons (.v 5) (.cons (.v 6) (.cons (.v 7) (.cons (.v 8) (.cons (.v 9) .nil)))))))))))])
        (.ite (.cmp .eql (.v 10) (.ki .i64 4))
         (.ret [(.kb true), (.rc (.cons (.v 0) (.cons (.v 1) (.cons (.v 2) (.cons (.v 12) (.cons (.v 4) (.cons (.v 5) (.cons (.v 6) (.cons (.v 7) (.cons (.v 8) (.cons (.v 9) .nil)))))))))))])
         (.ite (.cmp .eql (.v 10) (.ki .i64 5))
          (.ret [(.kb true), (.rc (.cons (.v 0) (.cons (.v 1) (.cons (.v 2) (.cons (.v 3) (.cons (.v 12) (.cons (.v 5) (.cons (.v 6) (.cons (.v 7) (.cons (.v 8) (.cons (.v 9) .nil)))))))))))])
          (.ite (.cmp .eql (.v 10) (.ki .i64 6))
           (.ret [(.kb true), (.rc (.cons (.v 0) (.cons (.v 1) (.cons (.v 2) (.cons (.v 3) (.cons (.v 4) (.cons (.v 12) (.cons (.v 6) (.cons (.v 7) (.cons (.v 8) (.cons (.v 9) .nil)))))))))))])
           (.ite (.cmp .eql (.v 10) (.ki .i64 8))
            (.ret [(.cmp .eql (.v 12) (.ki .i64 1)), (.rc (.cons (.v 0) (.cons (.v 1) (.cons (.v 2) (.cons (.v 3) (.cons (.v 4) (.cons (.v 5) (.cons (.v 6) (.cons (.kb true) (.cons (.v 8) (.cons (.v 9) .nil)))))))))))])
            (.ite (.cmp .eql (.v 10) (.ki .i64 9))
             (.ret [(.kb true), (.rc (.cons (.v 0) (.cons (.v 1) (.cons (.v 2) (.cons (.v 3) (.cons (.v 4) (.cons (.v 5) (.cons (.v 6) (.cons (.v 7) (.cons (.v 12) (.cons (.v 9) .nil)))))))))))])
             (.ret [(.kb false), (.rc (.cons (.v 0) (.cons (.v 1) (.cons (.v 2) (.cons (.v 3) (.cons (.v 4) (.cons (.v 5) (.cons (.v 6) (.cons (.v 7) (.cons (.v 8) (.cons (.v 9) .nil)))))))))))]))))))))))))))
theorem takefield_ent : EntOK Try.prog [] ⟨72, [(.p [(.s .str), (.s .str), (.s (.int .i64)), (.s (.int .i64)), (.s (.int .i64)), (.s (.int .i64)), (.s .str), (.s .bool), (.s (.int .i64)), (.s (.lst [(.int .i64), (.int .i64)]))]), (.g [(.int .i64), (.lst [(.int .u8)])])], [(.c .bool)], vctakefield⟩ :=
  ent_of_gen hP Try.func72 rfl (by decide) (sg := sgs) (by kernel_rfl)
def vctakerd : VC := (.cal 46 [(.c (.lst [(.int .u8)]))] [(.v 0)] [(.c (.lst [(.lst [(.int .u8)])])), (.c (.int .i64))] 1
 (.ite (.cmp .neq (.v 2) (.ki .i64 0))
  (.ret [.nil, (.kb false)])
  (.ite (.cmp .neq (.ar .rem .i64 (.len (.v 1)) (.ki .i64 2)) (.ki .i64 0))
   (.ret [.nil, (.kb false)])
   (.ev [(.ob (.cmp .leq (.ki .i64 0) (.ar .quo .i64 (.len (.v 1)) (.ki .i64 2)))), (.ob (.cmp .leq (.ar .quo .i64 (.len (.v 1)) (.ki .i64 2)) (.ki .i64 4294967296)))]
    (.loop [(.lst [(.int .i64), (.int .i64)]), (.lst [(.int .i64), (.int .i64)]), .bool, (.int .i64)] [(.rep (.ki .i64 0) (.rc (.cons (.ki .i64 0) (.cons (.ki .i64 0) .nil)))), .nil, (.kb false), (.ki .i64 0)]
     (.ite (.cmp .lss (.v 6) (.len (.v 1)))
      (.ev [(.ob (.cmp .geq (.v 6) (.ki .i64 0))), (.ob (.cmp .lss (.v 6) (.len (.v 1))))]
       (.cal 45 [(.c (.lst [(.int .u8)]))] [(.get (.v 1) (.v 6))] [(.c (.int .i64)), (.c (.int .i64))] 7
        (.ite (.cmp .neq (.v 8) (.ki .i64 0))
         (.ret [.nil, (.kb false)])
         (.ev [(.ob (.cmp .geq (.ar .add .i64 (.v 6) (.ki .i64 1)) (.ki .i64 0))), (.ob (.cmp .lss (.ar .add .i64 (.v 6) (.ki .i64 1)) (.len (.v 1))))]
          (.cal 45 [(.c (.lst [(.int .u8)]))] [(.get (.v 1) (.ar .add .i64 (.v 6) (.ki .i64 1)))] [(.c (.int .i64)), (.c (.int .i64))] 9
           (.ite (.cmp .neq (.v 10) (.ki .i64 0))
            (.ret [.nil, (.kb false)])
            (.ev [(.ob (.cmp .leq (.len (.app (.v 3) (.cons (.rc (.cons (.v 7) (.cons (.v 9) .nil))) .nil))) (.ki .i64 4294967296)))]
             (.back 0 [(.app (.v 3) (.cons (.rc (.cons (.v 7) (.cons (.v 9) .nil))) .nil)), (.v 4), (.v 5), (.ar .add .i64 (.v 6) (.ki .i64 2))]))))))))
      (.ret [(.v 3), (.kb true)])))))))
theorem takerd_ent : EntOK Try.prog [] ⟨89, [(.c (.lst [(.int .u8)]))], [(.c (.lst [(.int .i64), (.int .i64)])), (.c .bool)], vctakerd⟩ :=
  ent_of_gen hP Try.func89 rfl (by decide) (sg := sgs) (by kernel_rfl)
end Go.Proofs.Ytmkkijgnlohieaa.D30
