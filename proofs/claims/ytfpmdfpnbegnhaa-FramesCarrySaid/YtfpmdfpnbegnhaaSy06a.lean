/-
  The functions of layer 6: their conditions (printed by a program).
-/
import Derived.Test.YtfpmdfpnbegnhaaFrame
import Derived.Test.YtfpmdfpnbegnhaaSyO3
set_option maxRecDepth 100000
set_option linter.unusedSimpArgs false
set_option linter.unusedVariables false
namespace Go.Proofs.Ytfpmdfpnbegnhaa
open Go.Proofs.Ytfpmdfpnbegnhaa.Sy
theorem hP : NoNum Try.prog := by unfold NoNum; kernel_rfl
def sgs : Nat → Option (List TS × List TS) := fun f => if Nat.beq f 31 then some ([.r [.int .u8], .c (.int .u8)], [.r [.int .u8]]) else if Nat.beq f 15 then some ([.c (.lst [.int .u8])], [.r [.int .u8], .c (.int .i64)]) else if Nat.beq f 33 then some ([.c (.lst [.int .u8]), .c .bool], [.r [.int .u8], .c (.int .i64)]) else if Nat.beq f 25 then some ([.c (.lst [.int .u8]), .c (.int .i64)], [.r [.int .u8]]) else if Nat.beq f 45 then some ([.r [.int .u8], .c (.int .i64)], [.r [.int .u8]]) else none
def vcsum : VC := (.loop [(.int .u16), (.int .i64)] [(.ki .u16 65535), (.ki .i64 0)]
 (.ite (.cmp .lss (.v 2) (.len (.v 0)))
  (.ev [(.ob (.cmp .geq (.v 2) (.ki .i64 0))), (.ob (.cmp .lss (.v 2) (.len (.v 0))))]
   (.loop [(.int .u16), (.int .i64)] [(.ar .xor .u16 (.v 1) (.shf .shl .u16 (.conv .u16 (.get (.v 0) (.v 2))) (.ki .u64 8))), (.ki .i64 0)]
    (.ite (.cmp .lss (.v 4) (.ki .i64 8))
     (.ite (.cmp .neq (.ar .and .u16 (.v 3) (.ki .u16 32768)) (.ki .u16 0))
      (.back 1 [(.ar .xor .u16 (.shf .shl .u16 (.v 3) (.ki .u64 1)) (.ki .u16 4129)), (.ar .add .i64 (.v 4) (.ki .i64 1))])
      (.back 1 [(.shf .shl .u16 (.v 3) (.ki .u64 1)), (.ar .add .i64 (.v 4) (.ki .i64 1))]))
     (.back 0 [(.v 3), (.ar .add .i64 (.v 2) (.ki .i64 1))]))))
  (.ret [(.conv .i64 (.v 1))])))
theorem sum_ent : EntOK Try.prog [] ⟨13, [(.c (.lst [(.int .u8)]))], [(.c (.int .i64))], vcsum⟩ :=
  ent_of_gen hP Try.func13 rfl (by decide) (sg := sgs) (by kernel_rfl)
def vcrsum : VC := (.loop [(.int .i64), (.int .i64)] [(.ki .i64 65535), (.ki .i64 0)]
 (.ite (.cmp .lss (.v 2) (.len (.v 0)))
  (.ev [(.ob (.cmp .geq (.v 2) (.ki .i64 0))), (.ob (.cmp .lss (.v 2) (.len (.v 0))))]
   (.loop [(.int .i64), (.int .i64)] [(.ar .xor .i64 (.v 1) (.ar .mul .i64 (.conv .i64 (.get (.v 0) (.v 2))) (.ki .i64 256))), (.ki .i64 0)]
    (.ite (.cmp .lss (.v 4) (.ki .i64 8))
     (.ite (.cmp .geq (.ar .mul .i64 (.v 3) (.ki .i64 2)) (.ki .i64 65536))
      (.back 1 [(.ar .xor .i64 (.ar .sub .i64 (.ar .mul .i64 (.v 3) (.ki .i64 2)) (.ki .i64 65536)) (.ki .i64 4129)), (.ar .add .i64 (.v 4) (.ki .i64 1))])
      (.back 1 [(.ar .mul .i64 (.v 3) (.ki .i64 2)), (.ar .add .i64 (.v 4) (.ki .i64 1))]))
     (.back 0 [(.v 3), (.ar .add .i64 (.v 2) (.ki .i64 1))]))))
  (.ret [(.v 1)])))
theorem rsum_ent : EntOK Try.prog [] ⟨14, [(.c (.lst [(.int .u8)]))], [(.c (.int .i64))], vcrsum⟩ :=
  ent_of_gen hP Try.func14 rfl (by decide) (sg := sgs) (by kernel_rfl)
def vcsame : VC := (.ret [(.seq (.b2s (.v 0)) (.b2s (.v 1)))])
theorem same_ent : EntOK Try.prog [] ⟨17, [(.c (.lst [(.int .u8)])), (.c (.lst [(.int .u8)]))], [(.c .bool)], vcsame⟩ :=
  ent_of_gen hP Try.func17 rfl (by decide) (sg := sgs) (by kernel_rfl)
def vcput : VC := (.ite (.cmp .eql (.v 1) (.ki .u8 192))
 (.ev [(.ob (.cmp .leq (.len (.app (.v 0) (.cons (.ki .u8 219) (.cons (.ki .u8 220) .nil)))) (.ki .i64 4294967296)))]
  (.ret [(.app (.v 0) (.cons (.ki .u8 219) (.cons (.ki .u8 220) .nil)))]))
 (.ite (.cmp .eql (.v 1) (.ki .u8 219))
  (.ev [(.ob (.cmp .leq (.len (.app (.v 0) (.cons (.ki .u8 219) (.cons (.ki .u8 221) .nil)))) (.ki .i64 4294967296)))]
   (.ret [(.app (.v 0) (.cons (.ki .u8 219) (.cons (.ki .u8 221) .nil)))]))
  (.ev [(.ob (.cmp .leq (.len (.app (.v 0) (.cons (.v 1) .nil))) (.ki .i64 4294967296)))]
   (.ret [(.app (.v 0) (.cons (.v 1) .nil))]))))
theorem put_ent : EntOK Try.prog [] ⟨31, [(.r [(.int .u8)]), (.c (.int .u8))], [(.r [(.int .u8)])], vcput⟩ :=
  ent_of_gen hP Try.func31 rfl (by decide) (sg := sgs) (by kernel_rfl)
def vcpack : VC := (.ite (.cmp .gtr (.len (.v 0)) (.ki .i64 4096))
 (.ret [.nil, (.ki .i64 3)])
 (.loop [(.lst [(.int .u8)]), (.int .i64)] [(.cons (.ki .u8 192) .nil), (.ki .i64 0)]
  (.ite (.cmp .lss (.v 2) (.len (.v 0)))
   (.ev [(.ob (.cmp .geq (.v 2) (.ki .i64 0))), (.ob (.cmp .lss (.v 2) (.len (.v 0))))]
    (.cal 31 [(.r [(.int .u8)]), (.c (.int .u8))] [(.v 1), (.get (.v 0) (.v 2))] [(.r [(.int .u8)])] 3
     (.back 0 [(.v 3), (.ar .add .i64 (.v 2) (.ki .i64 1))])))
   (.cal 13 [(.c (.lst [(.int .u8)]))] [(.v 0)] [(.c (.int .i64))] 3
    (.cal 31 [(.r [(.int .u8)]), (.c (.int .u8))] [(.v 1), (.conv .u8 (.shf .shr .i64 (.v 3) (.ki .u64 8)))] [(.r [(.int .u8)])] 4
     (.cal 31 [(.r [(.int .u8)]), (.c (.int .u8))] [(.v 4), (.conv .u8 (.v 3))] [(.r [(.int .u8)])] 5
      (.ev [(.ob (.cmp .leq (.len (.app (.v 5) (.cons (.ki .u8 192) .nil))) (.ki .i64 4294967296)))]
       (.ret [(.app (.v 5) (.cons (.ki .u8 192) .nil)), (.ki .i64 0)]))))))))
theorem pack_ent : EntOK Try.prog [] ⟨15, [(.c (.lst [(.int .u8)]))], [(.r [(.int .u8)]), (.c (.int .i64))], vcpack⟩ :=
  ent_of_gen hP Try.func15 rfl (by decide) (sg := sgs) (by kernel_rfl)
def vccontent : VC := (.ev [(.ob (.cmp .leq (.len (.app .nil (.v 0))) (.ki .i64 4294967296)))]
 (.ev [(.ob (.cmp .leq (.len (.app (.app .nil (.v 0)) (.cons (.conv .u8 (.ar .quo .i64 (.v 1) (.ki .i64 256))) (.cons (.conv .u8 (.ar .rem .i64 (.v 1) (.ki .i64 256))) .nil)))) (.ki .i64 4294967296)))]
  (.ret [(.app (.app .nil (.v 0)) (.cons (.conv .u8 (.ar .quo .i64 (.v 1) (.ki .i64 256))) (.cons (.conv .u8 (.ar .rem .i64 (.v 1) (.ki .i64 256))) .nil)))])))
theorem content_ent : EntOK Try.prog [] ⟨25, [(.c (.lst [(.int .u8)])), (.c (.int .i64))], [(.r [(.int .u8)])], vccontent⟩ :=
  ent_of_gen hP Try.func25 rfl (by decide) (sg := sgs) (by kernel_rfl)
def vcstuff : VC := (.loop [(.lst [(.int .u8)]), (.int .i64)] [(.cons (.ki .u8 192) .nil), (.ki .i64 0)]
 (.ite (.cmp .lss (.v 2) (.len (.v 0)))
  (.ev [(.ob (.cmp .geq (.v 2) (.ki .i64 0))), (.ob (.cmp .lss (.v 2) (.len (.v 0))))]
   (.ite (.cmp .eql (.get (.v 0) (.v 2)) (.ki .u8 192))
    (.ev [(.ob (.cmp .leq (.len (.app (.v 1) (.cons (.ki .u8 219) (.cons (.ki .u8 220) .nil)))) (.ki .i64 4294967296)))]
     (.back 0 [(.app (.v 1) (.cons (.ki .u8 219) (.cons (.ki .u8 220) .nil))), (.ar .add .i64 (.v 2) (.ki .i64 1))]))
    (.ite (.cmp .eql (.get (.v 0) (.v 2)) (.ki .u8 219))
     (.ev [(.ob (.cmp .leq (.len (.app (.v 1) (.cons (.ki .u8 219) (.cons (.ki .u8 221) .nil)))) (.ki .i64 4294967296)))]
      (.back 0 [(.app (.v 1) (.cons (.ki .u8 219) (.cons (.ki .u8 221) .nil))), (.ar .add .i64 (.v 2) (.ki .i64 1))]))
     (.ev [(.ob (.cmp .geq (.v 2) (.ki .i64 0))), (.ob (.cmp .lss (.v 2) (.len (.v 0))))]
      (.ev [(.ob (.cmp .leq (.len (.app (.v 1) (.cons (.get (.v 0) (.v 2)) .nil))) (.ki .i64 4294967296)))]
       (.back 0 [(.app (.v 1) (.cons (.get (.v 0) (.v 2)) .nil)), (.ar .add .i64 (.v 2) (.ki .i64 1))]))))))
  (.ev [(.ob (.cmp .leq (.len (.app (.v 1) (.cons (.ki .u8 192) .nil))) (.ki .i64 4294967296)))]
   (.ret [(.app (.v 1) (.cons (.ki .u8 192) .nil))]))))
theorem stuff_ent : EntOK Try.prog [] ⟨24, [(.c (.lst [(.int .u8)]))], [(.c (.lst [(.int .u8)]))], vcstuff⟩ :=
  ent_of_gen hP Try.func24 rfl (by decide) (sg := sgs) (by kernel_rfl)
def vcrpack : VC := (.ite (.cmp .gtr (.len (.v 0)) (.ki .i64 4096))
 (.ret [.nil, (.ki .i64 3)])
 (.cal 14 [(.c (.lst [(.int .u8)]))] [(.v 0)] [(.c (.int .i64))] 1
  (.cal 25 [(.c (.lst [(.int .u8)])), (.c (.int .i64))] [(.v 0), (.v 1)] [(.r [(.int .u8)])] 2
   (.cal 24 [(.c (.lst [(.int .u8)]))] [(.v 2)] [(.c (.lst [(.int .u8)]))] 3
    (.ret [(.v 3), (.ki .i64 0)])))))
theorem rpack_ent : EntOK Try.prog [] ⟨16, [(.c (.lst [(.int .u8)]))], [(.c (.lst [(.int .u8)])), (.c (.int .i64))], vcrpack⟩ :=
  ent_of_gen hP Try.func16 rfl (by decide) (sg := sgs) (by kernel_rfl)
def vcwithout : VC := (.loop [(.lst [(.int .u8)]), (.int .i64)] [.nil, (.ki .i64 0)]
 (.ite (.cmp .lss (.v 2) (.len (.v 0)))
  (.ev [(.ob (.cmp .geq (.v 2) (.ki .i64 0))), (.ob (.cmp .lss (.v 2) (.len (.v 0))))]
   (.ite (.cmp .neq (.get (.v 0) (.v 2)) (.ki .u8 192))
    (.ev [(.ob (.cmp .geq (.v 2) (.ki .i64 0))), (.ob (.cmp .lss (.v 2) (.len (.v 0))))]
     (.ev [(.ob (.cmp .leq (.len (.app (.v 1) (.cons (.get (.v 0) (.v 2)) .nil))) (.ki .i64 4294967296)))]
      (.back 0 [(.app (.v 1) (.cons (.get (.v 0) (.v 2)) .nil)), (.ar .add .i64 (.v 2) (.ki .i64 1))])))
    (.back 0 [(.v 1), (.ar .add .i64 (.v 2) (.ki .i64 1))])))
  (.ret [(.v 1)])))
theorem without_ent : EntOK Try.prog [] ⟨23, [(.c (.lst [(.int .u8)]))], [(.c (.lst [(.int .u8)]))], vcwithout⟩ :=
  ent_of_gen hP Try.func23 rfl (by decide) (sg := sgs) (by kernel_rfl)
def vcsameall : VC := (.ite (.cmp .neq (.len (.v 0)) (.len (.v 1)))
 (.ret [(.kb false)])
 (.loop [.bool, (.int .i64)] [(.kb false), (.ki .i64 0)]
  (.ite (.cmp .lss (.v 3) (.len (.v 0)))
   (.ev [(.ob (.cmp .geq (.v 3) (.ki .i64 0))), (.ob (.cmp .lss (.v 3) (.len (.v 0)))), (.ob (.cmp .geq (.v 3) (.ki .i64 0))), (.ob (.cmp .lss (.v 3) (.len (.v 1))))]
    (.cal 17 [(.c (.lst [(.int .u8)])), (.c (.lst [(.int .u8)]))] [(.get (.v 0) (.v 3)), (.get (.v 1) (.v 3))] [(.c .bool)] 4
     (.ite (.v 4)
      (.back 0 [(.v 2), (.ar .add .i64 (.v 3) (.ki .i64 1))])
      (.ret [(.kb false)]))))
   (.ret [(.kb true)]))))
theorem sameall_ent : EntOK Try.prog [] ⟨22, [(.c (.lst [(.lst [(.int .u8)])])), (.c (.lst [(.lst [(.int .u8)])]))], [(.c .bool)], vcsameall⟩ :=
  ent_of_gen hP Try.func22 rfl (by decide) (sg := sgs) (by kernel_rfl)
def vcinside : VC := (.loop [(.lst [(.int .u8)]), (.lst [(.int .u8)]), (.int .i64), (.int .i64), (.int .i64)] [.nil, .nil, (.ki .i64 0), (.ki .i64 0), (.ki .i64 1)]
 (.ite (.cmp .lss (.v 5) (.len (.v 0)))
  (.ev [(.ob (.cmp .geq (.v 5) (.ki .i64 0))), (.ob (.cmp .lss (.v 5) (.len (.v 0))))]
   (.ite (.cmp .eql (.get (.v 0) (.v 5)) (.ki .u8 192))
    (.ret [(.v 1), (.v 5), (.ki .i64 0)])
    (.ev [(.ob (.cmp .geq (.v 5) (.ki .i64 0))), (.ob (.cmp .lss (.v 5) (.len (.v 0))))]
     (.ite (.cmp .neq (.get (.v 0) (.v 5)) (.ki .u8 219))
      (.ev [(.ob (.cmp .geq (.v 5) (.ki .i64 0))), (.ob (.cmp .lss (.v 5) (.len (.v 0))))]
       (.ev [(.ob (.cmp .leq (.len (.app (.v 1) (.cons (.get (.v 0) (.v 5)) .nil))) (.ki .i64 4294967296)))]
        (.back 0 [(.app (.v 1) (.cons (.get (.v 0) (.v 5)) .nil)), (.v 2), (.v 3), (.v 4), (.ar .add .i64 (.v 5) (.ki .i64 1))])))
      (.ite (.cmp .eql (.ar .add .i64 (.v 5) (.ki .i64 1)) (.len (.v 0)))
       (.ret [.nil, (.ki .i64 0), (.ki .i64 6)])
       (.ev [(.ob (.cmp .geq (.ar .add .i64 (.v 5) (.ki .i64 1)) (.ki .i64 0))), (.ob (.cmp .lss (.ar .add .i64 (.v 5) (.ki .i64 1)) (.len (.v 0))))]
        (.ite (.cmp .neq (.get (.v 0) (.ar .add .i64 (.v 5) (.ki .i64 1))) (.ki .u8 220))
         (.ev [(.ob (.cmp .geq (.ar .add .i64 (.v 5) (.ki .i64 1)) (.ki .i64 0))), (.ob (.cmp .lss (.ar .add .i64 (.v 5) (.ki .i64 1)) (.len (.v 0))))]
          (.ite (.cmp .neq (.get (.v 0) (.ar .add .i64 (.v 5) (.ki .i64 1))) (.ki .u8 221))
           (.ret [.nil, (.ki .i64 0), (.ki .i64 5)])
           (.ev [(.ob (.cmp .geq (.ar .add .i64 (.v 5) (.ki .i64 1)) (.ki .i64 0))), (.ob (.cmp .lss (.ar .add .i64 (.v 5) (.ki .i64 1)) (.len (.v 0))))]
            (.ev [(.ob (.cmp .leq (.len (.app (.v 1) (.cons (.ki .u8 219) .nil))) (.ki .i64 4294967296)))]
             (.back 0 [(.app (.v 1) (.cons (.ki .u8 219) .nil)), (.v 2), (.v 3), (.v 4), (.ar .add .i64 (.ar .add .i64 (.v 5) (.ki .i64 1)) (.ki .i64 1))])))))
         (.ev [(.ob (.cmp .geq (.ar .add .i64 (.v 5) (.ki .i64 1)) (.ki .i64 0))), (.ob (.cmp .lss (.ar .add .i64 (.v 5) (.ki .i64 1)) (.len (.v 0))))]
          (.ev [(.ob (.cmp .leq (.len (.app (.v 1) (.cons (.ki .u8 192) .nil))) (.ki .i64 4294967296)))]
           (.back 0 [(.app (.v 1) (.cons (.ki .u8 192) .nil)), (.v 2), (.v 3), (.v 4), (.ar .add .i64 (.ar .add .i64 (.v 5) (.ki .i64 1)) (.ki .i64 1))]))))))))))
  (.ret [.nil, (.ki .i64 0), (.ki .i64 6)])))
theorem inside_ent : EntOK Try.prog [] ⟨34, [(.c (.lst [(.int .u8)]))], [(.c (.lst [(.int .u8)])), (.c (.int .i64)), (.c (.int .i64))], vcinside⟩ :=
  ent_of_gen hP Try.func34 rfl (by decide) (sg := sgs) (by kernel_rfl)
def vcrunpack : VC := (.ite (.cmp .eql (.len (.v 0)) (.ki .i64 0))
 (.ret [.nil, (.ki .i64 6)])
 (.ev [(.ob (.cmp .lss (.ki .i64 0) (.len (.v 0))))]
  (.ite (.cmp .neq (.get (.v 0) (.ki .i64 0)) (.ki .u8 192))
   (.ret [.nil, (.ki .i64 5)])
   (.cal 34 [(.c (.lst [(.int .u8)]))] [(.v 0)] [(.c (.lst [(.int .u8)])), (.c (.int .i64)), (.c (.int .i64))] 1
    (.ite (.cmp .neq (.v 3) (.ki .i64 0))
     (.ret [.nil, (.v 3)])
     (.ite (.cmp .neq (.v 2) (.ar .sub .i64 (.len (.v 0)) (.ki .i64 1)))
      (.ret [.nil, (.ki .i64 5)])
      (.ite (.cmp .lss (.len (.v 1)) (.ki .i64 2))
       (.ret [.nil, (.ki .i64 6)])
       (.ev [(.ob (.cmp .leq (.ki .i64 0) (.ar .sub .i64 (.len (.v 1)) (.ki .i64 2)))), (.ob (.cmp .leq (.ar .sub .i64 (.len (.v 1)) (.ki .i64 2)) (.len (.v 1))))]
        (.ite (.cmp .gtr (.len (.sub (.v 1) (.ki .i64 0) (.ar .sub .i64 (.len (.v 1)) (.ki .i64 2)))) (.ki .i64 4096))
         (.ret [.nil, (.ki .i64 3)])
         (.ev [(.ob (.cmp .geq (.ar .sub .i64 (.len (.v 1)) (.ki .i64 2)) (.ki .i64 0))), (.ob (.cmp .lss (.ar .sub .i64 (.len (.v 1)) (.ki .i64 2)) (.len (.v 1)))), (.ob (.cmp .geq (.ar .sub .i64 (.len (.v 1)) (.ki .i64 1)) (.ki .i64 0))), (.ob (.cmp .lss (.ar .sub .i64 (.len (.v 1)) (.ki .i64 1)) (.len (.v 1))))]
          (.cal 14 [(.c (.lst [(.int .u8)]))] [(.sub (.v 1) (.ki .i64 0) (.ar .sub .i64 (.len (.v 1)) (.ki .i64 2)))] [(.c (.int .i64))] 4
           (.ite (.cmp .neq (.ar .add .i64 (.ar .mul .i64 (.conv .i64 (.get (.v 1) (.ar .sub .i64 (.len (.v 1)) (.ki .i64 2)))) (.ki .i64 256)) (.conv .i64 (.get (.v 1) (.ar .sub .i64 (.len (.v 1)) (.ki .i64 1))))) (.v 4))
            (.ret [.nil, (.ki .i64 7)])
            (.ret [(.sub (.v 1) (.ki .i64 0) (.ar .sub .i64 (.len (.v 1)) (.ki .i64 2))), (.ki .i64 0)])))))))))))))
theorem runpack_ent : EntOK Try.prog [] ⟨19, [(.c (.lst [(.int .u8)]))], [(.c (.lst [(.int .u8)])), (.c (.int .i64))], vcrunpack⟩ :=
  ent_of_gen hP Try.func19 rfl (by decide) (sg := sgs) (by kernel_rfl)
def vccont : VC := (.loop [(.lst [(.int .u8)]), (.lst [(.int .u8)]), (.int .i64), (.int .i64)] [.nil, .nil, (.ki .i64 0), (.ki .i64 0)]
 (.ite (.cmp .lss (.v 5) (.len (.v 0)))
  (.ev [(.ob (.cmp .geq (.v 5) (.ki .i64 0))), (.ob (.cmp .lss (.v 5) (.len (.v 0))))]
   (.ite (.cmp .eql (.get (.v 0) (.v 5)) (.ki .u8 219))
    (.ite (.cmp .eql (.ar .add .i64 (.v 5) (.ki .i64 1)) (.len (.v 0)))
     (.ite (.v 1)
      (.ret [.nil, (.ki .i64 5)])
      (.ret [.nil, (.ki .i64 6)]))
     (.ev [(.ob (.cmp .geq (.ar .add .i64 (.v 5) (.ki .i64 1)) (.ki .i64 0))), (.ob (.cmp .lss (.ar .add .i64 (.v 5) (.ki .i64 1)) (.len (.v 0))))]
      (.ite (.cmp .eql (.get (.v 0) (.ar .add .i64 (.v 5) (.ki .i64 1))) (.ki .u8 220))
       (.ite (.v 1)
        (.ev [(.ob (.cmp .leq (.len (.app (.v 2) (.cons (.ki .u8 192) .nil))) (.ki .i64 4294967296)))]
         (.back 0 [(.app (.v 2) (.cons (.ki .u8 192) .nil)), (.v 3), (.v 4), (.ar .add .i64 (.ar .add .i64 (.v 5) (.ki .i64 1)) (.ki .i64 1))]))
        (.back 0 [(.v 2), (.v 3), (.v 4), (.ar .add .i64 (.ar .add .i64 (.v 5) (.ki .i64 1)) (.ki .i64 1))]))
       (.ev [(.ob (.cmp .geq (.ar .add .i64 (.v 5) (.ki .i64 1)) (.ki .i64 0))), (.ob (.cmp .lss (.ar .add .i64 (.v 5) (.ki .i64 1)) (.len (.v 0))))]
        (.ite (.cmp .neq (.get (.v 0) (.ar .add .i64 (.v 5) (.ki .i64 1))) (.ki .u8 221))
         (.ret [.nil, (.ki .i64 5)])
         (.ite (.v 1)
          (.ev [(.ob (.cmp .leq (.len (.app (.v 2) (.cons (.get (.v 0) (.v 5)) .nil))) (.ki .i64 4294967296)))]
           (.back 0 [(.app (.v 2) (.cons (.get (.v 0) (.v 5)) .nil)), (.v 3), (.v 4), (.ar .add .i64 (.ar .add .i64 (.v 5) (.ki .i64 1)) (.ki .i64 1))]))
          (.back 0 [(.v 2), (.v 3), (.v 4), (.ar .add .i64 (.ar .add .i64 (.v 5) (.ki .i64 1)) (.ki .i64 1))])))))))
    (.ite (.v 1)
     (.ev [(.ob (.cmp .leq (.len (.app (.v 2) (.cons (.get (.v 0) (.v 5)) .nil))) (.ki .i64 4294967296)))]
      (.back 0 [(.app (.v 2) (.cons (.get (.v 0) (.v 5)) .nil)), (.v 3), (.v 4), (.ar .add .i64 (.v 5) (.ki .i64 1))]))
     (.back 0 [(.v 2), (.v 3), (.v 4), (.ar .add .i64 (.v 5) (.ki .i64 1))]))))
  (.ite (.v 1)
   (.ret [(.v 2), (.ki .i64 0)])
   (.ret [.nil, (.ki .i64 6)]))))
theorem cont_ent : EntOK Try.prog [] ⟨33, [(.c (.lst [(.int .u8)])), (.c .bool)], [(.r [(.int .u8)]), (.c (.int .i64))], vccont⟩ :=
  ent_of_gen hP Try.func33 rfl (by decide) (sg := sgs) (by kernel_rfl)
def vcclone : VC := (.nilq (.v 0)
 (.ret [.nil])
 (.ev [(.ob (.cmp .leq (.len (.app .nil (.v 0))) (.ki .i64 4294967296)))]
  (.ret [(.app .nil (.v 0))])))
theorem clone_ent : EntOK Try.prog [] ⟨36, [(.c (.lst [(.int .u8)]))], [(.c (.lst [(.int .u8)]))], vcclone⟩ :=
  ent_of_gen hP Try.func36 rfl (by decide) (sg := sgs) (by kernel_rfl)
def vcunpack : VC := (.ite (.cmp .eql (.len (.v 0)) (.ki .i64 0))
 (.ret [.nil, (.ki .i64 6)])
 (.ev [(.ob (.cmp .lss (.ki .i64 0) (.len (.v 0))))]
  (.ite (.cmp .neq (.get (.v 0) (.ki .i64 0)) (.ki .u8 192))
   (.ret [.nil, (.ki .i64 5)])
   (.ev [(.ob (.cmp .leq (.ki .i64 0) (.len (.v 0)))), (.ob (.cmp .leq (.len (.v 0)) (.len (.v 0)))), (.ob (.cmp .leq (.ki .i64 0) (.len (.v 0)))), (.ob (.cmp .leq (.len (.v 0)) (.len (.v 0)))), (.ob (.cmp .leq (.ki .i64 1) (.len (.v 0))))]
    (.cal 32 [(.c (.lst [(.int .u8)])), (.c (.int .u8))] [(.sub (.v 0) (.ki .i64 1) (.len (.v 0))), (.ki .u8 192)] [(.c (.int .i64))] 1
     (.ite (.cmp .geq (.v 1) (.ki .i64 0))
      (.ev [(.ob (.cmp .leq (.ki .i64 0) (.v 1))), (.ob (.cmp .leq (.v 1) (.len (.sub (.v 0) (.ki .i64 1) (.len (.v 0)))))), (.ob (.cmp .leq (.ki .i64 0) (.v 1))), (.ob (.cmp .leq (.v 1) (.v 1)))]
       (.cal 33 [(.c (.lst [(.int .u8)])), (.c .bool)] [(.sub (.sub (.v 0) (.ki .i64 1) (.len (.v 0))) (.ki .i64 0) (.v 1)), (.kb true)] [(.r [(.int .u8)]), (.c (.int .i64))] 2
        (.ite (.cmp .neq (.v 3) (.ki .i64 0))
         (.ret [.nil, (.v 3)])
         (.ite (.cmp .gtr (.len (.v 0)) (.ar .add .i64 (.len (.sub (.sub (.v 0) (.ki .i64 1) (.len (.v 0))) (.ki .i64 0) (.v 1))) (.ki .i64 2)))
          (.ret [.nil, (.ki .i64 5)])
          (.ite (.cmp .lss (.len (.v 2)) (.ki .i64 2))
           (.ret [.nil, (.ki .i64 6)])
           (.ite (.cmp .gtr (.ar .sub .i64 (.len (.v 2)) (.ki .i64 2)) (.ki .i64 4096))
            (.ret [.nil, (.ki .i64 3)])
            (.ev [(.ob (.cmp .leq (.ki .i64 0) (.ar .sub .i64 (.len (.v 2)) (.ki .i64 2)))), (.ob (.cmp .leq (.ar .sub .i64 (.len (.v 2)) (.ki .i64 2)) (.len (.v 2)))), (.ob (.cmp .geq (.ar .sub .i64 (.len (.v 2)) (.ki .i64 2)) (.ki .i64 0))), (.ob (.cmp .lss (.ar .sub .i64 (.len (.v 2)) (.ki .i64 2)) (.len (.v 2)))), (.ob (.cmp .lss (.ar .sub .i64 (.len (.v 2)) (.ki .i64 2)) (.len (.v 2)))), (.ob (.cmp .geq (.ar .add .i64 (.ar .sub .i64 (.len (.v 2)) (.ki .i64 2)) (.ki .i64 1)) (.ki .i64 0))), (.ob (.cmp .lss (.ar .add .i64 (.ar .sub .i64 (.len (.v 2)) (.ki .i64 2)) (.ki .i64 1)) (.len (.v 2)))), (.ob (.cmp .lss (.ar .add .i64 (.ar .sub .i64 (.len (.v 2)) (.ki .i64 2)) (.ki .i64 1)) (.len (.v 2))))]
             (.cal 13 [(.c (.lst [(.int .u8)]))] [(.sub (.v 2) (.ki .i64 0) (.ar .sub .i64 (.len (.v 2)) (.ki .i64 2)))] [(.c (.int .i64))] 4
              (.ite (.cmp .neq (.v 4) (.ar .or .i64 (.shf .shl .i64 (.conv .i64 (.get (.v 2) (.ar .sub .i64 (.len (.v 2)) (.ki .i64 2)))) (.ki .u64 8)) (.conv .i64 (.get (.v 2) (.ar .add .i64 (.ar .sub .i64 (.len (.v 2)) (.ki .i64 2)) (.ki .i64 1))))))
               (.ret [.nil, (.ki .i64 7)])
               (.ev [(.ob (.cmp .leq (.ki .i64 0) (.ar .sub .i64 (.len (.v 2)) (.ki .i64 2)))), (.ob (.cmp .leq (.ar .sub .i64 (.len (.v 2)) (.ki .i64 2)) (.len (.v 2)))), (.ob (.cmp .leq (.ki .i64 0) (.ar .sub .i64 (.len (.v 2)) (.ki .i64 2)))), (.ob (.cmp .leq (.ar .sub .i64 (.len (.v 2)) (.ki .i64 2)) (.ar .sub .i64 (.len (.v 2)) (.ki .i64 2))))]
                (.ret [(.sub (.v 2) (.ki .i64 0) (.ar .sub .i64 (.len (.v 2)) (.ki .i64 2))), (.ki .i64 0)])))))))))))
      (.cal 33 [(.c (.lst [(.int .u8)])), (.c .bool)] [(.sub (.v 0) (.ki .i64 1) (.len (.v 0))), (.kb false)] [(.r [(.int .u8)]), (.c (.int .i64))] 2
       (.ite (.cmp .neq (.v 3) (.ki .i64 0))
        (.ret [.nil, (.v 3)])
        (.ite (.cmp .gtr (.len (.v 0)) (.ar .add .i64 (.len (.sub (.v 0) (.ki .i64 1) (.len (.v 0)))) (.ki .i64 2)))
         (.ret [.nil, (.ki .i64 5)])
         (.ite (.cmp .lss (.len (.v 2)) (.ki .i64 2))
          (.ret [.nil, (.ki .i64 6)])
          (.ite (.cmp .gtr (.ar .sub .i64 (.len (.v 2)) (.ki .i64 2)) (.ki .i64 4096))
           (.ret [.nil, (.ki .i64 3)])
           (.ev [(.ob (.cmp .leq (.ki .i64 0) (.ar .sub .i64 (.len (.v 2)) (.ki .i64 2)))), (.ob (.cmp .leq (.ar .sub .i64 (.len (.v 2)) (.ki .i64 2)) (.len (.v 2)))), (.ob (.cmp .geq (.ar .sub .i64 (.len (.v 2)) (.ki .i64 2)) (.ki .i64 0))), (.ob (.cmp .lss (.ar .sub .i64 (.len (.v 2)) (.ki .i64 2)) (.len (.v 2)))), (.ob (.cmp .lss (.ar .sub .i64 (.len (.v 2)) (.ki .i64 2)) (.len (.v 2)))), (.ob (.cmp .geq (.ar .add .i64 (.ar .sub .i64 (.len (.v 2)) (.ki .i64 2)) (.ki .i64 1)) (.ki .i64 0))), (.ob (.cmp .lss (.ar .add .i64 (.ar .sub .i64 (.len (.v 2)) (.ki .i64 2)) (.ki .i64 1)) (.len (.v 2)))), (.ob (.cmp .lss (.ar .add .i64 (.ar .sub .i64 (.len (.v 2)) (.ki .i64 2)) (.ki .i64 1)) (.len (.v 2))))]
            (.cal 13 [(.c (.lst [(.int .u8)]))] [(.sub (.v 2) (.ki .i64 0) (.ar .sub .i64 (.len (.v 2)) (.ki .i64 2)))] [(.c (.int .i64))] 4
             (.ite (.cmp .neq (.v 4) (.ar .or .i64 (.shf .shl .i64 (.conv .i64 (.get (.v 2) (.ar .sub .i64 (.len (.v 2)) (.ki .i64 2)))) (.ki .u64 8)) (.conv .i64 (.get (.v 2) (.ar .add .i64 (.ar .sub .i64 (.len (.v 2)) (.ki .i64 2)) (.ki .i64 1))))))
              (.ret [.nil, (.ki .i64 7)])
              (.ev [(.ob (.cmp .leq (.ki .i64 0) (.ar .sub .i64 (.len (.v 2)) (.ki .i64 2)))), (.ob (.cmp .leq (.ar .sub .i64 (.len (.v 2)) (.ki .i64 2)) (.len (.v 2)))), (.ob (.cmp .leq (.ki .i64 0) (.ar .sub .i64 (.len (.v 2)) (.ki .i64 2)))), (.ob (.cmp .leq (.ar .sub .i64 (.len (.v 2)) (.ki .i64 2)) (.ar .sub .i64 (.len (.v 2)) (.ki .i64 2))))]
               (.ret [(.sub (.v 2) (.ki .i64 0) (.ar .sub .i64 (.len (.v 2)) (.ki .i64 2))), (.ki .i64 0)]))))))))))))))))
theorem unpack_ent : EntOK Try.prog [] ⟨18, [(.c (.lst [(.int .u8)]))], [(.c (.lst [(.int .u8)])), (.c (.int .i64))], vcunpack⟩ :=
  ent_of_gen hP Try.func18 rfl (by decide) (sg := sgs) (by kernel_rfl)
def vcconcat : VC := (.loop [(.int .i64), (.int .i64)] [(.ki .i64 0), (.ki .i64 0)]
 (.ite (.cmp .lss (.v 2) (.len (.v 0)))
  (.ev [(.ob (.cmp .geq (.v 2) (.ki .i64 0))), (.ob (.cmp .lss (.v 2) (.len (.v 0))))]
   (.ite (.cmp .lss (.ar .add .i64 (.v 1) (.len (.get (.v 0) (.v 2)))) (.ki .i64 0))
    (.bad 700)
    (.back 0 [(.ar .add .i64 (.v 1) (.len (.get (.v 0) (.v 2)))), (.ar .add .i64 (.v 2) (.ki .i64 1))])))
  (.cal 45 [(.r [(.int .u8)]), (.c (.int .i64))] [.nil, (.v 1)] [(.r [(.int .u8)])] 3
   (.loop [(.lst [(.int .u8)]), (.int .i64)] [(.v 3), (.ki .i64 0)]
    (.ite (.cmp .lss (.v 5) (.len (.v 0)))
     (.ev [(.ob (.cmp .geq (.v 5) (.ki .i64 0))), (.ob (.cmp .lss (.v 5) (.len (.v 0))))]
      (.ev [(.ob (.cmp .leq (.len (.app (.v 4) (.get (.v 0) (.v 5)))) (.ki .i64 4294967296)))]
       (.back 1 [(.app (.v 4) (.get (.v 0) (.v 5))), (.ar .add .i64 (.v 5) (.ki .i64 1))])))
     (.ret [(.v 4)]))))))
theorem concat_ent : EntOK Try.prog [] ⟨35, [(.c (.lst [(.lst [(.int .u8)])]))], [(.c (.lst [(.int .u8)]))], vcconcat⟩ :=
  ent_of_gen hP Try.func35 rfl (by decide) (sg := sgs) (by kernel_rfl)
def vcfeed : VC := (.cal 35 [(.c (.lst [(.lst [(.int .u8)])]))] [(.cons (.v 0) (.cons (.v 1) .nil))] [(.c (.lst [(.int .u8)]))] 2
 (.loop [(.lst [(.lst [(.int .u8)])]), (.int .i64), (.int .i64)] [.nil, (.ki .i64 (-1)), (.ki .i64 0)]
  (.ite (.cmp .lss (.v 5) (.len (.v 2)))
   (.ev [(.ob (.cmp .geq (.v 5) (.ki .i64 0))), (.ob (.cmp .lss (.v 5) (.len (.v 2))))]
    (.ite (.cmp .neq (.get (.v 2) (.v 5)) (.ki .u8 192))
     (.back 0 [(.v 3), (.v 4), (.ar .add .i64 (.v 5) (.ki .i64 1))])
     (.ite (.cmp .geq (.v 4) (.ki .i64 0))
      (.ite (.cmp .leq (.ar .sub .i64 (.ar .add .i64 (.v 5) (.ki .i64 1)) (.v 4)) (.ki .i64 8198))
       (.ev [(.ob (.cmp .leq (.ki .i64 0) (.ar .add .i64 (.v 5) (.ki .i64 1)))), (.ob (.cmp .leq (.ar .add .i64 (.v 5) (.ki .i64 1)) (.len (.v 2)))), (.ob (.cmp .leq (.ki .i64 0) (.ar .add .i64 (.v 5) (.ki .i64 1)))), (.ob (.cmp .leq (.ar .add .i64 (.v 5) (.ki .i64 1)) (.ar .add .i64 (.v 5) (.ki .i64 1)))), (.ob (.cmp .leq (.ki .i64 0) (.v 4))), (.ob (.cmp .leq (.v 4) (.ar .add .i64 (.v 5) (.ki .i64 1))))]
        (.cal 18 [(.c (.lst [(.int .u8)]))] [(.sub (.v 2) (.v 4) (.ar .add .i64 (.v 5) (.ki .i64 1)))] [(.c (.lst [(.int .u8)])), (.c (.int .i64))] 6
         (.ite (.cmp .eql (.v 7) (.ki .i64 0))
          (.ev [(.ob (.cmp .leq (.len (.app (.v 3) (.cons (.v 6) .nil))) (.ki .i64 4294967296)))]
           (.back 0 [(.app (.v 3) (.cons (.v 6) .nil)), (.v 5), (.ar .add .i64 (.v 5) (.ki .i64 1))]))
          (.back 0 [(.v 3), (.v 5), (.ar .add .i64 (.v 5) (.ki .i64 1))]))))
       (.back 0 [(.v 3), (.v 5), (.ar .add .i64 (.v 5) (.ki .i64 1))]))
      (.back 0 [(.v 3), (.v 5), (.ar .add .i64 (.v 5) (.ki .i64 1))]))))
   (.ite (.cmp .lss (.v 4) (.ki .i64 0))
    (.ret [.nil, (.v 3)])
    (.ite (.cmp .gtr (.ar .sub .i64 (.len (.v 2)) (.v 4)) (.ki .i64 8198))
     (.ret [.nil, (.v 3)])
     (.ev [(.ob (.cmp .leq (.ki .i64 0) (.v 4))), (.ob (.cmp .leq (.v 4) (.len (.v 2))))]
      (.cal 36 [(.c (.lst [(.int .u8)]))] [(.sub (.v 2) (.v 4) (.len (.v 2)))] [(.c (.lst [(.int .u8)]))] 6
       (.ret [(.v 6), (.v 3)]))))))))
theorem feed_ent : EntOK Try.prog [] ⟨20, [(.c (.lst [(.int .u8)])), (.c (.lst [(.int .u8)]))], [(.c (.lst [(.int .u8)])), (.c (.lst [(.lst [(.int .u8)])]))], vcfeed⟩ :=
  ent_of_gen hP Try.func20 rfl (by decide) (sg := sgs) (by kernel_rfl)
def vcrfeed : VC := (.ev [(.ob (.cmp .leq (.len (.app .nil (.v 0))) (.ki .i64 4294967296)))]
 (.ev [(.ob (.cmp .leq (.len (.app (.app .nil (.v 0)) (.v 1))) (.ki .i64 4294967296)))]
  (.loop [(.lst [(.int .u8)]), (.lst [(.lst [(.int .u8)])]), (.int .i64), (.int .i64)] [(.app (.app .nil (.v 0)) (.v 1)), .nil, (.ki .i64 (-1)), (.ki .i64 0)]
   (.ite (.cmp .lss (.v 5) (.len (.v 2)))
    (.ev [(.ob (.cmp .geq (.v 5) (.ki .i64 0))), (.ob (.cmp .lss (.v 5) (.len (.v 2))))]
     (.ev [(.ob (.cmp .lss (.v 5) (.len (.v 2))))]
      (.ite (.cmp .neq (.get (.v 2) (.v 5)) (.ki .u8 192))
       (.back 0 [(.v 2), (.v 3), (.v 4), (.ar .add .i64 (.v 5) (.ki .i64 1))])
       (.ite (.cmp .geq (.v 4) (.ki .i64 0))
        (.ev [(.ob (.cmp .leq (.ki .i64 0) (.ar .add .i64 (.v 5) (.ki .i64 1)))), (.ob (.cmp .leq (.ar .add .i64 (.v 5) (.ki .i64 1)) (.len (.v 2)))), (.ob (.cmp .leq (.ki .i64 0) (.v 4))), (.ob (.cmp .leq (.v 4) (.ar .add .i64 (.v 5) (.ki .i64 1))))]
         (.cal 19 [(.c (.lst [(.int .u8)]))] [(.sub (.v 2) (.v 4) (.ar .add .i64 (.v 5) (.ki .i64 1)))] [(.c (.lst [(.int .u8)])), (.c (.int .i64))] 6
          (.ite (.cmp .eql (.v 7) (.ki .i64 0))
           (.ev [(.ob (.cmp .leq (.len (.app (.v 3) (.cons (.v 6) .nil))) (.ki .i64 4294967296)))]
            (.back 0 [(.v 2), (.app (.v 3) (.cons (.v 6) .nil)), (.v 5), (.ar .add .i64 (.v 5) (.ki .i64 1))]))
           (.back 0 [(.v 2), (.v 3), (.v 5), (.ar .add .i64 (.v 5) (.ki .i64 1))]))))
        (.back 0 [(.v 2), (.v 3), (.v 5), (.ar .add .i64 (.v 5) (.ki .i64 1))])))))
    (.ite (.cmp .lss (.v 4) (.ki .i64 0))
     (.ret [.nil, (.v 3)])
     (.ite (.cmp .gtr (.ar .sub .i64 (.len (.v 2)) (.v 4)) (.ki .i64 8198))
      (.ret [.nil, (.v 3)])
      (.ev [(.ob (.cmp .leq (.ki .i64 0) (.v 4))), (.ob (.cmp .leq (.v 4) (.len (.v 2))))]
       (.ret [(.sub (.v 2) (.v 4) (.len (.v 2))), (.v 3)]))))))))
theorem rfeed_ent : EntOK Try.prog [] ⟨21, [(.c (.lst [(.int .u8)])), (.c (.lst [(.int .u8)]))], [(.c (.lst [(.int .u8)])), (.c (.lst [(.lst [(.int .u8)])]))], vcrfeed⟩ :=
  ent_of_gen hP Try.func21 rfl (by decide) (sg := sgs) (by kernel_rfl)
def vcawake : VC := (.cal 15 [(.c (.lst [(.int .u8)]))] [.nil] [(.r [(.int .u8)]), (.c (.int .i64))] 0
 (.cal 18 [(.c (.lst [(.int .u8)]))] [(.cons (.ki .u8 192) (.cons (.ki .u8 0) (.cons (.ki .u8 0) (.cons (.ki .u8 192) .nil))))] [(.c (.lst [(.int .u8)])), (.c (.int .i64))] 2
  (.cal 20 [(.c (.lst [(.int .u8)])), (.c (.lst [(.int .u8)]))] [(.cons (.ki .u8 1) (.cons (.ki .u8 192) (.cons (.ki .u8 255) .nil))), (.cons (.ki .u8 255) (.cons (.ki .u8 192) (.cons (.ki .u8 7) .nil)))] [(.c (.lst [(.int .u8)])), (.c (.lst [(.lst [(.int .u8)])]))] 4
   (.cal 13 [(.c (.lst [(.int .u8)]))] [(.cons (.ki .u8 49) (.cons (.ki .u8 50) (.cons (.ki .u8 51) (.cons (.ki .u8 52) (.cons (.ki .u8 53) (.cons (.ki .u8 54) (.cons (.ki .u8 55) (.cons (.ki .u8 56) (.cons (.ki .u8 57) .nil)))))))))] [(.c (.int .i64))] 6
    (.ite (.cmp .eql (.v 6) (.ki .i64 10673))
     (.cal 17 [(.c (.lst [(.int .u8)])), (.c (.lst [(.int .u8)]))] [(.v 0), (.cons (.ki .u8 192) (.cons (.ki .u8 255) (.cons (.ki .u8 255) (.cons (.ki .u8 192) .nil))))] [(.c .bool)] 7
      (.ite (.v 7)
       (.ite (.cmp .eql (.v 1) (.ki .i64 0))
        (.ite (.cmp .eql (.v 3) (.ki .i64 7))
         (.cal 17 [(.c (.lst [(.int .u8)])), (.c (.lst [(.int .u8)]))] [(.v 4), (.cons (.ki .u8 192) (.cons (.ki .u8 7) .nil))] [(.c .bool)] 8
          (.ite (.v 8)
           (.ite (.cmp .eql (.len (.v 5)) (.ki .i64 1))
            (.ev [(.ob (.cmp .lss (.ki .i64 0) (.len (.v 5))))]
             (.ret [(.cmp .eql (.len (.get (.v 5) (.ki .i64 0))) (.ki .i64 0))]))
            (.ret [(.kb false)]))
           (.ret [(.kb false)])))
         (.ret [(.kb false)]))
        (.ret [(.kb false)]))
       (.ret [(.kb false)])))
     (.ret [(.kb false)]))))))
theorem awake_ent : EntOK Try.prog [] ⟨12, [], [(.c .bool)], vcawake⟩ :=
  ent_of_gen hP Try.func12 rfl (by decide) (sg := sgs) (by kernel_rfl)
def vclsums : VC := (.ite (.cmp .gtr (.len (.v 0)) (.ki .i64 300))
 (.cal 12 [] [] [(.c .bool)] 3
  (.ret [(.v 3)]))
 (.cal 13 [(.c (.lst [(.int .u8)]))] [(.v 0)] [(.c (.int .i64))] 3
  (.cal 14 [(.c (.lst [(.int .u8)]))] [(.v 0)] [(.c (.int .i64))] 4
   (.ite (.cmp .neq (.v 3) (.v 4))
    (.ret [(.kb false)])
    (.ite (.cmp .lss (.v 3) (.ki .i64 0))
     (.ret [(.kb false)])
     (.ite (.cmp .gtr (.v 3) (.ki .i64 65535))
      (.ret [(.kb false)])
      (.ite (.cmp .eql (.len (.v 0)) (.ki .i64 0))
       (.cal 12 [] [] [(.c .bool)] 5
        (.ret [(.v 5)]))
       (.ite (.cmp .eql (.v 2) (.ki .u8 0))
        (.cal 12 [] [] [(.c .bool)] 5
         (.ret [(.v 5)]))
        (.ev [(.ob (.cmp .leq (.len (.app .nil (.v 0))) (.ki .i64 4294967296)))]
         (.ev [(.ob (.cmp .neq (.len (.app .nil (.v 0))) (.ki .i64 0)))]
          (.ev [(.ob (.cmp .geq (.ar .rem .i64 (.conv .i64 (.v 1)) (.len (.app .nil (.v 0)))) (.ki .i64 0))), (.ob (.cmp .lss (.ar .rem .i64 (.conv .i64 (.v 1)) (.len (.app .nil (.v 0)))) (.len (.app .nil (.v 0)))))]
           (.ev [(.ob (.cmp .lss (.ar .rem .i64 (.conv .i64 (.v 1)) (.len (.app .nil (.v 0)))) (.len (.app .nil (.v 0)))))]
            (.ev [(.ob (.cmp .geq (.ar .rem .i64 (.conv .i64 (.v 1)) (.len (.app .nil (.v 0)))) (.ki .i64 0))), (.ob (.cmp .lss (.ar .rem .i64 (.conv .i64 (.v 1)) (.len (.app .nil (.v 0)))) (.len (.app .nil (.v 0)))))]
             (.ev [(.ob (.cmp .lss (.ar .rem .i64 (.conv .i64 (.v 1)) (.len (.app .nil (.v 0)))) (.len (.app .nil (.v 0)))))]
              (.cal 13 [(.c (.lst [(.int .u8)]))] [(.set (.app .nil (.v 0)) (.ar .rem .i64 (.conv .i64 (.v 1)) (.len (.app .nil (.v 0)))) (.ar .xor .u8 (.get (.app .nil (.v 0)) (.ar .rem .i64 (.conv .i64 (.v 1)) (.len (.app .nil (.v 0))))) (.v 2)))] [(.c (.int .i64))] 5
               (.ite (.cmp .neq (.v 5) (.v 3))
                (.cal 12 [] [] [(.c .bool)] 6
                 (.ret [(.v 6)]))
                (.ret [(.kb false)])))))))))))))))))
theorem lsums_ent : EntOK Try.prog [] ⟨3, [(.c (.lst [(.int .u8)])), (.c (.int .u16)), (.c (.int .u8))], [(.c .bool)], vclsums⟩ :=
  ent_of_gen hP Try.func3 rfl (by decide) (sg := sgs) (by kernel_rfl)
def vclpacks : VC := (.ite (.cmp .gtr (.len (.v 0)) (.ki .i64 200))
 (.cal 12 [] [] [(.c .bool)] 1
  (.ret [(.v 1)]))
 (.cal 15 [(.c (.lst [(.int .u8)]))] [(.v 0)] [(.r [(.int .u8)]), (.c (.int .i64))] 1
  (.cal 16 [(.c (.lst [(.int .u8)]))] [(.v 0)] [(.c (.lst [(.int .u8)])), (.c (.int .i64))] 3
   (.ite (.cmp .neq (.v 2) (.ki .i64 0))
    (.ret [(.kb false)])
    (.cal 17 [(.c (.lst [(.int .u8)])), (.c (.lst [(.int .u8)]))] [(.v 1), (.v 3)] [(.c .bool)] 5
     (.ite (.v 5)
      (.ite (.cmp .lss (.len (.v 1)) (.ki .i64 4))
       (.ret [(.kb false)])
       (.loop [(.lst [(.int .u8)]), .bool, (.int .i64)] [(.v 1), (.kb false), (.ki .i64 0)]
        (.ite (.cmp .lss (.v 8) (.len (.v 6)))
         (.ev [(.ob (.cmp .geq (.v 8) (.ki .i64 0))), (.ob (.cmp .lss (.v 8) (.len (.v 6))))]
          (.ev [(.ob (.cmp .lss (.v 8) (.len (.v 6))))]
           (.ite (.cmp .eql (.v 8) (.ki .i64 0))
            (.ite (.beq (.cmp .eql (.get (.v 6) (.v 8)) (.ki .u8 192)) (.kb true))
             (.ev [(.ob (.cmp .leq (.ki .i64 0) (.v 8))), (.ob (.cmp .leq (.v 8) (.len (.v 6))))]
              (.cal 18 [(.c (.lst [(.int .u8)]))] [(.sub (.v 6) (.ki .i64 0) (.v 8))] [(.c (.lst [(.int .u8)])), (.c (.int .i64))] 9
               (.ite (.cmp .neq (.len (.v 9)) (.ki .i64 0))
                (.ret [(.kb false)])
                (.ite (.cmp .neq (.v 10) (.ki .i64 6))
                 (.ret [(.kb false)])
                 (.back 0 [(.v 6), (.v 7), (.ar .add .i64 (.v 8) (.ki .i64 1))])))))
             (.ret [(.kb false)]))
            (.ite (.beq (.cmp .eql (.get (.v 6) (.v 8)) (.ki .u8 192)) (.cmp .eql (.v 8) (.ar .sub .i64 (.len (.v 6)) (.ki .i64 1))))
             (.ev [(.ob (.cmp .leq (.ki .i64 0) (.v 8))), (.ob (.cmp .leq (.v 8) (.len (.v 6))))]
              (.cal 18 [(.c (.lst [(.int .u8)]))] [(.sub (.v 6) (.ki .i64 0) (.v 8))] [(.c (.lst [(.int .u8)])), (.c (.int .i64))] 9
               (.ite (.cmp .neq (.len (.v 9)) (.ki .i64 0))
                (.ret [(.kb false)])
                (.ite (.cmp .neq (.v 10) (.ki .i64 6))
                 (.ret [(.kb false)])
                 (.back 0 [(.v 6), (.v 7), (.ar .add .i64 (.v 8) (.ki .i64 1))])))))
             (.ret [(.kb false)])))))
         (.cal 18 [(.c (.lst [(.int .u8)]))] [(.v 6)] [(.c (.lst [(.int .u8)])), (.c (.int .i64))] 9
          (.cal 17 [(.c (.lst [(.int .u8)])), (.c (.lst [(.int .u8)]))] [(.v 9), (.v 0)] [(.c .bool)] 11
           (.ite (.v 11)
            (.ite (.cmp .eql (.v 10) (.ki .i64 0))
             (.cal 12 [] [] [(.c .bool)] 12
              (.ret [(.v 12)]))
             (.ret [(.kb false)]))
            (.ret [(.kb false)])))))))
      (.ret [(.kb false)])))))))
theorem lpacks_ent : EntOK Try.prog [] ⟨4, [(.c (.lst [(.int .u8)]))], [(.c .bool)], vclpacks⟩ :=
  ent_of_gen hP Try.func4 rfl (by decide) (sg := sgs) (by kernel_rfl)
def vclunpacks : VC := (.ite (.cmp .gtr (.len (.v 0)) (.ki .i64 300))
 (.cal 12 [] [] [(.c .bool)] 1
  (.ret [(.v 1)]))
 (.cal 18 [(.c (.lst [(.int .u8)]))] [(.v 0)] [(.c (.lst [(.int .u8)])), (.c (.int .i64))] 1
  (.cal 19 [(.c (.lst [(.int .u8)]))] [(.v 0)] [(.c (.lst [(.int .u8)])), (.c (.int .i64))] 3
   (.cal 17 [(.c (.lst [(.int .u8)])), (.c (.lst [(.int .u8)]))] [(.v 1), (.v 3)] [(.c .bool)] 5
    (.ite (.v 5)
     (.ite (.cmp .neq (.v 2) (.v 4))
      (.ret [(.kb false)])
      (.ite (.cmp .neq (.v 2) (.ki .i64 0))
       (.cal 12 [] [] [(.c .bool)] 6
        (.ret [(.v 6)]))
       (.cal 15 [(.c (.lst [(.int .u8)]))] [(.v 1)] [(.r [(.int .u8)]), (.c (.int .i64))] 6
        (.cal 17 [(.c (.lst [(.int .u8)])), (.c (.lst [(.int .u8)]))] [(.v 6), (.v 0)] [(.c .bool)] 8
         (.ite (.v 8)
          (.ite (.cmp .eql (.v 7) (.ki .i64 0))
           (.cal 12 [] [] [(.c .bool)] 9
            (.ret [(.v 9)]))
           (.ret [(.kb false)]))
          (.ret [(.kb false)]))))))
     (.ret [(.kb false)]))))))
theorem lunpacks_ent : EntOK Try.prog [] ⟨5, [(.c (.lst [(.int .u8)]))], [(.c .bool)], vclunpacks⟩ :=
  ent_of_gen hP Try.func5 rfl (by decide) (sg := sgs) (by kernel_rfl)
def vclfeeds : VC := (.ite (.cmp .gtr (.len (.v 0)) (.ki .i64 200))
 (.cal 12 [] [] [(.c .bool)] 2
  (.ret [(.v 2)]))
 (.ite (.cmp .gtr (.len (.v 1)) (.ki .i64 200))
  (.cal 12 [] [] [(.c .bool)] 2
   (.ret [(.v 2)]))
  (.cal 20 [(.c (.lst [(.int .u8)])), (.c (.lst [(.int .u8)]))] [(.v 0), (.v 1)] [(.c (.lst [(.int .u8)])), (.c (.lst [(.lst [(.int .u8)])]))] 2
   (.cal 21 [(.c (.lst [(.int .u8)])), (.c (.lst [(.int .u8)]))] [(.v 0), (.v 1)] [(.c (.lst [(.int .u8)])), (.c (.lst [(.lst [(.int .u8)])]))] 4
    (.cal 17 [(.c (.lst [(.int .u8)])), (.c (.lst [(.int .u8)]))] [(.v 2), (.v 4)] [(.c .bool)] 6
     (.ite (.v 6)
      (.cal 22 [(.c (.lst [(.lst [(.int .u8)])])), (.c (.lst [(.lst [(.int .u8)])]))] [(.v 3), (.v 5)] [(.c .bool)] 7
       (.ite (.v 7)
        (.cal 12 [] [] [(.c .bool)] 8
         (.ret [(.v 8)]))
        (.ret [(.kb false)])))
      (.ret [(.kb false)])))))))
theorem lfeeds_ent : EntOK Try.prog [] ⟨6, [(.c (.lst [(.int .u8)])), (.c (.lst [(.int .u8)]))], [(.c .bool)], vclfeeds⟩ :=
  ent_of_gen hP Try.func6 rfl (by decide) (sg := sgs) (by kernel_rfl)
def vclchunks : VC := (.ite (.cmp .gtr (.len (.v 0)) (.ki .i64 12))
 (.cal 12 [] [] [(.c .bool)] 1
  (.ret [(.v 1)]))
 (.loop [(.lst [(.int .u8)]), (.lst [(.lst [(.int .u8)])]), .bool, (.lst [(.int .u8)]), (.int .i64)] [.nil, .nil, (.kb false), .nil, (.ki .i64 0)]
  (.ite (.cmp .lss (.v 5) (.len (.v 0)))
   (.ev [(.ob (.cmp .geq (.v 5) (.ki .i64 0))), (.ob (.cmp .lss (.v 5) (.len (.v 0))))]
    (.ite (.cmp .gtr (.len (.get (.v 0) (.v 5))) (.ki .i64 60))
     (.cal 12 [] [] [(.c .bool)] 6
      (.ret [(.v 6)]))
     (.ev [(.ob (.cmp .geq (.v 5) (.ki .i64 0))), (.ob (.cmp .lss (.v 5) (.len (.v 0))))]
      (.ev [(.ob (.cmp .leq (.len (.app (.v 1) (.get (.v 0) (.v 5)))) (.ki .i64 4294967296)))]
       (.ev [(.ob (.cmp .geq (.v 5) (.ki .i64 0))), (.ob (.cmp .lss (.v 5) (.len (.v 0))))]
        (.cal 20 [(.c (.lst [(.int .u8)])), (.c (.lst [(.int .u8)]))] [(.v 4), (.get (.v 0) (.v 5))] [(.c (.lst [(.int .u8)])), (.c (.lst [(.lst [(.int .u8)])]))] 6
         (.ev [(.ob (.cmp .leq (.len (.app (.v 2) (.v 7))) (.ki .i64 4294967296)))]
          (.back 0 [(.app (.v 1) (.get (.v 0) (.v 5))), (.app (.v 2) (.v 7)), (.v 3), (.v 6), (.ar .add .i64 (.v 5) (.ki .i64 1))]))))))))
   (.cal 20 [(.c (.lst [(.int .u8)])), (.c (.lst [(.int .u8)]))] [.nil, (.v 1)] [(.c (.lst [(.int .u8)])), (.c (.lst [(.lst [(.int .u8)])]))] 6
    (.cal 17 [(.c (.lst [(.int .u8)])), (.c (.lst [(.int .u8)]))] [(.v 6), (.v 4)] [(.c .bool)] 8
     (.ite (.v 8)
      (.cal 22 [(.c (.lst [(.lst [(.int .u8)])])), (.c (.lst [(.lst [(.int .u8)])]))] [(.v 7), (.v 2)] [(.c .bool)] 9
       (.ite (.v 9)
        (.cal 12 [] [] [(.c .bool)] 10
         (.ret [(.v 10)]))
        (.ret [(.kb false)])))
      (.ret [(.kb false)])))))))
theorem lchunks_ent : EntOK Try.prog [] ⟨7, [(.c (.lst [(.lst [(.int .u8)])]))], [(.c .bool)], vclchunks⟩ :=
  ent_of_gen hP Try.func7 rfl (by decide) (sg := sgs) (by kernel_rfl)
def vclfinds : VC := (.ite (.cmp .gtr (.len (.v 0)) (.ki .i64 8))
 (.cal 12 [] [] [(.c .bool)] 2
  (.ret [(.v 2)]))
 (.ite (.cmp .gtr (.len (.v 1)) (.ki .i64 8))
  (.cal 12 [] [] [(.c .bool)] 2
   (.ret [(.v 2)]))
  (.loop [(.lst [(.int .u8)]), .bool, (.int .i64)] [.nil, (.kb false), (.ki .i64 0)]
   (.ite (.cmp .lss (.v 4) (.len (.v 0)))
    (.ev [(.ob (.cmp .geq (.v 4) (.ki .i64 0))), (.ob (.cmp .lss (.v 4) (.len (.v 0))))]
     (.ite (.cmp .gtr (.len (.get (.v 0) (.v 4))) (.ki .i64 60))
      (.cal 12 [] [] [(.c .bool)] 5
       (.ret [(.v 5)]))
      (.ite (.cmp .lss (.v 4) (.len (.v 1)))
       (.ev [(.ob (.cmp .geq (.v 4) (.ki .i64 0))), (.ob (.cmp .lss (.v 4) (.len (.v 1))))]
        (.ite (.cmp .leq (.len (.get (.v 1) (.v 4))) (.ki .i64 60))
         (.ev [(.ob (.cmp .geq (.v 4) (.ki .i64 0))), (.ob (.cmp .lss (.v 4) (.len (.v 1))))]
          (.cal 23 [(.c (.lst [(.int .u8)]))] [(.get (.v 1) (.v 4))] [(.c (.lst [(.int .u8)]))] 5
           (.ev [(.ob (.cmp .leq (.len (.app (.cons (.ki .u8 192) .nil) (.v 5))) (.ki .i64 4294967296)))]
            (.ev [(.ob (.cmp .leq (.len (.app (.app (.cons (.ki .u8 192) .nil) (.v 5)) (.cons (.ki .u8 192) .nil))) (.ki .i64 4294967296)))]
             (.cal 19 [(.c (.lst [(.int .u8)]))] [(.app (.app (.cons (.ki .u8 192) .nil) (.v 5)) (.cons (.ki .u8 192) .nil))] [(.c (.lst [(.int .u8)])), (.c (.int .i64))] 6
              (.ite (.cmp .eql (.v 7) (.ki .i64 0))
               (.cal 12 [] [] [(.c .bool)] 8
                (.ret [(.v 8)]))
               (.ev [(.ob (.cmp .leq (.len (.app (.v 2) (.v 5))) (.ki .i64 4294967296)))]
                (.ev [(.ob (.cmp .geq (.v 4) (.ki .i64 0))), (.ob (.cmp .lss (.v 4) (.len (.v 0))))]
                 (.cal 15 [(.c (.lst [(.int .u8)]))] [(.get (.v 0) (.v 4))] [(.r [(.int .u8)]), (.c (.int .i64))] 8
                  (.ite (.cmp .neq (.v 9) (.ki .i64 0))
                   (.ret [(.kb false)])
                   (.ev [(.ob (.cmp .leq (.len (.app (.app (.v 2) (.v 5)) (.v 8))) (.ki .i64 4294967296)))]
                    (.back 0 [(.app (.app (.v 2) (.v 5)) (.v 8)), (.v 3), (.ar .add .i64 (.v 4) (.ki .i64 1))]))))))))))))
         (.ev [(.ob (.cmp .geq (.v 4) (.ki .i64 0))), (.ob (.cmp .lss (.v 4) (.len (.v 0))))]
          (.cal 15 [(.c (.lst [(.int .u8)]))] [(.get (.v 0) (.v 4))] [(.r [(.int .u8)]), (.c (.int .i64))] 5
           (.ite (.cmp .neq (.v 6) (.ki .i64 0))
            (.ret [(.kb false)])
            (.ev [(.ob (.cmp .leq (.len (.app (.v 2) (.v 5))) (.ki .i64 4294967296)))]
             (.back 0 [(.app (.v 2) (.v 5)), (.v 3), (.ar .add .i64 (.v 4) (.ki .i64 1))])))))))
       (.ev [(.ob (.cmp .geq (.v 4) (.ki .i64 0))), (.ob (.cmp .lss (.v 4) (.len (.v 0))))]
        (.cal 15 [(.c (.lst [(.int .u8)]))] [(.get (.v 0) (.v 4))] [(.r [(.int .u8)]), (.c (.int .i64))] 5
         (.ite (.cmp .neq (.v 6) (.ki .i64 0))
          (.ret [(.kb false)])
          (.ev [(.ob (.cmp .leq (.len (.app (.v 2) (.v 5))) (.ki .i64 4294967296)))]
           (.back 0 [(.app (.v 2) (.v 5)), (.v 3), (.ar .add .i64 (.v 4) (.ki .i64 1))]))))))))
    (.cal 20 [(.c (.lst [(.int .u8)])), (.c (.lst [(.int .u8)]))] [.nil, (.v 2)] [(.c (.lst [(.int .u8)])), (.c (.lst [(.lst [(.int .u8)])]))] 5
     (.cal 22 [(.c (.lst [(.lst [(.int .u8)])])), (.c (.lst [(.lst [(.int .u8)])]))] [(.v 6), (.v 0)] [(.c .bool)] 7
      (.ite (.v 7)
       (.cal 12 [] [] [(.c .bool)] 8
        (.ret [(.v 8)]))
       (.ret [(.kb false)]))))))))
theorem lfinds_ent : EntOK Try.prog [] ⟨8, [(.c (.lst [(.lst [(.int .u8)])])), (.c (.lst [(.lst [(.int .u8)])]))], [(.c .bool)], vclfinds⟩ :=
  ent_of_gen hP Try.func8 rfl (by decide) (sg := sgs) (by kernel_rfl)
def vclspoilt : VC := (.ite (.cmp .eql (.len (.v 0)) (.ki .i64 0))
 (.cal 12 [] [] [(.c .bool)] 3
  (.ret [(.v 3)]))
 (.ite (.cmp .gtr (.len (.v 0)) (.ki .i64 200))
  (.cal 12 [] [] [(.c .bool)] 3
   (.ret [(.v 3)]))
  (.ite (.cmp .eql (.v 2) (.ki .u8 0))
   (.cal 12 [] [] [(.c .bool)] 3
    (.ret [(.v 3)]))
   (.ev [(.ob (.cmp .leq (.len (.app .nil (.v 0))) (.ki .i64 4294967296)))]
    (.ev [(.ob (.cmp .neq (.len (.app .nil (.v 0))) (.ki .i64 0)))]
     (.ev [(.ob (.cmp .geq (.ar .rem .i64 (.conv .i64 (.v 1)) (.len (.app .nil (.v 0)))) (.ki .i64 0))), (.ob (.cmp .lss (.ar .rem .i64 (.conv .i64 (.v 1)) (.len (.app .nil (.v 0)))) (.len (.app .nil (.v 0)))))]
      (.ev [(.ob (.cmp .lss (.ar .rem .i64 (.conv .i64 (.v 1)) (.len (.app .nil (.v 0)))) (.len (.app .nil (.v 0)))))]
       (.ev [(.ob (.cmp .geq (.ar .rem .i64 (.conv .i64 (.v 1)) (.len (.app .nil (.v 0)))) (.ki .i64 0))), (.ob (.cmp .lss (.ar .rem .i64 (.conv .i64 (.v 1)) (.len (.app .nil (.v 0)))) (.len (.app .nil (.v 0)))))]
        (.ev [(.ob (.cmp .lss (.ar .rem .i64 (.conv .i64 (.v 1)) (.len (.app .nil (.v 0)))) (.len (.app .nil (.v 0)))))]
         (.cal 14 [(.c (.lst [(.int .u8)]))] [(.v 0)] [(.c (.int .i64))] 3
          (.cal 25 [(.c (.lst [(.int .u8)])), (.c (.int .i64))] [(.set (.app .nil (.v 0)) (.ar .rem .i64 (.conv .i64 (.v 1)) (.len (.app .nil (.v 0)))) (.ar .xor .u8 (.get (.app .nil (.v 0)) (.ar .rem .i64 (.conv .i64 (.v 1)) (.len (.app .nil (.v 0))))) (.v 2))), (.v 3)] [(.r [(.int .u8)])] 4
           (.cal 24 [(.c (.lst [(.int .u8)]))] [(.v 4)] [(.c (.lst [(.int .u8)]))] 5
            (.cal 18 [(.c (.lst [(.int .u8)]))] [(.v 5)] [(.c (.lst [(.int .u8)])), (.c (.int .i64))] 6
             (.cal 20 [(.c (.lst [(.int .u8)])), (.c (.lst [(.int .u8)]))] [.nil, (.v 5)] [(.c (.lst [(.int .u8)])), (.c (.lst [(.lst [(.int .u8)])]))] 8
              (.ite (.cmp .eql (.len (.v 6)) (.ki .i64 0))
               (.ite (.cmp .eql (.v 7) (.ki .i64 7))
                (.ite (.cmp .eql (.len (.v 9)) (.ki .i64 0))
                 (.cal 12 [] [] [(.c .bool)] 10
                  (.ret [(.v 10)]))
                 (.ret [(.kb false)]))
                (.ret [(.kb false)]))
               (.ret [(.kb false)]))))))))))))))))
theorem lspoilt_ent : EntOK Try.prog [] ⟨9, [(.c (.lst [(.int .u8)])), (.c (.int .u8)), (.c (.int .u8))], [(.c .bool)], vclspoilt⟩ :=
  ent_of_gen hP Try.func9 rfl (by decide) (sg := sgs) (by kernel_rfl)
def vcllimits : VC := (.ite (.cmp .gtr (.v 0) (.ki .u16 4200))
 (.cal 12 [] [] [(.c .bool)] 3
  (.ret [(.v 3)]))
 (.ite (.cmp .gtr (.v 2) (.ki .u16 8300))
  (.cal 12 [] [] [(.c .bool)] 3
   (.ret [(.v 3)]))
  (.ev [(.ob (.cmp .geq (.conv .i64 (.v 0)) (.ki .i64 0))), (.ob (.cmp .leq (.conv .i64 (.v 0)) (.ki .i64 4294967296)))]
   (.loop [(.lst [(.int .u8)]), (.int .i64)] [(.rep (.conv .i64 (.v 0)) (.ki .u8 0)), (.ki .i64 0)]
    (.ite (.cmp .lss (.v 4) (.len (.v 3)))
     (.ev [(.ob (.cmp .geq (.v 4) (.ki .i64 0))), (.ob (.cmp .lss (.v 4) (.len (.v 3))))]
      (.ev [(.ob (.cmp .lss (.v 4) (.len (.v 3))))]
       (.back 0 [(.set (.v 3) (.v 4) (.v 1)), (.ar .add .i64 (.v 4) (.ki .i64 1))])))
     (.cal 15 [(.c (.lst [(.int .u8)]))] [(.v 3)] [(.r [(.int .u8)]), (.c (.int .i64))] 5
      (.cal 16 [(.c (.lst [(.int .u8)]))] [(.v 3)] [(.c (.lst [(.int .u8)])), (.c (.int .i64))] 7
       (.cal 17 [(.c (.lst [(.int .u8)])), (.c (.lst [(.int .u8)]))] [(.v 5), (.v 7)] [(.c .bool)] 9
        (.ite (.v 9)
         (.ite (.cmp .neq (.v 6) (.v 8))
          (.ret [(.kb false)])
          (.cal 14 [(.c (.lst [(.int .u8)]))] [(.v 3)] [(.c (.int .i64))] 10
           (.cal 25 [(.c (.lst [(.int .u8)])), (.c (.int .i64))] [(.v 3), (.v 10)] [(.r [(.int .u8)])] 11
            (.cal 24 [(.c (.lst [(.int .u8)]))] [(.v 11)] [(.c (.lst [(.int .u8)]))] 12
             (.cal 18 [(.c (.lst [(.int .u8)]))] [(.v 12)] [(.c (.lst [(.int .u8)])), (.c (.int .i64))] 13
              (.cal 14 [(.c (.lst [(.int .u8)]))] [(.v 3)] [(.c (.int .i64))] 15
               (.cal 25 [(.c (.lst [(.int .u8)])), (.c (.int .i64))] [(.v 3), (.v 15)] [(.r [(.int .u8)])] 16
                (.cal 24 [(.c (.lst [(.int .u8)]))] [(.v 16)] [(.c (.lst [(.int .u8)]))] 17
                 (.cal 19 [(.c (.lst [(.int .u8)]))] [(.v 17)] [(.c (.lst [(.int .u8)])), (.c (.int .i64))] 18
                  (.cal 17 [(.c (.lst [(.int .u8)])), (.c (.lst [(.int .u8)]))] [(.v 13), (.v 18)] [(.c .bool)] 20
                   (.ite (.v 20)
                    (.ite (.cmp .neq (.v 14) (.v 19))
                     (.ret [(.kb false)])
                     (.ev [(.ob (.cmp .geq (.ar .add .i64 (.conv .i64 (.v 2)) (.ki .i64 1)) (.ki .i64 0))), (.ob (.cmp .leq (.ar .add .i64 (.conv .i64 (.v 2)) (.ki .i64 1)) (.ki .i64 4294967296)))]
                      (.ev [(.ob (.cmp .lss (.ki .i64 0) (.len (.rep (.ar .add .i64 (.conv .i64 (.v 2)) (.ki .i64 1)) (.ki .u8 0)))))]
                       (.ev [(.ob (.cmp .lss (.ki .i64 0) (.len (.rep (.ar .add .i64 (.conv .i64 (.v 2)) (.ki .i64 1)) (.ki .u8 0)))))]
                        (.ev [(.ob (.cmp .leq (.ki .i64 1) (.len (.rep (.ar .add .i64 (.conv .i64 (.v 2)) (.ki .i64 1)) (.ki .u8 0))))), (.ob (.cmp .leq (.ki .i64 1) (.len (.rep (.ar .add .i64 (.conv .i64 (.v 2)) (.ki .i64 1)) (.ki .u8 0)))))]
                         (.cal 20 [(.c (.lst [(.int .u8)])), (.c (.lst [(.int .u8)]))] [(.sub (.set (.rep (.ar .add .i64 (.conv .i64 (.v 2)) (.ki .i64 1)) (.ki .u8 0)) (.ki .i64 0) (.ki .u8 192)) (.ki .i64 0) (.ki .i64 1)), (.sub (.set (.rep (.ar .add .i64 (.conv .i64 (.v 2)) (.ki .i64 1)) (.ki .u8 0)) (.ki .i64 0) (.ki .u8 192)) (.ki .i64 1) (.len (.rep (.ar .add .i64 (.conv .i64 (.v 2)) (.ki .i64 1)) (.ki .u8 0))))] [(.c (.lst [(.int .u8)])), (.c (.lst [(.lst [(.int .u8)])]))] 21
                          (.ev [(.ob (.cmp .leq (.ki .i64 1) (.len (.rep (.ar .add .i64 (.conv .i64 (.v 2)) (.ki .i64 1)) (.ki .u8 0))))), (.ob (.cmp .leq (.ki .i64 1) (.len (.rep (.ar .add .i64 (.conv .i64 (.v 2)) (.ki .i64 1)) (.ki .u8 0)))))]
                           (.cal 21 [(.c (.lst [(.int .u8)])), (.c (.lst [(.int .u8)]))] [(.sub (.set (.rep (.ar .add .i64 (.conv .i64 (.v 2)) (.ki .i64 1)) (.ki .u8 0)) (.ki .i64 0) (.ki .u8 192)) (.ki .i64 0) (.ki .i64 1)), (.sub (.set (.rep (.ar .add .i64 (.conv .i64 (.v 2)) (.ki .i64 1)) (.ki .u8 0)) (.ki .i64 0) (.ki .u8 192)) (.ki .i64 1) (.len (.rep (.ar .add .i64 (.conv .i64 (.v 2)) (.ki .i64 1)) (.ki .u8 0))))] [(.c (.lst [(.int .u8)])), (.c (.lst [(.lst [(.int .u8)])]))] 23
                            (.cal 17 [(.c (.lst [(.int .u8)])), (.c (.lst [(.int .u8)]))] [(.v 21), (.v 23)] [(.c .bool)] 25
                             (.ite (.v 25)
                              (.cal 22 [(.c (.lst [(.lst [(.int .u8)])])), (.c (.lst [(.lst [(.int .u8)])]))] [(.v 22), (.v 24)] [(.c .bool)] 26
                               (.ite (.v 26)
                                (.cal 12 [] [] [(.c .bool)] 27
                                 (.ret [(.v 27)]))
                                (.ret [(.kb false)])))
                              (.ret [(.kb false)])))))))))))
                    (.ret [(.kb false)]))))))))))))
         (.ret [(.kb false)]))))))))))
theorem llimits_ent : EntOK Try.prog [] ⟨10, [(.c (.int .u16)), (.c (.int .u8)), (.c (.int .u16))], [(.c .bool)], vcllimits⟩ :=
  ent_of_gen hP Try.func10 rfl (by decide) (sg := sgs) (by kernel_rfl)
end Go.Proofs.Ytfpmdfpnbegnhaa
