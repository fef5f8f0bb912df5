/-
  The functions of layer 7: their conditions (printed by a program).
-/
import Derived.Test.YtmdjbmpongggnaaFrame
import Derived.Test.YtmdjbmpongggnaaSyO3
import Derived.Test.YtmdjbmpongggnaaSy07x
set_option maxRecDepth 100000
set_option linter.unusedSimpArgs false
set_option linter.unusedVariables false
namespace Go.Proofs.Ytmdjbmpongggnaa
open Go.Proofs.Ytmdjbmpongggnaa.Sy
theorem hP : NoNum Try.prog := by unfold NoNum; kernel_rfl
def sgs : Nat → Option (List TS × List TS) := fun f => if Nat.beq f 32 then some ([.r [.int .u8], .c (.int .i64)], [.r [.int .u8]]) else if Nat.beq f 35 then some ([.p [.s (.lst [.int .u8])]], [.c (.int .i64)]) else if Nat.beq f 39 then some ([.p [.s (.lst [.int .u8])]], [.c (.lst [.int .u8])]) else if Nat.beq f 15 then some ([.c (.int .i64)], [.r [.int .u8]]) else if Nat.beq f 41 then some ([.c (.lst [.int .u8])], [.r [.int .u8]]) else if Nat.beq f 25 then some ([.c (.lst [.int .i64, .lst [.int .u8]]), .c (.int .i64)], [.r [.int .u8], .c .bool]) else none
def vccheck : VC := (.ite (.v 0)
 (.ret [])
 (.pan 66 (.rc (.cons (.v 1) .nil))))
theorem check_ent : EntOK Try.prog [] ⟨36, [(.c .bool), (.c (.int .i64))], [], vccheck⟩ :=
  ent_of_gen hP Try.func36 rfl (by decide) (sg := sgs) (by kernel_rfl)
def vcapp : VC := (.loop [(.lst [(.int .u8)]), (.int .u64)] [(.v 0), (.ar .xor .u64 (.shf .shl .u64 (.conv .u64 (.v 1)) (.ki .u64 1)) (.conv .u64 (.shf .shr .i64 (.v 1) (.ki .u64 63))))]
 (.ite (.cmp .geq (.v 3) (.ki .u64 128))
  (.ev [(.ob (.cmp .leq (.len (.app (.v 2) (.cons (.ar .or .u8 (.conv .u8 (.ar .and .u64 (.v 3) (.ki .u64 127))) (.ki .u8 128)) .nil))) (.ki .i64 4294967296)))]
   (.back 0 [(.app (.v 2) (.cons (.ar .or .u8 (.conv .u8 (.ar .and .u64 (.v 3) (.ki .u64 127))) (.ki .u8 128)) .nil)), (.shf .shr .u64 (.v 3) (.ki .u64 7))]))
  (.ev [(.ob (.cmp .leq (.len (.app (.v 2) (.cons (.conv .u8 (.v 3)) .nil))) (.ki .i64 4294967296)))]
   (.ret [(.app (.v 2) (.cons (.conv .u8 (.v 3)) .nil))]))))
theorem app_ent : EntOK Try.prog [] ⟨32, [(.r [(.int .u8)]), (.c (.int .i64))], [(.r [(.int .u8)])], vcapp⟩ :=
  ent_of_gen hP Try.func32 rfl (by decide) (sg := sgs) (by kernel_rfl)
def vcputint : VC := (.cal 32 [(.r [(.int .u8)]), (.c (.int .i64))] [.nil, (.v 0)] [(.r [(.int .u8)])] 1
 (.ret [(.v 1)]))
theorem putint_ent : EntOK Try.prog [] ⟨12, [(.c (.int .i64))], [(.c (.lst [(.int .u8)]))], vcputint⟩ :=
  ent_of_gen hP Try.func12 rfl (by decide) (sg := sgs) (by kernel_rfl)
def vcrputint : VC := (.ite (.cmp .lss (.v 0) (.ki .i64 0))
 (.loop [(.lst [(.int .u8)]), (.int .u64)] [.nil, (.ar .add .u64 (.ar .mul .u64 (.conv .u64 (.neg .i64 (.ar .add .i64 (.v 0) (.ki .i64 1)))) (.ki .u64 2)) (.ki .u64 1))]
  (.ite (.cmp .geq (.v 2) (.ki .u64 128))
   (.ev [(.ob (.cmp .leq (.len (.app (.v 1) (.cons (.ar .add .u8 (.conv .u8 (.ar .rem .u64 (.v 2) (.ki .u64 128))) (.ki .u8 128)) .nil))) (.ki .i64 4294967296)))]
    (.back 0 [(.app (.v 1) (.cons (.ar .add .u8 (.conv .u8 (.ar .rem .u64 (.v 2) (.ki .u64 128))) (.ki .u8 128)) .nil)), (.ar .quo .u64 (.v 2) (.ki .u64 128))]))
   (.ev [(.ob (.cmp .leq (.len (.app (.v 1) (.cons (.conv .u8 (.v 2)) .nil))) (.ki .i64 4294967296)))]
    (.ret [(.app (.v 1) (.cons (.conv .u8 (.v 2)) .nil))]))))
 (.loop [(.lst [(.int .u8)]), (.int .u64)] [.nil, (.ar .mul .u64 (.conv .u64 (.v 0)) (.ki .u64 2))]
  (.ite (.cmp .geq (.v 2) (.ki .u64 128))
   (.ev [(.ob (.cmp .leq (.len (.app (.v 1) (.cons (.ar .add .u8 (.conv .u8 (.ar .rem .u64 (.v 2) (.ki .u64 128))) (.ki .u8 128)) .nil))) (.ki .i64 4294967296)))]
    (.back 0 [(.app (.v 1) (.cons (.ar .add .u8 (.conv .u8 (.ar .rem .u64 (.v 2) (.ki .u64 128))) (.ki .u8 128)) .nil)), (.ar .quo .u64 (.v 2) (.ki .u64 128))]))
   (.ev [(.ob (.cmp .leq (.len (.app (.v 1) (.cons (.conv .u8 (.v 2)) .nil))) (.ki .i64 4294967296)))]
    (.ret [(.app (.v 1) (.cons (.conv .u8 (.v 2)) .nil))])))))
theorem rputint_ent : EntOK Try.prog [] ⟨15, [(.c (.int .i64))], [(.r [(.int .u8)])], vcrputint⟩ :=
  ent_of_gen hP Try.func15 rfl (by decide) (sg := sgs) (by kernel_rfl)
def vcsame : VC := (.ret [(.seq (.b2s (.v 0)) (.b2s (.v 1)))])
theorem same_ent : EntOK Try.prog [] ⟨14, [(.c (.lst [(.int .u8)])), (.c (.lst [(.int .u8)]))], [(.c .bool)], vcsame⟩ :=
  ent_of_gen hP Try.func14 rfl (by decide) (sg := sgs) (by kernel_rfl)
def vcclone : VC := (.nilq (.v 0)
 (.ret [.nil])
 (.ev [(.ob (.cmp .leq (.len (.app .nil (.v 0))) (.ki .i64 4294967296)))]
  (.ret [(.app .nil (.v 0))])))
theorem clone_ent : EntOK Try.prog [] ⟨41, [(.c (.lst [(.int .u8)]))], [(.r [(.int .u8)])], vcclone⟩ :=
  ent_of_gen hP Try.func41 rfl (by decide) (sg := sgs) (by kernel_rfl)
def vcrread_0 : VC := (.loop [(.int .u64), (.int .i64)] [(.ki .u64 0), (.v 2)] (.ite (.cmp .geq (.v 4) (.ki .i64 0)) (.ev [(.ob (.cmp .geq (.ar .add .i64 (.v 1) (.v 4)) (.ki .i64 0))), (.ob (.cmp .lss (.ar .add .i64 (.v 1) (.v 4)) (.len (.v 0))))] (.back 1 [(.ar .add .u64 (.ar .mul .u64 (.v 3) (.ki .u64 128)) (.conv .u64 (.ar .rem .u8 (.get (.v 0) (.ar .add .i64 (.v 1) (.v 4))) (.ki .u8 128)))), (.ar .sub .i64 (.v 4) (.ki .i64 1))])) (.ite (.cmp .eql (.ar .rem .u64 (.v 3) (.ki .u64 2)) (.ki .u64 1)) (.ret [(.ar .sub .i64 (.neg .i64 (.conv .i64 (.ar .quo .u64 (.v 3) (.ki .u64 2)))) (.ki .i64 1)), (.ar .add .i64 (.ar .add .i64 (.v 1) (.v 2)) (.ki .i64 1)), (.ki .i64 0)]) (.ret [(.conv .i64 (.ar .quo .u64 (.v 3) (.ki .u64 2))), (.ar .add .i64 (.ar .add .i64 (.v 1) (.v 2)) (.ki .i64 1)), (.ki .i64 0)]))))
def vcrread_1 : VC := (.ite (.cmp .eql (.v 2) (.ki .i64 9)) (.ite (.cmp .gtr (.get (.v 0) (.ar .add .i64 (.v 1) (.v 2))) (.ki .u8 1)) (.ret [(.ki .i64 0), (.ki .i64 0), (.ki .i64 5)]) vcrread_0) vcrread_0)
def vcrread : VC := (.loop [(.int .i64)] [(.ki .i64 0)] (.ite (.cmp .lss (.ar .add .i64 (.v 1) (.v 2)) (.len (.v 0))) (.ev [(.ob (.cmp .geq (.ar .add .i64 (.v 1) (.v 2)) (.ki .i64 0))), (.ob (.cmp .lss (.ar .add .i64 (.v 1) (.v 2)) (.len (.v 0))))] (.ite (.cmp .geq (.get (.v 0) (.ar .add .i64 (.v 1) (.v 2))) (.ki .u8 128)) (.back 0 [(.ar .add .i64 (.v 2) (.ki .i64 1))]) (.ite (.cmp .geq (.v 2) (.ki .i64 10)) (.ret [(.ki .i64 0), (.ki .i64 0), (.ki .i64 5)]) (.ev [(.ob (.cmp .geq (.ar .add .i64 (.v 1) (.v 2)) (.ki .i64 0))), (.ob (.cmp .lss (.ar .add .i64 (.v 1) (.v 2)) (.len (.v 0))))] (.ite (.cmp .eql (.get (.v 0) (.ar .add .i64 (.v 1) (.v 2))) (.ki .u8 0)) (.ite (.cmp .gtr (.v 2) (.ki .i64 0)) (.ret [(.ki .i64 0), (.ki .i64 0), (.ki .i64 5)]) vcrread_1) vcrread_1))))) (.ite (.cmp .geq (.v 2) (.ki .i64 10)) (.ret [(.ki .i64 0), (.ki .i64 0), (.ki .i64 5)]) (.ret [(.ki .i64 0), (.ki .i64 0), (.ki .i64 6)]))))
theorem rread_ent : EntOK Try.prog [] ⟨37, [(.c (.lst [(.int .u8)])), (.c (.int .i64))], [(.c (.int .i64)), (.c (.int .i64)), (.c (.int .i64))], vcrread⟩ :=
  ent_of_gen hP Try.func37 rfl (by decide) (sg := sgs) (by kernel_rfl)
def vcrbytes : VC := (.cal 37 [(.c (.lst [(.int .u8)])), (.c (.int .i64))] [(.v 0), (.v 1)] [(.c (.int .i64)), (.c (.int .i64)), (.c (.int .i64))] 2
 (.ite (.cmp .neq (.v 4) (.ki .i64 0))
  (.ret [.nil, (.ki .i64 0), (.v 4)])
  (.ite (.cmp .lss (.v 2) (.ki .i64 0))
   (.ret [.nil, (.ki .i64 0), (.ki .i64 5)])
   (.ite (.cmp .gtr (.v 2) (.ar .sub .i64 (.len (.v 0)) (.v 3)))
    (.ret [.nil, (.ki .i64 0), (.ki .i64 6)])
    (.ev [(.ob (.cmp .leq (.ki .i64 0) (.ar .add .i64 (.v 3) (.v 2)))), (.ob (.cmp .leq (.ar .add .i64 (.v 3) (.v 2)) (.len (.v 0)))), (.ob (.cmp .leq (.ki .i64 0) (.v 3))), (.ob (.cmp .leq (.v 3) (.ar .add .i64 (.v 3) (.v 2))))]
     (.ev [(.ob (.cmp .leq (.len (.app .nil (.sub (.v 0) (.v 3) (.ar .add .i64 (.v 3) (.v 2))))) (.ki .i64 4294967296)))]
      (.ret [(.app .nil (.sub (.v 0) (.v 3) (.ar .add .i64 (.v 3) (.v 2)))), (.ar .add .i64 (.v 3) (.v 2)), (.ki .i64 0)])))))))
theorem rbytes_ent : EntOK Try.prog [] ⟨40, [(.c (.lst [(.int .u8)])), (.c (.int .i64))], [(.c (.lst [(.int .u8)])), (.c (.int .i64)), (.c (.int .i64))], vcrbytes⟩ :=
  ent_of_gen hP Try.func40 rfl (by decide) (sg := sgs) (by kernel_rfl)
def vcdat : VC := (.cal 35 [(.p [(.s (.lst [(.int .u8)]))])] [(.rc (.cons (.v 0) .nil))] [(.c (.int .i64))] 1
 (.cal 36 [(.c .bool), (.c (.int .i64))] [(.cmp .geq (.v 1) (.ki .i64 0)), (.ki .i64 5)] [] 3
  (.cal 36 [(.c .bool), (.c (.int .i64))] [(.cmp .leq (.v 1) (.len (.v 2))), (.ki .i64 6)] [] 3
   (.ev [(.ob (.cmp .leq (.ki .i64 0) (.v 1))), (.ob (.cmp .leq (.v 1) (.len (.v 2)))), (.ob (.cmp .leq (.ki .i64 0) (.v 1))), (.ob (.cmp .leq (.v 1) (.v 1)))]
    (.cal 41 [(.c (.lst [(.int .u8)]))] [(.sub (.v 2) (.ki .i64 0) (.v 1))] [(.r [(.int .u8)])] 3
     (.ev [(.ob (.cmp .leq (.ki .i64 0) (.v 1))), (.ob (.cmp .leq (.v 1) (.len (.v 2))))]
      (.ret [(.v 3), (.rc (.cons (.sub (.v 2) (.v 1) (.len (.v 2))) .nil))])))))))
theorem dat_ent : EntOK Try.prog [] ⟨39, [(.p [(.s (.lst [(.int .u8)]))])], [(.c (.lst [(.int .u8)]))], vcdat⟩ :=
  ent_of_gen hP Try.func39 rfl (by decide) (sg := sgs) (by kernel_rfl)
def vcbig : VC := (.ite (.cmp .gtr (.len (.v 0)) (.ki .i64 300))
 (.ret [(.kb true)])
 (.loop [.bool, (.int .i64), (.int .i64)] [(.kb false), (.ki .i64 0), (.ki .i64 0)]
  (.ite (.cmp .lss (.v 3) (.len (.v 0)))
   (.ev [(.ob (.cmp .geq (.v 3) (.ki .i64 0))), (.ob (.cmp .lss (.v 3) (.len (.v 0))))]
    (.ite (.cmp .gtr (.len (.get (.v 0) (.v 3))) (.ki .i64 65536))
     (.ret [(.kb true)])
     (.ev [(.ob (.cmp .geq (.v 3) (.ki .i64 0))), (.ob (.cmp .lss (.v 3) (.len (.v 0))))]
      (.back 0 [(.v 1), (.ar .add .i64 (.v 2) (.len (.get (.v 0) (.v 3)))), (.ar .add .i64 (.v 3) (.ki .i64 1))]))))
   (.ret [(.cmp .gtr (.v 2) (.ki .i64 65536))]))))
theorem big_ent : EntOK Try.prog [] ⟨18, [(.c (.lst [(.lst [(.int .u8)])]))], [(.c .bool)], vcbig⟩ :=
  ent_of_gen hP Try.func18 rfl (by decide) (sg := sgs) (by kernel_rfl)
def vcdata : VC := (.loop [(.lst [(.lst [(.int .u8)])]), (.lst [(.lst [(.int .u8)])]), (.int .i64)] [.nil, .nil, (.ki .i64 0)]
 (.ite (.cmp .lss (.v 3) (.len (.v 0)))
  (.ev [(.ob (.cmp .geq (.v 3) (.ki .i64 0))), (.ob (.cmp .lss (.v 3) (.len (.v 0))))]
   (.ev [(.ob (.cmp .leq (.len (.app (.v 1) (.cons (.cell (.get (.v 0) (.v 3)) 1) .nil))) (.ki .i64 4294967296)))]
    (.ite (.cmp .gtr (.v 3) (.ki .i64 300))
     (.ret [(.app (.v 1) (.cons (.cell (.get (.v 0) (.v 3)) 1) .nil))])
     (.back 0 [(.app (.v 1) (.cons (.cell (.get (.v 0) (.v 3)) 1) .nil)), (.v 2), (.ar .add .i64 (.v 3) (.ki .i64 1))]))))
  (.ret [(.v 1)])))
theorem data_ent : EntOK Try.prog [] ⟨19, [(.c (.lst [(.int .i64), (.lst [(.int .u8)])]))], [(.c (.lst [(.lst [(.int .u8)])]))], vcdata⟩ :=
  ent_of_gen hP Try.func19 rfl (by decide) (sg := sgs) (by kernel_rfl)
def vcsamef : VC := (.ite (.cmp .neq (.len (.v 0)) (.len (.v 1)))
 (.ret [(.kb false)])
 (.loop [.bool, (.int .i64)] [(.kb false), (.ki .i64 0)]
  (.ite (.cmp .lss (.v 3) (.len (.v 0)))
   (.ev [(.ob (.cmp .geq (.v 3) (.ki .i64 0))), (.ob (.cmp .lss (.v 3) (.len (.v 0)))), (.ob (.cmp .geq (.v 3) (.ki .i64 0))), (.ob (.cmp .lss (.v 3) (.len (.v 1))))]
    (.ite (.cmp .neq (.cell (.get (.v 0) (.v 3)) 0) (.cell (.get (.v 1) (.v 3)) 0))
     (.ret [(.kb false)])
     (.ev [(.ob (.cmp .geq (.v 3) (.ki .i64 0))), (.ob (.cmp .lss (.v 3) (.len (.v 0)))), (.ob (.cmp .geq (.v 3) (.ki .i64 0))), (.ob (.cmp .lss (.v 3) (.len (.v 1)))), (.call 14 [(.c (.lst [(.int .u8)])), (.c (.lst [(.int .u8)]))] [(.cell (.get (.v 0) (.v 3)) 1), (.cell (.get (.v 1) (.v 3)) 1)] [(.c .bool)] 4)]
      (.ite (.v 4)
       (.back 0 [(.v 2), (.ar .add .i64 (.v 3) (.ki .i64 1))])
       (.ret [(.kb false)])))))
   (.ret [(.kb true)]))))
theorem samef_ent : EntOK Try.prog [] ⟨24, [(.c (.lst [(.int .i64), (.lst [(.int .u8)])])), (.c (.lst [(.int .i64), (.lst [(.int .u8)])]))], [(.c .bool)], vcsamef⟩ :=
  ent_of_gen hP Try.func24 rfl (by decide) (sg := sgs) (by kernel_rfl)
def vcsamel : VC := (.ite (.cmp .neq (.len (.v 0)) (.len (.v 1)))
 (.ret [(.kb false)])
 (.loop [.bool, (.int .i64)] [(.kb false), (.ki .i64 0)]
  (.ite (.cmp .lss (.v 3) (.len (.v 0)))
   (.ev [(.ob (.cmp .geq (.v 3) (.ki .i64 0))), (.ob (.cmp .lss (.v 3) (.len (.v 0)))), (.ob (.cmp .geq (.v 3) (.ki .i64 0))), (.ob (.cmp .lss (.v 3) (.len (.v 1))))]
    (.cal 14 [(.c (.lst [(.int .u8)])), (.c (.lst [(.int .u8)]))] [(.get (.v 0) (.v 3)), (.get (.v 1) (.v 3))] [(.c .bool)] 4
     (.ite (.v 4)
      (.back 0 [(.v 2), (.ar .add .i64 (.v 3) (.ki .i64 1))])
      (.ret [(.kb false)]))))
   (.ret [(.kb true)]))))
theorem samel_ent : EntOK Try.prog [] ⟨31, [(.c (.lst [(.lst [(.int .u8)])])), (.c (.lst [(.lst [(.int .u8)])]))], [(.c .bool)], vcsamel⟩ :=
  ent_of_gen hP Try.func31 rfl (by decide) (sg := sgs) (by kernel_rfl)
def vcget : VC := (.loop [(.lst [(.int .u8)]), .bool, (.int .i64)] [.nil, (.kb false), (.ki .i64 0)]
 (.ite (.cmp .lss (.v 4) (.len (.v 0)))
  (.ev [(.ob (.cmp .geq (.v 4) (.ki .i64 0))), (.ob (.cmp .lss (.v 4) (.len (.v 0))))]
   (.ite (.cmp .eql (.cell (.get (.v 0) (.v 4)) 0) (.v 1))
    (.cal 41 [(.c (.lst [(.int .u8)]))] [(.cell (.get (.v 0) (.v 4)) 1)] [(.r [(.int .u8)])] 5
     (.ret [(.v 5), (.kb true)]))
    (.back 0 [(.v 2), (.v 3), (.ar .add .i64 (.v 4) (.ki .i64 1))])))
  (.ret [.nil, (.kb false)])))
theorem get_ent : EntOK Try.prog [] ⟨25, [(.c (.lst [(.int .i64), (.lst [(.int .u8)])])), (.c (.int .i64))], [(.r [(.int .u8)]), (.c .bool)], vcget⟩ :=
  ent_of_gen hP Try.func25 rfl (by decide) (sg := sgs) (by kernel_rfl)
def vcrget : VC := (.loop [(.lst [(.int .u8)]), .bool, (.int .i64)] [.nil, (.kb false), (.ki .i64 0)]
 (.ite (.cmp .lss (.v 4) (.len (.v 0)))
  (.ev [(.ob (.cmp .geq (.v 4) (.ki .i64 0))), (.ob (.cmp .lss (.v 4) (.len (.v 0))))]
   (.ite (.cmp .eql (.cell (.get (.v 0) (.v 4)) 0) (.v 1))
    (.ev [(.ob (.cmp .geq (.v 4) (.ki .i64 0))), (.ob (.cmp .lss (.v 4) (.len (.v 0))))]
     (.ret [(.cell (.get (.v 0) (.v 4)) 1), (.kb true)]))
    (.back 0 [(.v 2), (.v 3), (.ar .add .i64 (.v 4) (.ki .i64 1))])))
  (.ret [.nil, (.kb false)])))
theorem rget_ent : EntOK Try.prog [] ⟨26, [(.c (.lst [(.int .i64), (.lst [(.int .u8)])])), (.c (.int .i64))], [(.c (.lst [(.int .u8)])), (.c .bool)], vcrget⟩ :=
  ent_of_gen hP Try.func26 rfl (by decide) (sg := sgs) (by kernel_rfl)
def vcrtakeint : VC := (.cal 37 [(.c (.lst [(.int .u8)])), (.c (.int .i64))] [(.v 0), (.ki .i64 0)] [(.c (.int .i64)), (.c (.int .i64)), (.c (.int .i64))] 1
 (.ite (.cmp .neq (.v 3) (.ki .i64 0))
  (.ret [(.ki .i64 0), (.v 3)])
  (.ite (.cmp .neq (.v 2) (.len (.v 0)))
   (.ret [(.ki .i64 0), (.ki .i64 5)])
   (.ret [(.v 1), (.ki .i64 0)]))))
theorem rtakeint_ent : EntOK Try.prog [] ⟨17, [(.c (.lst [(.int .u8)]))], [(.c (.int .i64)), (.c (.int .i64))], vcrtakeint⟩ :=
  ent_of_gen hP Try.func17 rfl (by decide) (sg := sgs) (by kernel_rfl)
def vcput_0 : VC := (.cal 32 [(.r [(.int .u8)]), (.c (.int .i64))] [(.v 1), (.cell (.get (.v 0) (.v 5)) 0)] [(.r [(.int .u8)])] 6 (.cal 32 [(.r [(.int .u8)]), (.c (.int .i64))] [(.v 6), (.len (.cell (.get (.v 0) (.v 5)) 1))] [(.r [(.int .u8)])] 7 (.ev [(.ob (.cmp .leq (.len (.app (.v 7) (.cell (.get (.v 0) (.v 5)) 1))) (.ki .i64 4294967296)))] (.back 0 [(.app (.v 7) (.cell (.get (.v 0) (.v 5)) 1)), (.v 2), (.v 3), (.cell (.get (.v 0) (.v 5)) 0), (.ar .add .i64 (.v 5) (.ki .i64 1))]))))
def vcput : VC := (.ite (.cmp .gtr (.len (.v 0)) (.ki .i64 256)) (.ret [.nil, (.ki .i64 3)]) (.loop [(.lst [(.int .u8)]), (.lst [(.int .u8)]), (.int .i64), (.int .i64), (.int .i64)] [.nil, .nil, (.ki .i64 0), (.ki .i64 0), (.ki .i64 0)] (.ite (.cmp .lss (.v 5) (.len (.v 0))) (.ev [(.ob (.cmp .geq (.v 5) (.ki .i64 0))), (.ob (.cmp .lss (.v 5) (.len (.v 0))))] (.ite (.cmp .lss (.cell (.get (.v 0) (.v 5)) 0) (.ki .i64 1)) (.ret [.nil, (.ki .i64 2)]) (.ite (.cmp .gtr (.cell (.get (.v 0) (.v 5)) 0) (.ki .i64 1000)) (.ret [.nil, (.ki .i64 2)]) (.ite (.cmp .gtr (.v 5) (.ki .i64 0)) (.ite (.cmp .leq (.cell (.get (.v 0) (.v 5)) 0) (.v 4)) (.ret [.nil, (.ki .i64 1)]) vcput_0) vcput_0)))) (.ret [(.v 1), (.ki .i64 0)]))))
theorem put_ent : EntOK Try.prog [] ⟨20, [(.c (.lst [(.int .i64), (.lst [(.int .u8)])]))], [(.c (.lst [(.int .u8)])), (.c (.int .i64))], vcput⟩ :=
  ent_of_gen hP Try.func20 rfl (by decide) (sg := sgs) (by kernel_rfl)
def vcrput_0 : VC := (.ev [(.ob (.cmp .geq (.v 4) (.ki .i64 0))), (.ob (.cmp .lss (.v 4) (.len (.v 0))))] (.cal 15 [(.c (.int .i64))] [(.cell (.get (.v 0) (.v 4)) 0)] [(.r [(.int .u8)])] 5 (.ev [(.ob (.cmp .leq (.len (.app (.v 1) (.v 5))) (.ki .i64 4294967296)))] (.ev [(.ob (.cmp .geq (.v 4) (.ki .i64 0))), (.ob (.cmp .lss (.v 4) (.len (.v 0))))] (.cal 15 [(.c (.int .i64))] [(.len (.cell (.get (.v 0) (.v 4)) 1))] [(.r [(.int .u8)])] 6 (.ev [(.ob (.cmp .leq (.len (.app (.app (.v 1) (.v 5)) (.v 6))) (.ki .i64 4294967296)))] (.ev [(.ob (.cmp .geq (.v 4) (.ki .i64 0))), (.ob (.cmp .lss (.v 4) (.len (.v 0))))] (.ev [(.ob (.cmp .leq (.len (.app (.app (.app (.v 1) (.v 5)) (.v 6)) (.cell (.get (.v 0) (.v 4)) 1))) (.ki .i64 4294967296)))] (.back 0 [(.app (.app (.app (.v 1) (.v 5)) (.v 6)) (.cell (.get (.v 0) (.v 4)) 1)), (.v 2), (.v 3), (.ar .add .i64 (.v 4) (.ki .i64 1))])))))))))
def vcrput : VC := (.ite (.cmp .gtr (.len (.v 0)) (.ki .i64 256)) (.ret [.nil, (.ki .i64 3)]) (.loop [(.lst [(.int .u8)]), (.lst [(.int .u8)]), (.int .i64), (.int .i64)] [.nil, .nil, (.ki .i64 0), (.ki .i64 0)] (.ite (.cmp .lss (.v 4) (.len (.v 0))) (.ev [(.ob (.cmp .geq (.v 4) (.ki .i64 0))), (.ob (.cmp .lss (.v 4) (.len (.v 0))))] (.ite (.cmp .lss (.cell (.get (.v 0) (.v 4)) 0) (.ki .i64 1)) (.ret [.nil, (.ki .i64 2)]) (.ev [(.ob (.cmp .geq (.v 4) (.ki .i64 0))), (.ob (.cmp .lss (.v 4) (.len (.v 0))))] (.ite (.cmp .gtr (.cell (.get (.v 0) (.v 4)) 0) (.ki .i64 1000)) (.ret [.nil, (.ki .i64 2)]) (.ite (.cmp .gtr (.v 4) (.ki .i64 0)) (.ev [(.ob (.cmp .geq (.v 4) (.ki .i64 0))), (.ob (.cmp .lss (.v 4) (.len (.v 0)))), (.ob (.cmp .geq (.ar .sub .i64 (.v 4) (.ki .i64 1)) (.ki .i64 0))), (.ob (.cmp .lss (.ar .sub .i64 (.v 4) (.ki .i64 1)) (.len (.v 0))))] (.ite (.cmp .leq (.cell (.get (.v 0) (.v 4)) 0) (.cell (.get (.v 0) (.ar .sub .i64 (.v 4) (.ki .i64 1))) 0)) (.ret [.nil, (.ki .i64 1)]) vcrput_0)) vcrput_0))))) (.ret [(.v 1), (.ki .i64 0)]))))
theorem rput_ent : EntOK Try.prog [] ⟨21, [(.c (.lst [(.int .i64), (.lst [(.int .u8)])]))], [(.c (.lst [(.int .u8)])), (.c (.int .i64))], vcrput⟩ :=
  ent_of_gen hP Try.func21 rfl (by decide) (sg := sgs) (by kernel_rfl)
def vcrtake_0 : VC := (.cal 40 [(.c (.lst [(.int .u8)])), (.c (.int .i64))] [(.v 0), (.v 6)] [(.c (.lst [(.int .u8)])), (.c (.int .i64)), (.c (.int .i64))] 8 (.ite (.cmp .neq (.v 10) (.ki .i64 0)) (.ret [.nil, (.v 10)]) (.ev [(.ob (.cmp .leq (.len (.app (.v 1) (.cons (.rc (.cons (.v 5) (.cons (.v 8) .nil))) .nil))) (.ki .i64 4294967296)))] (.back 0 [(.app (.v 1) (.cons (.rc (.cons (.v 5) (.cons (.v 8) .nil))) .nil)), (.v 2), (.v 3), (.v 9)]))))
def vcrtake : VC := (.loop [(.lst [(.int .i64), (.lst [(.int .u8)])]), (.lst [(.int .i64), (.lst [(.int .u8)])]), (.int .i64), (.int .i64)] [.nil, .nil, (.ki .i64 0), (.ki .i64 0)] (.ite (.cmp .lss (.v 4) (.len (.v 0))) (.ite (.cmp .eql (.len (.v 1)) (.ki .i64 256)) (.ret [.nil, (.ki .i64 3)]) (.cal 37 [(.c (.lst [(.int .u8)])), (.c (.int .i64))] [(.v 0), (.v 4)] [(.c (.int .i64)), (.c (.int .i64)), (.c (.int .i64))] 5 (.ite (.cmp .neq (.v 7) (.ki .i64 0)) (.ret [.nil, (.v 7)]) (.ite (.cmp .lss (.v 5) (.ki .i64 1)) (.ret [.nil, (.ki .i64 5)]) (.ite (.cmp .gtr (.v 5) (.ki .i64 1000)) (.ret [.nil, (.ki .i64 5)]) (.ite (.cmp .gtr (.len (.v 1)) (.ki .i64 0)) (.ev [(.ob (.cmp .geq (.ar .sub .i64 (.len (.v 1)) (.ki .i64 1)) (.ki .i64 0))), (.ob (.cmp .lss (.ar .sub .i64 (.len (.v 1)) (.ki .i64 1)) (.len (.v 1))))] (.ev [(.ob (.cmp .lss (.ar .sub .i64 (.len (.v 1)) (.ki .i64 1)) (.len (.v 1))))] (.ite (.cmp .leq (.v 5) (.cell (.get (.v 1) (.ar .sub .i64 (.len (.v 1)) (.ki .i64 1))) 0)) (.ret [.nil, (.ki .i64 5)]) vcrtake_0))) vcrtake_0)))))) (.ret [(.v 1), (.ki .i64 0)])))
theorem rtake_ent : EntOK Try.prog [] ⟨23, [(.c (.lst [(.int .u8)]))], [(.c (.lst [(.int .i64), (.lst [(.int .u8)])])), (.c (.int .i64))], vcrtake⟩ :=
  ent_of_gen hP Try.func23 rfl (by decide) (sg := sgs) (by kernel_rfl)
def vcputl : VC := (.ite (.cmp .gtr (.len (.v 0)) (.ki .i64 256))
 (.ret [.nil, (.ki .i64 3)])
 (.cal 32 [(.r [(.int .u8)]), (.c (.int .i64))] [.nil, (.len (.v 0))] [(.r [(.int .u8)])] 1
  (.loop [(.lst [(.int .u8)]), (.int .i64)] [(.v 1), (.ki .i64 0)]
   (.ite (.cmp .lss (.v 3) (.len (.v 0)))
    (.ev [(.ob (.cmp .geq (.v 3) (.ki .i64 0))), (.ob (.cmp .lss (.v 3) (.len (.v 0))))]
     (.cal 32 [(.r [(.int .u8)]), (.c (.int .i64))] [(.v 2), (.len (.get (.v 0) (.v 3)))] [(.r [(.int .u8)])] 4
      (.ev [(.ob (.cmp .leq (.len (.app (.v 4) (.get (.v 0) (.v 3)))) (.ki .i64 4294967296)))]
       (.back 0 [(.app (.v 4) (.get (.v 0) (.v 3))), (.ar .add .i64 (.v 3) (.ki .i64 1))]))))
    (.ret [(.v 2), (.ki .i64 0)])))))
theorem putl_ent : EntOK Try.prog [] ⟨27, [(.c (.lst [(.lst [(.int .u8)])]))], [(.c (.lst [(.int .u8)])), (.c (.int .i64))], vcputl⟩ :=
  ent_of_gen hP Try.func27 rfl (by decide) (sg := sgs) (by kernel_rfl)
def vcrputl : VC := (.ite (.cmp .gtr (.len (.v 0)) (.ki .i64 256))
 (.ret [.nil, (.ki .i64 3)])
 (.cal 15 [(.c (.int .i64))] [(.len (.v 0))] [(.r [(.int .u8)])] 1
  (.loop [(.lst [(.int .u8)]), (.int .i64)] [(.v 1), (.ki .i64 0)]
   (.ite (.cmp .lss (.v 3) (.len (.v 0)))
    (.ev [(.ob (.cmp .geq (.v 3) (.ki .i64 0))), (.ob (.cmp .lss (.v 3) (.len (.v 0))))]
     (.cal 15 [(.c (.int .i64))] [(.len (.get (.v 0) (.v 3)))] [(.r [(.int .u8)])] 4
      (.ev [(.ob (.cmp .leq (.len (.app (.v 2) (.v 4))) (.ki .i64 4294967296)))]
       (.ev [(.ob (.cmp .geq (.v 3) (.ki .i64 0))), (.ob (.cmp .lss (.v 3) (.len (.v 0))))]
        (.ev [(.ob (.cmp .leq (.len (.app (.app (.v 2) (.v 4)) (.get (.v 0) (.v 3)))) (.ki .i64 4294967296)))]
         (.back 0 [(.app (.app (.v 2) (.v 4)) (.get (.v 0) (.v 3))), (.ar .add .i64 (.v 3) (.ki .i64 1))]))))))
    (.ret [(.v 2), (.ki .i64 0)])))))
theorem rputl_ent : EntOK Try.prog [] ⟨28, [(.c (.lst [(.lst [(.int .u8)])]))], [(.c (.lst [(.int .u8)])), (.c (.int .i64))], vcrputl⟩ :=
  ent_of_gen hP Try.func28 rfl (by decide) (sg := sgs) (by kernel_rfl)
def vcrtakel : VC := (.cal 37 [(.c (.lst [(.int .u8)])), (.c (.int .i64))] [(.v 0), (.ki .i64 0)] [(.c (.int .i64)), (.c (.int .i64)), (.c (.int .i64))] 1
 (.ite (.cmp .neq (.v 3) (.ki .i64 0))
  (.ret [.nil, (.v 3)])
  (.ite (.cmp .lss (.v 1) (.ki .i64 0))
   (.ret [.nil, (.ki .i64 5)])
   (.ite (.cmp .gtr (.v 1) (.ki .i64 256))
    (.ret [.nil, (.ki .i64 3)])
    (.loop [(.lst [(.lst [(.int .u8)])]), (.lst [(.lst [(.int .u8)])]), (.int .i64), (.int .i64), (.int .i64)] [.nil, .nil, (.ki .i64 0), (.v 2), (.ki .i64 0)]
     (.ite (.cmp .lss (.v 8) (.v 1))
      (.cal 40 [(.c (.lst [(.int .u8)])), (.c (.int .i64))] [(.v 0), (.v 7)] [(.c (.lst [(.int .u8)])), (.c (.int .i64)), (.c (.int .i64))] 9
       (.ite (.cmp .neq (.v 11) (.ki .i64 0))
        (.ret [.nil, (.v 11)])
        (.ev [(.ob (.cmp .leq (.len (.app (.v 4) (.cons (.v 9) .nil))) (.ki .i64 4294967296)))]
         (.back 0 [(.app (.v 4) (.cons (.v 9) .nil)), (.v 5), (.v 6), (.v 10), (.ar .add .i64 (.v 8) (.ki .i64 1))]))))
      (.ite (.cmp .neq (.v 7) (.len (.v 0)))
       (.ret [.nil, (.ki .i64 5)])
       (.ret [(.v 4), (.ki .i64 0)]))))))))
theorem rtakel_ent : EntOK Try.prog [] ⟨30, [(.c (.lst [(.int .u8)]))], [(.c (.lst [(.lst [(.int .u8)])])), (.c (.int .i64))], vcrtakel⟩ :=
  ent_of_gen hP Try.func30 rfl (by decide) (sg := sgs) (by kernel_rfl)
def vcint_0 : VC := (.ev [(.ob (.cmp .leq (.ki .i64 0) (.ar .add .i64 (.v 1) (.ki .i64 1)))), (.ob (.cmp .leq (.ar .add .i64 (.v 1) (.ki .i64 1)) (.len (.v 0))))] (.loop [(.int .u64), (.int .i64)] [(.ki .u64 0), (.ki .i64 0)] (.ite (.cmp .lss (.v 3) (.len (.sub (.v 0) (.ki .i64 0) (.ar .add .i64 (.v 1) (.ki .i64 1))))) (.ev [(.ob (.cmp .geq (.v 3) (.ki .i64 0))), (.ob (.cmp .lss (.v 3) (.len (.sub (.v 0) (.ki .i64 0) (.ar .add .i64 (.v 1) (.ki .i64 1))))))] (.ev [(.ob (.cmp .geq (.ar .mul .i64 (.ki .i64 7) (.v 3)) (.ki .i64 0)))] (.back 1 [(.ar .or .u64 (.v 2) (.shf .shl .u64 (.conv .u64 (.ar .and .u8 (.get (.sub (.v 0) (.ki .i64 0) (.ar .add .i64 (.v 1) (.ki .i64 1))) (.v 3)) (.ki .u8 127))) (.ar .mul .i64 (.ki .i64 7) (.v 3)))), (.ar .add .i64 (.v 3) (.ki .i64 1))]))) (.ev [(.ob (.cmp .leq (.ki .i64 0) (.ar .add .i64 (.v 1) (.ki .i64 1)))), (.ob (.cmp .leq (.ar .add .i64 (.v 1) (.ki .i64 1)) (.len (.v 0))))] (.ret [(.ar .xor .i64 (.conv .i64 (.shf .shr .u64 (.v 2) (.ki .u64 1))) (.neg .i64 (.conv .i64 (.ar .and .u64 (.v 2) (.ki .u64 1))))), (.rc (.cons (.sub (.v 0) (.ar .add .i64 (.v 1) (.ki .i64 1)) (.len (.v 0))) .nil))])))))
def vcint_1 : VC := (.ite (.cmp .lss (.v 1) (.ki .i64 9)) (.cal 36 [(.c .bool), (.c (.int .i64))] [(.kb true), (.ki .i64 5)] [] 2 vcint_0) (.cal 36 [(.c .bool), (.c (.int .i64))] [(.cmp .leq (.get (.v 0) (.v 1)) (.ki .u8 1)), (.ki .i64 5)] [] 2 vcint_0))
def vcint_2 : VC := (.cal 36 [(.c .bool), (.c (.int .i64))] [(.cmp .lss (.v 1) (.ki .i64 10)), (.ki .i64 5)] [] 2 (.cal 36 [(.c .bool), (.c (.int .i64))] [(.cmp .lss (.v 1) (.len (.v 0))), (.ki .i64 6)] [] 2 (.ev [(.ob (.cmp .geq (.v 1) (.ki .i64 0))), (.ob (.cmp .lss (.v 1) (.len (.v 0))))] (.ite (.cmp .neq (.get (.v 0) (.v 1)) (.ki .u8 0)) (.cal 36 [(.c .bool), (.c (.int .i64))] [(.kb true), (.ki .i64 5)] [] 2 vcint_1) (.cal 36 [(.c .bool), (.c (.int .i64))] [(.cmp .eql (.v 1) (.ki .i64 0)), (.ki .i64 5)] [] 2 vcint_1)))))
def vcint : VC := (.loop [(.int .i64)] [(.ki .i64 0)] (.ite (.cmp .lss (.v 1) (.len (.v 0))) (.ite (.cmp .lss (.v 1) (.ki .i64 10)) (.ev [(.ob (.cmp .geq (.v 1) (.ki .i64 0))), (.ob (.cmp .lss (.v 1) (.len (.v 0))))] (.ite (.cmp .geq (.get (.v 0) (.v 1)) (.ki .u8 128)) (.back 0 [(.ar .add .i64 (.v 1) (.ki .i64 1))]) vcint_2)) vcint_2) vcint_2))
theorem int_ent : EntOK Try.prog [] ⟨35, [(.p [(.s (.lst [(.int .u8)]))])], [(.c (.int .i64))], vcint⟩ :=
  ent_of_gen hP Try.func35 rfl (by decide) (sg := sgs) (by kernel_rfl)
end Go.Proofs.Ytmdjbmpongggnaa
