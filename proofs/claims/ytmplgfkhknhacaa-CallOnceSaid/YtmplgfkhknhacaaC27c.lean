/-
  Layer 27: conditions. No conditions stand ahead of what is proved.
-/
import Derived.Test.YtmplgfkhknhacaaV26b
import Derived.Test.YtmplgfkhknhacaaN27
set_option maxRecDepth 100000
set_option linter.unusedSimpArgs false
set_option linter.unusedVariables false
namespace Go.Proofs.Ytmplgfkhknhacaa.C27
open Go.Proofs.Ytmplgfkhknhacaa Go.Proofs.Ytmplgfkhknhacaa.Sy Go.Proofs.Ytmplgfkhknhacaa.L7 Go.Proofs.Ytmplgfkhknhacaa.Id Go.Proofs.Ytmplgfkhknhacaa.R26 Go.Proofs.Ytmplgfkhknhacaa.V26 Go.Proofs.Ytmplgfkhknhacaa.N27 Go.RowKit Go.WideShapes Go.ChangeShapes Go.ChangeAt
theorem hP : NoNum Try.prog := by unfold NoNum; kernel_rfl
def sgs : Nat → Option (List TS × List TS) := fun f => if Nat.beq f 44 then some ([.c (.lst [.int .i64, .int .i64, .int .i64, .int .i64, .int .i64, .int .i64, .int .i64, .int .i64, .str, .str, .str, .bool, .lst [.int .i64, .int .i64], .int .i64, .int .i64, .int .i64, .int .i64, .int .i64, .str, .int .i64, .int .i64, .int .i64, .int .i64, .lst [.int .i64, .int .i64], .lst [.str, .str, .str, .int .i64, .int .i64, .int .i64]])], [.r [.int .i64, .int .i64, .int .i64, .int .i64, .int .i64, .int .i64, .int .i64, .int .i64, .str, .str, .str, .bool, .lst [.int .i64, .int .i64], .int .i64, .int .i64, .int .i64, .int .i64, .int .i64, .str, .int .i64, .int .i64, .int .i64, .int .i64, .lst [.int .i64, .int .i64], .lst [.str, .str, .str, .int .i64, .int .i64, .int .i64]]]) else if Nat.beq f 43 then some ([.g [.int .i64, .int .i64, .int .i64, .lst [.int .i64, .int .i64, .int .i64, .int .i64, .int .i64, .int .i64, .int .i64, .int .i64, .str, .str, .str, .bool, .lst [.int .i64, .int .i64], .int .i64, .int .i64, .int .i64, .int .i64, .int .i64, .str, .int .i64, .int .i64, .int .i64, .int .i64, .lst [.int .i64, .int .i64], .lst [.str, .str, .str, .int .i64, .int .i64, .int .i64]], .lst [.int .i64, .int .i64, .int .i64, .int .i64, .int .i64, .int .i64, .int .i64, .int .i64, .str, .str, .str, .bool, .lst [.int .i64, .int .i64], .int .i64, .int .i64, .int .i64, .int .i64, .int .i64, .str, .int .i64, .int .i64, .int .i64, .int .i64, .lst [.int .i64, .int .i64], .lst [.str, .str, .str, .int .i64, .int .i64, .int .i64]], .int .i64, .int .i64, .lst [.int .i64, .int .i64, .int .i64, .int .i64, .int .i64, .int .i64, .int .i64, .int .i64, .str, .str, .str, .bool, .lst [.int .i64, .int .i64], .int .i64, .int .i64, .int .i64, .int .i64, .int .i64, .str, .int .i64, .int .i64, .int .i64, .int .i64, .lst [.int .i64, .int .i64], .lst [.str, .str, .str, .int .i64, .int .i64, .int .i64]]]], [.h [.s (.int .i64), .s (.int .i64), .s (.int .i64), .r [.int .i64, .int .i64, .int .i64, .int .i64, .int .i64, .int .i64, .int .i64, .int .i64, .str, .str, .str, .bool, .lst [.int .i64, .int .i64], .int .i64, .int .i64, .int .i64, .int .i64, .int .i64, .str, .int .i64, .int .i64, .int .i64, .int .i64, .lst [.int .i64, .int .i64], .lst [.str, .str, .str, .int .i64, .int .i64, .int .i64]], .r [.int .i64, .int .i64, .int .i64, .int .i64, .int .i64, .int .i64, .int .i64, .int .i64, .str, .str, .str, .bool, .lst [.int .i64, .int .i64], .int .i64, .int .i64, .int .i64, .int .i64, .int .i64, .str, .int .i64, .int .i64, .int .i64, .int .i64, .lst [.int .i64, .int .i64], .lst [.str, .str, .str, .int .i64, .int .i64, .int .i64]], .s (.int .i64), .s (.int .i64), .r [.int .i64, .int .i64, .int .i64, .int .i64, .int .i64, .int .i64, .int .i64, .int .i64, .str, .str, .str, .bool, .lst [.int .i64, .int .i64], .int .i64, .int .i64, .int .i64, .int .i64, .int .i64, .str, .int .i64, .int .i64, .int .i64, .int .i64, .lst [.int .i64, .int .i64], .lst [.str, .str, .str, .int .i64, .int .i64, .int .i64]]]]) else if Nat.beq f 45 then some ([.c (.lst [.int .i64, .int .i64, .int .i64, .int .i64, .int .i64, .int .i64, .int .i64, .int .i64, .str, .str, .str, .bool, .lst [.int .i64, .int .i64], .int .i64, .int .i64, .int .i64, .int .i64, .int .i64, .str, .int .i64, .int .i64, .int .i64, .int .i64, .lst [.int .i64, .int .i64], .lst [.str, .str, .str, .int .i64, .int .i64, .int .i64]]), .g [.int .i64, .int .i64, .int .i64, .int .i64, .int .i64, .int .i64, .int .i64, .int .i64, .str, .str, .str, .bool, .lst [.int .i64, .int .i64], .int .i64, .int .i64, .int .i64, .int .i64, .int .i64, .str, .int .i64, .int .i64, .int .i64, .int .i64, .lst [.int .i64, .int .i64], .lst [.str, .str, .str, .int .i64, .int .i64, .int .i64]]], [.c (.lst [.int .i64, .int .i64, .int .i64, .int .i64, .int .i64, .int .i64, .int .i64, .int .i64, .str, .str, .str, .bool, .lst [.int .i64, .int .i64], .int .i64, .int .i64, .int .i64, .int .i64, .int .i64, .str, .int .i64, .int .i64, .int .i64, .int .i64, .lst [.int .i64, .int .i64], .lst [.str, .str, .str, .int .i64, .int .i64, .int .i64]])]) else if Nat.beq f 29 then some ([.c (.lst [.bool]), .p [.s (.int .i64)]], [.c .bool]) else none
def vcset : VC := (.ite (.cmp .geq (.v 0) (.ki .i64 1))
 (.ite (.cmp .leq (.v 0) (.ki .i64 1440))
  (.ite (.cmp .geq (.v 1) (.ki .i64 0))
   (.ret [(.cmp .leq (.v 1) (.ki .i64 100))])
   (.ret [(.kb false)]))
  (.ret [(.kb false)]))
 (.ret [(.kb false)]))
theorem set_ent : EntOK Try.prog [] ⟨36, [(.c (.int .i64)), (.c (.int .i64))], [(.c .bool)], vcset⟩ :=
  ent_of_gen hP Try.func36 rfl (by decide) (sg := sgs) (by kernel_rfl)
def vcwait : VC := (.ite (.cmp .eql (.len (.v 4)) (.ki .i64 0))
 (.ite (.cmp .eql (.v 6) (.ki .i64 0))
  (.ret [(.cmp .eql (.v 5) (.ki .i64 0))])
  (.ret [(.kb false)]))
 (.ite (.cmp .geq (.v 6) (.ki .i64 1))
  (.ite (.cmp .leq (.v 6) (.ar .add .i64 (.v 2) (.ki .i64 1)))
   (.ite (.cmp .geq (.v 5) (.ki .i64 0))
    (.ret [(.cmp .leq (.v 5) (.ki .i64 268436896))])
    (.ret [(.kb false)]))
   (.ret [(.kb false)]))
  (.ret [(.kb false)])))
theorem wait_ent : EntOK Try.prog [] ⟨37, [(.g [(.int .i64), (.int .i64), (.int .i64), (.lst shM), (.lst shM), (.int .i64), (.int .i64), (.lst shM)])], [(.c .bool)], vcwait⟩ :=
  ent_of_gen hP Try.func37 rfl (by decide) (sg := sgs) (by kernel_rfl)
def vcisr : VC := (.ite (.cmp .eql (.v 0) (.ki .i64 2))
 (.ret [(.kb true)])
 (.ret [(.cmp .eql (.v 0) (.ki .i64 3))]))
theorem isr_ent : EntOK Try.prog [] ⟨39, [(.g shM)], [(.c .bool)], vcisr⟩ :=
  ent_of_gen hP Try.func39 rfl (by decide) (sg := sgs) (by kernel_rfl)
def vcclper : VC := (.nilq (.v 0)
 (.ret [.nil])
 (.ev [(.ob (.cmp .leq (.len (.app .nil (.v 0))) (.ki .i64 4294967296)))]
  (.ret [(.app .nil (.v 0))])))
theorem clper_ent : EntOK Try.prog [] ⟨72, [(.c (.lst [(.int .i64), (.int .i64)]))], [(.c (.lst [(.int .i64), (.int .i64)]))], vcclper⟩ :=
  ent_of_gen hP Try.func72 rfl (by decide) (sg := sgs) (by kernel_rfl)
def vccltok : VC := (.nilq (.v 0)
 (.ret [.nil])
 (.ev [(.ob (.cmp .leq (.len (.app .nil (.v 0))) (.ki .i64 4294967296)))]
  (.ret [(.app .nil (.v 0))])))
theorem cltok_ent : EntOK Try.prog [] ⟨73, [(.c (.lst [.str, .str, .str, (.int .i64), (.int .i64), (.int .i64)]))], [(.c (.lst [.str, .str, .str, (.int .i64), (.int .i64), (.int .i64)]))], vccltok⟩ :=
  ent_of_gen hP Try.func73 rfl (by decide) (sg := sgs) (by kernel_rfl)
def vccoll : VC := (.ev [(.ob (.cmp .leq (.ki .i64 0) (.len (.v 0)))), (.ob (.cmp .leq (.len (.v 0)) (.ki .i64 4294967296)))]
 (.loop [(.lst shM), (.int .i64)] [(.rep (.ki .i64 0) (.rc (.cons (.ki .i64 0) (.cons (.ki .i64 0) (.cons (.ki .i64 0) (.cons (.ki .i64 0) (.cons (.ki .i64 0) (.cons (.ki .i64 0) (.cons (.ki .i64 0) (.cons (.ki .i64 0) (.cons (.ks ⟨List.toArray []⟩) (.cons (.ks ⟨List.toArray []⟩) (.cons (.ks ⟨List.toArray []⟩) (.cons (.kb false) (.cons .nil (.cons (.ki .i64 0) (.cons (.ki .i64 0) (.cons (.ki .i64 0) (.cons (.ki .i64 0) (.cons (.ki .i64 0) (.cons (.ks ⟨List.toArray []⟩) (.cons (.ki .i64 0) (.cons (.ki .i64 0) (.cons (.ki .i64 0) (.cons (.ki .i64 0) (.cons .nil (.cons .nil .nil))))))))))))))))))))))))))), (.ki .i64 0)]
  (.ite (.cmp .lss (.v 2) (.len (.v 0)))
   (.ev [(.ob (.cmp .geq (.v 2) (.ki .i64 0))), (.ob (.cmp .lss (.v 2) (.len (.v 0))))]
    (.cal 71 [(.c (.lst [(.int .i64), (.int .i64)]))] [(.cell (.get (.v 0) (.v 2)) 12)] [(.c (.lst [(.int .i64), (.int .i64)]))] 3
     (.cal 72 [(.c (.lst [(.int .i64), (.int .i64)]))] [(.cell (.get (.v 0) (.v 2)) 23)] [(.c (.lst [(.int .i64), (.int .i64)]))] 4
      (.cal 73 [(.c (.lst [.str, .str, .str, (.int .i64), (.int .i64), (.int .i64)]))] [(.cell (.get (.v 0) (.v 2)) 24)] [(.c (.lst [.str, .str, .str, (.int .i64), (.int .i64), (.int .i64)]))] 5
       (.ev [(.ob (.cmp .leq (.len (.app (.v 1) (.cons (.rc (.cons (.cell (.get (.v 0) (.v 2)) 0) (.cons (.cell (.get (.v 0) (.v 2)) 1) (.cons (.cell (.get (.v 0) (.v 2)) 2) (.cons (.cell (.get (.v 0) (.v 2)) 3) (.cons (.cell (.get (.v 0) (.v 2)) 4) (.cons (.cell (.get (.v 0) (.v 2)) 5) (.cons (.cell (.get (.v 0) (.v 2)) 6) (.cons (.cell (.get (.v 0) (.v 2)) 7) (.cons (.cell (.get (.v 0) (.v 2)) 8) (.cons (.cell (.get (.v 0) (.v 2)) 9) (.cons (.cell (.get (.v 0) (.v 2)) 10) (.cons (.cell (.get (.v 0) (.v 2)) 11) (.cons (.v 3) (.cons (.cell (.get (.v 0) (.v 2)) 13) (.cons (.cell (.get (.v 0) (.v 2)) 14) (.cons (.cell (.get (.v 0) (.v 2)) 15) (.cons (.cell (.get (.v 0) (.v 2)) 16) (.cons (.cell (.get (.v 0) (.v 2)) 17) (.cons (.cell (.get (.v 0) (.v 2)) 18) (.cons (.cell (.get (.v 0) (.v 2)) 19) (.cons (.cell (.get (.v 0) (.v 2)) 20) (.cons (.cell (.get (.v 0) (.v 2)) 21) (.cons (.cell (.get (.v 0) (.v 2)) 22) (.cons (.v 4) (.cons (.v 5) .nil)))))))))))))))))))))))))) .nil))) (.ki .i64 4294967296)))]
        (.back 0 [(.app (.v 1) (.cons (.rc (.cons (.cell (.get (.v 0) (.v 2)) 0) (.cons (.cell (.get (.v 0) (.v 2)) 1) (.cons (.cell (.get (.v 0) (.v 2)) 2) (.cons (.cell (.get (.v 0) (.v 2)) 3) (.cons (.cell (.get (.v 0) (.v 2)) 4) (.cons (.cell (.get (.v 0) (.v 2)) 5) (.cons (.cell (.get (.v 0) (.v 2)) 6) (.cons (.cell (.get (.v 0) (.v 2)) 7) (.cons (.cell (.get (.v 0) (.v 2)) 8) (.cons (.cell (.get (.v 0) (.v 2)) 9) (.cons (.cell (.get (.v 0) (.v 2)) 10) (.cons (.cell (.get (.v 0) (.v 2)) 11) (.cons (.v 3) (.cons (.cell (.get (.v 0) (.v 2)) 13) (.cons (.cell (.get (.v 0) (.v 2)) 14) (.cons (.cell (.get (.v 0) (.v 2)) 15) (.cons (.cell (.get (.v 0) (.v 2)) 16) (.cons (.cell (.get (.v 0) (.v 2)) 17) (.cons (.cell (.get (.v 0) (.v 2)) 18) (.cons (.cell (.get (.v 0) (.v 2)) 19) (.cons (.cell (.get (.v 0) (.v 2)) 20) (.cons (.cell (.get (.v 0) (.v 2)) 21) (.cons (.cell (.get (.v 0) (.v 2)) 22) (.cons (.v 4) (.cons (.v 5) .nil)))))))))))))))))))))))))) .nil)), (.ar .add .i64 (.v 2) (.ki .i64 1))]))))))
   (.ret [(.v 1)]))))
def hdcoll : List HdL := [{ kind := true, id := 3, nv := 1, tmps := [(.v (.c (.d (.lst shM) (.v 0)))), (.v (.c .any)), (.v (.c (.nilS shM))), (.v (.c (.row 0 shM (.len (.v 1))))), (.v (.c .any)), (.v (.c .any)), (.v (.c (.d (.lst shM) (.v 0)))), (.v (.c (.d (.int .i64) (.len (.v 0))))), (.v (.c .any)), (.v (.c (.d (.lst shM) (.v 0)))), (.v (.c (.d (.int .i64) (.len (.v 0))))), (.v (.c (.d (.int .i64) (.v 2)))) ] ++ an 23, blks := [(.row shM (.v 1) false)], shs := [(.lst shM), (.int .i64)], rs := [], bs := [], fz := [] }]
theorem coll_ent : EntOK Try.prog [] ⟨44, [(.c (.lst shM))], [(.r shM)], vccoll⟩ :=
  ent_of_genH hP Try.func44 rfl (by decide) (jn := []) (hd := hdcoll) (sg := sgs) (by kernel_rfl)
def vccop : VC := (.ev [(.call 44 [(.c (.lst shM))] [(.v 3)] [(.r shM)] 8), (.call 44 [(.c (.lst shM))] [(.v 4)] [(.r shM)] 9), (.call 44 [(.c (.lst shM))] [(.v 7)] [(.r shM)] 10)]
 (.ret [(.rc (.cons (.v 0) (.cons (.v 1) (.cons (.v 2) (.cons (.v 8) (.cons (.v 9) (.cons (.v 5) (.cons (.v 6) (.cons (.v 10) .nil)))))))))]))
theorem cop_ent : EntOK Try.prog [] ⟨43, [(.g [(.int .i64), (.int .i64), (.int .i64), (.lst shM), (.lst shM), (.int .i64), (.int .i64), (.lst shM)])], [(.h [(.s (.int .i64)), (.s (.int .i64)), (.s (.int .i64)), (.r shM), (.r shM), (.s (.int .i64)), (.s (.int .i64)), (.r shM)])], vccop⟩ :=
  ent_of_gen hP Try.func43 rfl (by decide) (sg := sgs) (by kernel_rfl)
def vcnew : VC := (.cal 36 [(.c (.int .i64)), (.c (.int .i64))] [(.v 0), (.v 1)] [(.c .bool)] 3
 (.ite (.v 3)
  (.ite (.cmp .lss (.v 2) (.ki .i64 1))
   (.ret [(.rc (.cons (.ki .i64 0) (.cons (.ki .i64 0) (.cons (.ki .i64 0) (.cons .nil (.cons .nil (.cons (.ki .i64 0) (.cons (.ki .i64 0) (.cons .nil .nil))))))))), (.ki .i64 2)])
   (.ite (.cmp .geq (.v 2) (.ki .i64 2147483648))
    (.ret [(.rc (.cons (.ki .i64 0) (.cons (.ki .i64 0) (.cons (.ki .i64 0) (.cons .nil (.cons .nil (.cons (.ki .i64 0) (.cons (.ki .i64 0) (.cons .nil .nil))))))))), (.ki .i64 2)])
    (.ret [(.rc (.cons (.v 2) (.cons (.v 0) (.cons (.v 1) (.cons .nil (.cons .nil (.cons (.ki .i64 0) (.cons (.ki .i64 0) (.cons .nil .nil))))))))), (.ki .i64 0)])))
  (.ret [(.rc (.cons (.ki .i64 0) (.cons (.ki .i64 0) (.cons (.ki .i64 0) (.cons .nil (.cons .nil (.cons (.ki .i64 0) (.cons (.ki .i64 0) (.cons .nil .nil))))))))), (.ki .i64 2)])))
theorem new_ent : EntOK Try.prog [] ⟨15, [(.c (.int .i64)), (.c (.int .i64)), (.c (.int .i64))], [(.g [(.int .i64), (.int .i64), (.int .i64), (.lst shM), (.lst shM), (.int .i64), (.int .i64), (.lst shM)]), (.c (.int .i64))], vcnew⟩ :=
  ent_of_gen hP Try.func15 rfl (by decide) (sg := sgs) (by kernel_rfl)
def vcsameall : VC := (.ite (.cmp .neq (.len (.v 0)) (.len (.v 1)))
 (.ret [(.kb false)])
 (.loop [.bool, (.int .i64)] [(.kb false), (.ki .i64 0)]
  (.ite (.cmp .lss (.v 3) (.len (.v 0)))
   (.ev [(.ob (.cmp .geq (.v 3) (.ki .i64 0))), (.ob (.cmp .lss (.v 3) (.len (.v 0)))), (.ob (.cmp .geq (.v 3) (.ki .i64 0))), (.ob (.cmp .lss (.v 3) (.len (.v 1))))]
    (.cal 46 [(.g shM), (.g shM)] [(cpM (.get (.v 0) (.v 3))), (cpM (.get (.v 1) (.v 3)))] [(.c .bool)] 4
     (.ite (.v 4)
      (.back 0 [(.v 2), (.ar .add .i64 (.v 3) (.ki .i64 1))])
      (.ret [(.kb false)]))))
   (.ret [(.kb true)]))))
def hdsameall : List HdL := [{ kind := true, id := 4, nv := 2, tmps := [(.v (.c (.d (.lst shM) (.v 0)))), (.v (.c (.d (.lst shM) (.v 1)))), (.v (.c .any)), (.v (.c .any)), (.v (.c (.d .bool (.v 2)))), (.v (.c (.d (.int .i64) (.v 3)))), (.v (.c (.d (.lst shM) (.v 0)))), (.v (.c (.d (.int .i64) (.len (.v 0))))), (.v (.c (.d (.lst shM) (.v 1)))), (.v (.c (.d (.int .i64) (.len (.v 1))))), (.v (.c (.d .bool (.cmp .neq (.len (.v 0)) (.len (.v 1)))))) ] ++ an 16, blks := [], shs := [.bool, (.int .i64)], rs := [], bs := [], fz := [] }]
theorem sameall_ent : EntOK Try.prog [] ⟨23, [(.c (.lst shM)), (.c (.lst shM))], [(.c .bool)], vcsameall⟩ :=
  ent_of_genH hP Try.func23 rfl (by decide) (jn := []) (hd := hdsameall) (sg := sgs) (by kernel_rfl)
def vcval : VC := (.cal 36 [(.c (.int .i64)), (.c (.int .i64))] [(.v 1), (.v 2)] [(.c .bool)] 8
 (.ite (.v 8)
  (.ite (.cmp .lss (.v 0) (.ki .i64 1))
   (.ret [(.ki .i64 2)])
   (.ite (.cmp .gtr (.v 0) (.ki .i64 2147483648))
    (.ret [(.ki .i64 2)])
    (.ite (.cmp .gtr (.len (.v 3)) (.ki .i64 256))
     (.ret [(.ki .i64 3)])
     (.ite (.cmp .gtr (.len (.v 4)) (.ki .i64 1))
      (.ret [(.ki .i64 3)])
      (.ite (.cmp .gtr (.len (.v 7)) (.ki .i64 16))
       (.ret [(.ki .i64 3)])
       (.cal 37 [(.g [(.int .i64), (.int .i64), (.int .i64), (.lst shM), (.lst shM), (.int .i64), (.int .i64), (.lst shM)])] [(.rc (.cons (.v 0) (.cons (.v 1) (.cons (.v 2) (.cons (.v 3) (.cons (.v 4) (.cons (.v 5) (.cons (.v 6) (.cons (.v 7) .nil)))))))))] [(.c .bool)] 9
        (.ite (.v 9)
         (.loop [(.int .i64), (.int .i64), (.int .i64)] [(.ki .i64 0), (.ki .i64 0), (.ki .i64 0)]
          (.ite (.cmp .lss (.v 12) (.ki .i64 2))
           (.ev [(.ob (.cmp .geq (.v 12) (.ki .i64 0))), (.ob (.cmp .lss (.v 12) (.ki .i64 2)))]
            (.loop [(.int .i64), (.int .i64), (.int .i64)] [(.v 10), (.v 11), (.ki .i64 0)]
             (.ite (.cmp .lss (.v 15) (.len (.get (.cons (.v 4) (.cons (.v 3) .nil)) (.v 12))))
              (.ev [(.ob (.cmp .geq (.v 15) (.ki .i64 0))), (.ob (.cmp .lss (.v 15) (.len (.get (.cons (.v 4) (.cons (.v 3) .nil)) (.v 12)))))]
               (.cal 38 [(.g shM)] [(.rc (.cons (.cell (.get (.get (.cons (.v 4) (.cons (.v 3) .nil)) (.v 12)) (.v 15)) 0) (.cons (.cell (.get (.get (.cons (.v 4) (.cons (.v 3) .nil)) (.v 12)) (.v 15)) 1) (.cons (.cell (.get (.get (.cons (.v 4) (.cons (.v 3) .nil)) (.v 12)) (.v 15)) 2) (.cons (.cell (.get (.get (.cons (.v 4) (.cons (.v 3) .nil)) (.v 12)) (.v 15)) 3) (.cons (.cell (.get (.get (.cons (.v 4) (.cons (.v 3) .nil)) (.v 12)) (.v 15)) 4) (.cons (.cell (.get (.get (.cons (.v 4) (.cons (.v 3) .nil)) (.v 12)) (.v 15)) 5) (.cons (.cell (.get (.get (.cons (.v 4) (.cons (.v 3) .nil)) (.v 12)) (.v 15)) 6) (.cons (.cell (.get (.get (.cons (.v 4) (.cons (.v 3) .nil)) (.v 12)) (.v 15)) 7) (.cons (.cell (.get (.get (.cons (.v 4) (.cons (.v 3) .nil)) (.v 12)) (.v 15)) 8) (.cons (.cell (.get (.get (.cons (.v 4) (.cons (.v 3) .nil)) (.v 12)) (.v 15)) 9) (.cons (.cell (.get (.get (.cons (.v 4) (.cons (.v 3) .nil)) (.v 12)) (.v 15)) 10) (.cons (.cell (.get (.get (.cons (.v 4) (.cons (.v 3) .nil)) (.v 12)) (.v 15)) 11) (.cons (.cell (.get (.get (.cons (.v 4) (.cons (.v 3) .nil)) (.v 12)) (.v 15)) 12) (.cons (.cell (.get (.get (.cons (.v 4) (.cons (.v 3) .nil)) (.v 12)) (.v 15)) 13) (.cons (.cell (.get (.get (.cons (.v 4) (.cons (.v 3) .nil)) (.v 12)) (.v 15)) 14) (.cons (.cell (.get (.get (.cons (.v 4) (.cons (.v 3) .nil)) (.v 12)) (.v 15)) 15) (.cons (.cell (.get (.get (.cons (.v 4) (.cons (.v 3) .nil)) (.v 12)) (.v 15)) 16) (.cons (.cell (.get (.get (.cons (.v 4) (.cons (.v 3) .nil)) (.v 12)) (.v 15)) 17) (.cons (.cell (.get (.get (.cons (.v 4) (.cons (.v 3) .nil)) (.v 12)) (.v 15)) 18) (.cons (.cell (.get (.get (.cons (.v 4) (.cons (.v 3) .nil)) (.v 12)) (.v 15)) 19) (.cons (.cell (.get (.get (.cons (.v 4) (.cons (.v 3) .nil)) (.v 12)) (.v 15)) 20) (.cons (.cell (.get (.get (.cons (.v 4) (.cons (.v 3) .nil)) (.v 12)) (.v 15)) 21) (.cons (.cell (.get (.get (.cons (.v 4) (.cons (.v 3) .nil)) (.v 12)) (.v 15)) 22) (.cons (.cell (.get (.get (.cons (.v 4) (.cons (.v 3) .nil)) (.v 12)) (.v 15)) 23) (.cons (.cell (.get (.get (.cons (.v 4) (.cons (.v 3) .nil)) (.v 12)) (.v 15)) 24) .nil))))))))))))))))))))))))))] [(.c (.int .i64))] 16
                (.ite (.cmp .neq (.v 16) (.ki .i64 0))
                 (.ret [(.v 16)])
                 (.ite (.cmp .neq (.cell (.get (.get (.cons (.v 4) (.cons (.v 3) .nil)) (.v 12)) (.v 15)) 0) (.ki .i64 1))
                  (.ret [(.ki .i64 1)])
                  (.ite (.cmp .leq (.cell (.get (.get (.cons (.v 4) (.cons (.v 3) .nil)) (.v 12)) (.v 15)) 1) (.v 14))
                   (.ret [(.ki .i64 1)])
                   (.ite (.cmp .geq (.cell (.get (.get (.cons (.v 4) (.cons (.v 3) .nil)) (.v 12)) (.v 15)) 1) (.v 0))
                    (.ret [(.ki .i64 1)])
                    (.back 1 [(.v 13), (.cell (.get (.get (.cons (.v 4) (.cons (.v 3) .nil)) (.v 12)) (.v 15)) 1), (.ar .add .i64 (.v 15) (.ki .i64 1))])))))))
              (.back 0 [(.v 13), (.v 14), (.ar .add .i64 (.v 12) (.ki .i64 1))]))))
           (.loop [(.int .i64), (.int .i64)] [(.v 10), (.ki .i64 0)]
            (.ite (.cmp .lss (.v 14) (.len (.v 7)))
             (.ev [(.ob (.cmp .geq (.v 14) (.ki .i64 0))), (.ob (.cmp .lss (.v 14) (.len (.v 7))))]
              (.cal 38 [(.g shM)] [(cpM (.get (.v 7) (.v 14)))] [(.c (.int .i64))] 15
               (.ite (.cmp .neq (.v 15) (.ki .i64 0))
                (.ret [(.v 15)])
                (.ev [(.call 39 [(.g shM)] [(cpM (.get (.v 7) (.v 14)))] [(.c .bool)] 16)]
                 (.ite (.v 16)
                  (.ite (.cmp .gtr (.v 14) (.ki .i64 0))
                   (.ev [(.ob (.cmp .geq (.ar .sub .i64 (.v 14) (.ki .i64 1)) (.ki .i64 0))), (.ob (.cmp .lss (.ar .sub .i64 (.v 14) (.ki .i64 1)) (.len (.v 7))))]
                    (.ite (.cmp .leq (.cell (.get (.v 7) (.v 14)) 1) (.cell (.get (.v 7) (.ar .sub .i64 (.v 14) (.ki .i64 1))) 1))
                     (.ret [(.ki .i64 1)])
                     (.back 1 [(.v 13), (.ar .add .i64 (.v 14) (.ki .i64 1))])))
                   (.back 1 [(.v 13), (.ar .add .i64 (.v 14) (.ki .i64 1))]))
                  (.ret [(.ki .i64 1)]))))))
             (.ret [(.ki .i64 0)])))))
         (.ret [(.ki .i64 2)]))))))))
  (.ret [(.ki .i64 2)])))
def hdval : List HdL := [{ kind := true, id := 9, nv := 10, tmps := [(.v (.g [(.d (.int .i64) (.v 0)), (.d (.int .i64) (.v 1)), (.d (.int .i64) (.v 2)), (.d (.lst shM) (.v 3)), (.d (.lst shM) (.v 4)), (.d (.int .i64) (.v 5)), (.d (.int .i64) (.v 6)), (.d (.lst shM) (.v 7))])), (.v (.c (.ptr 0 0))), (.v (.c (.d (.int .i64) (.v 10)))), (.v (.c (.d (.int .i64) (.v 11)))) ] ++ an 8 ++ [(.v (.c (.ptr 0 1))), (.v (.c (.d (.int .i64) (.v 1)))), (.v (.c (.ptr 0 2))), (.v (.c (.d (.int .i64) (.v 2)))), (.v (.c (.d .bool (.v 8)))), (.v (.c (.d .bool (.not (.v 8))))), (.v (.c (.d .bool (.not (.v 8))))), (.v (.c (.ptr 0 0))), (.v (.c (.d (.int .i64) (.v 0)))), (.v (.c (.d .bool (.cmp .lss (.v 0) (.ki .i64 1))))), (.v (.c (.d .bool (.cmp .lss (.v 0) (.ki .i64 1))))), (.v (.c (.d .bool (.cmp .lss (.v 0) (.ki .i64 1))))), (.v (.c (.ptr 0 0))), (.v (.c (.d (.int .i64) (.v 0)))), (.v (.c (.d .bool (.cmp .gtr (.v 0) (.ki .i64 2147483648))))), (.v (.c (.d .bool (.cmp .gtr (.v 0) (.ki .i64 2147483648))))), (.v (.c (.ptr 0 3))), (.v (.c (.d (.lst shM) (.v 3)))), (.v (.c (.d (.int .i64) (.len (.v 3))))), (.v (.c (.d .bool (.cmp .gtr (.len (.v 3)) (.ki .i64 256))))), (.v (.c (.d .bool (.cmp .gtr (.len (.v 3)) (.ki .i64 256))))), (.v (.c (.ptr 0 4))), (.v (.c (.d (.lst shM) (.v 4)))), (.v (.c (.d (.int .i64) (.len (.v 4))))), (.v (.c (.d .bool (.cmp .gtr (.len (.v 4)) (.ki .i64 1))))), (.v (.c (.d .bool (.cmp .gtr (.len (.v 4)) (.ki .i64 1))))), (.v (.c (.d .bool (.cmp .gtr (.len (.v 4)) (.ki .i64 1))))), (.v (.c (.ptr 0 7))), (.v (.c (.d (.lst shM) (.v 7)))), (.v (.c (.d (.int .i64) (.len (.v 7))))), (.v (.c (.d .bool (.cmp .gtr (.len (.v 7)) (.ki .i64 16))))), (.v (.c (.d .bool (.cmp .gtr (.len (.v 7)) (.ki .i64 16))))), (.v (.g [(.d (.int .i64) (.v 0)), (.d (.int .i64) (.v 1)), (.d (.int .i64) (.v 2)), (.d (.lst shM) (.v 3)), (.d (.lst shM) (.v 4)), (.d (.int .i64) (.v 5)), (.d (.int .i64) (.v 6)), (.d (.lst shM) (.v 7))])), (.v (.c (.d .bool (.v 9)))), (.v (.c (.d .bool (.not (.v 9))))), (.v (.c (.ptr 0 4))), (.v (.c (.d (.lst shM) (.v 4)))), (.v (.c (.ptr 0 3))), (.v (.c (.d (.lst shM) (.v 3)))), (.v (.g [(.d (.lst shM) (.v 4)), (.d (.lst shM) (.v 3))])), (.v (.c (.d (.int .i64) (.v 12)))) ] ++ an 66, blks := [(.cells [(.d (.int .i64) (.v 0)), (.d (.int .i64) (.v 1)), (.d (.int .i64) (.v 2)), (.d (.lst shM) (.v 3)), (.d (.lst shM) (.v 4)), (.d (.int .i64) (.v 5)), (.d (.int .i64) (.v 6)), (.d (.lst shM) (.v 7))])], shs := [(.int .i64), (.int .i64), (.int .i64)], rs := [], bs := [], fz := [] },
{ kind := true, id := 12, nv := 13, tmps := [(.v (.g [(.d (.int .i64) (.v 0)), (.d (.int .i64) (.v 1)), (.d (.int .i64) (.v 2)), (.d (.lst shM) (.v 3)), (.d (.lst shM) (.v 4)), (.d (.int .i64) (.v 5)), (.d (.int .i64) (.v 6)), (.d (.lst shM) (.v 7))])), (.v (.c (.ptr 0 0))), (.v (.c (.d (.int .i64) (.v 13)))), (.v (.c (.d (.int .i64) (.v 14)))), (.v (.c .any)), (.v (.c (.d (.lst shM) (.get (.cons (.v 4) (.cons (.v 3) .nil)) (.v 12))))) ] ++ an 6 ++ [(.v (.c (.ptr 0 1))), (.v (.c (.d (.int .i64) (.v 1)))), (.v (.c (.ptr 0 2))), (.v (.c (.d (.int .i64) (.v 2)))), (.v (.c (.d .bool (.v 8)))), (.v (.c (.d .bool (.not (.v 8))))), (.v (.c (.d .bool (.not (.v 8))))), (.v (.c (.ptr 0 0))), (.v (.c (.d (.int .i64) (.v 0)))), (.v (.c (.d .bool (.cmp .lss (.v 0) (.ki .i64 1))))), (.v (.c (.d .bool (.cmp .lss (.v 0) (.ki .i64 1))))), (.v (.c (.d .bool (.cmp .lss (.v 0) (.ki .i64 1))))), (.v (.c (.ptr 0 0))), (.v (.c (.d (.int .i64) (.v 0)))), (.v (.c (.d .bool (.cmp .gtr (.v 0) (.ki .i64 2147483648))))), (.v (.c (.d .bool (.cmp .gtr (.v 0) (.ki .i64 2147483648))))), (.v (.c (.ptr 0 3))), (.v (.c (.d (.lst shM) (.v 3)))), (.v (.c (.d (.int .i64) (.len (.v 3))))), (.v (.c (.d .bool (.cmp .gtr (.len (.v 3)) (.ki .i64 256))))), (.v (.c (.d .bool (.cmp .gtr (.len (.v 3)) (.ki .i64 256))))), (.v (.c (.ptr 0 4))), (.v (.c (.d (.lst shM) (.v 4)))), (.v (.c (.d (.int .i64) (.len (.v 4))))), (.v (.c (.d .bool (.cmp .gtr (.len (.v 4)) (.ki .i64 1))))), (.v (.c (.d .bool (.cmp .gtr (.len (.v 4)) (.ki .i64 1))))), (.v (.c (.d .bool (.cmp .gtr (.len (.v 4)) (.ki .i64 1))))), (.v (.c (.ptr 0 7))), (.v (.c (.d (.lst shM) (.v 7)))), (.v (.c (.d (.int .i64) (.len (.v 7))))), (.v (.c (.d .bool (.cmp .gtr (.len (.v 7)) (.ki .i64 16))))), (.v (.c (.d .bool (.cmp .gtr (.len (.v 7)) (.ki .i64 16))))), (.v (.g [(.d (.int .i64) (.v 0)), (.d (.int .i64) (.v 1)), (.d (.int .i64) (.v 2)), (.d (.lst shM) (.v 3)), (.d (.lst shM) (.v 4)), (.d (.int .i64) (.v 5)), (.d (.int .i64) (.v 6)), (.d (.lst shM) (.v 7))])), (.v (.c (.d .bool (.v 9)))), (.v (.c (.d .bool (.not (.v 9))))), (.v (.c (.ptr 0 4))), (.v (.c (.d (.lst shM) (.v 4)))), (.v (.c (.ptr 0 3))), (.v (.c (.d (.lst shM) (.v 3)))), (.v (.g [(.d (.lst shM) (.v 4)), (.d (.lst shM) (.v 3))])), (.v (.c (.d (.int .i64) (.v 12)))), (.v (.c (.d .bool (.cmp .lss (.v 12) (.ki .i64 2))))), (.v (.c (.d (.lst shM) (.get (.cons (.v 4) (.cons (.v 3) .nil)) (.v 12))))), (.v (.c (.d (.lst shM) (.get (.cons (.v 4) (.cons (.v 3) .nil)) (.v 12))))), (.v (.c (.d (.int .i64) (.len (.get (.cons (.v 4) (.cons (.v 3) .nil)) (.v 12)))))), (.v (.c (.d (.int .i64) (.v 15)))) ] ++ an 61, blks := [(.cells [(.d (.int .i64) (.v 0)), (.d (.int .i64) (.v 1)), (.d (.int .i64) (.v 2)), (.d (.lst shM) (.v 3)), (.d (.lst shM) (.v 4)), (.d (.int .i64) (.v 5)), (.d (.int .i64) (.v 6)), (.d (.lst shM) (.v 7))])], shs := [(.int .i64), (.int .i64), (.int .i64)], rs := [], bs := [], fz := [] },
{ kind := true, id := 23, nv := 13, tmps := [(.v (.g [(.d (.int .i64) (.v 0)), (.d (.int .i64) (.v 1)), (.d (.int .i64) (.v 2)), (.d (.lst shM) (.v 3)), (.d (.lst shM) (.v 4)), (.d (.int .i64) (.v 5)), (.d (.int .i64) (.v 6)), (.d (.lst shM) (.v 7))])), (.v (.c (.ptr 0 0))), (.v (.c (.d (.int .i64) (.v 13)))), (.v (.c (.d (.int .i64) (.v 11)))) ] ++ an 8 ++ [(.v (.c (.ptr 0 1))), (.v (.c (.d (.int .i64) (.v 1)))), (.v (.c (.ptr 0 2))), (.v (.c (.d (.int .i64) (.v 2)))), (.v (.c (.d .bool (.v 8)))), (.v (.c (.d .bool (.not (.v 8))))), (.v (.c (.d .bool (.not (.v 8))))), (.v (.c (.ptr 0 0))), (.v (.c (.d (.int .i64) (.v 0)))), (.v (.c (.d .bool (.cmp .lss (.v 0) (.ki .i64 1))))), (.v (.c (.d .bool (.cmp .lss (.v 0) (.ki .i64 1))))), (.v (.c (.d .bool (.cmp .lss (.v 0) (.ki .i64 1))))), (.v (.c (.ptr 0 0))), (.v (.c (.d (.int .i64) (.v 0)))), (.v (.c (.d .bool (.cmp .gtr (.v 0) (.ki .i64 2147483648))))), (.v (.c (.d .bool (.cmp .gtr (.v 0) (.ki .i64 2147483648))))), (.v (.c (.ptr 0 3))), (.v (.c (.d (.lst shM) (.v 3)))), (.v (.c (.d (.int .i64) (.len (.v 3))))), (.v (.c (.d .bool (.cmp .gtr (.len (.v 3)) (.ki .i64 256))))), (.v (.c (.d .bool (.cmp .gtr (.len (.v 3)) (.ki .i64 256))))), (.v (.c (.ptr 0 4))), (.v (.c (.d (.lst shM) (.v 4)))), (.v (.c (.d (.int .i64) (.len (.v 4))))), (.v (.c (.d .bool (.cmp .gtr (.len (.v 4)) (.ki .i64 1))))), (.v (.c (.d .bool (.cmp .gtr (.len (.v 4)) (.ki .i64 1))))), (.v (.c (.d .bool (.cmp .gtr (.len (.v 4)) (.ki .i64 1))))), (.v (.c (.ptr 0 7))), (.v (.c (.d (.lst shM) (.v 7)))), (.v (.c (.d (.int .i64) (.len (.v 7))))), (.v (.c (.d .bool (.cmp .gtr (.len (.v 7)) (.ki .i64 16))))), (.v (.c (.d .bool (.cmp .gtr (.len (.v 7)) (.ki .i64 16))))), (.v (.g [(.d (.int .i64) (.v 0)), (.d (.int .i64) (.v 1)), (.d (.int .i64) (.v 2)), (.d (.lst shM) (.v 3)), (.d (.lst shM) (.v 4)), (.d (.int .i64) (.v 5)), (.d (.int .i64) (.v 6)), (.d (.lst shM) (.v 7))])), (.v (.c (.d .bool (.v 9)))), (.v (.c (.d .bool (.not (.v 9))))), (.v (.c (.ptr 0 4))), (.v (.c (.d (.lst shM) (.v 4)))), (.v (.c (.ptr 0 3))), (.v (.c (.d (.lst shM) (.v 3)))), (.v (.g [(.d (.lst shM) (.v 4)), (.d (.lst shM) (.v 3))])), (.v (.c (.d (.int .i64) (.v 12)))), (.v (.c (.d .bool (.cmp .lss (.v 12) (.ki .i64 2))))) ] ++ an 32 ++ [(.v (.c (.ptr 0 7))), (.v (.c (.d (.lst shM) (.v 7)))), (.v (.c (.d (.int .i64) (.len (.v 7))))), (.v (.c (.d (.int .i64) (.v 14)))) ] ++ an 29, blks := [(.cells [(.d (.int .i64) (.v 0)), (.d (.int .i64) (.v 1)), (.d (.int .i64) (.v 2)), (.d (.lst shM) (.v 3)), (.d (.lst shM) (.v 4)), (.d (.int .i64) (.v 5)), (.d (.int .i64) (.v 6)), (.d (.lst shM) (.v 7))])], shs := [(.int .i64), (.int .i64)], rs := [], bs := [], fz := [] }]
theorem val_ent : EntOK Try.prog [] ⟨13, [(.g [(.int .i64), (.int .i64), (.int .i64), (.lst shM), (.lst shM), (.int .i64), (.int .i64), (.lst shM)])], [(.c (.int .i64))], vcval⟩ :=
  ent_of_genH hP Try.func13 rfl (by decide) (jn := []) (hd := hdval) (sg := sgs) (by kernel_rfl)
def vccall : VC := (.ite (.cmp .geq (.len (.v 3)) (.ki .i64 256))
 (.ret [(.rc (.cons (.v 0) (.cons (.v 1) (.cons (.v 2) (.cons (.v 3) (.cons (.v 4) (.cons (.v 5) (.cons (.v 6) (.cons (.v 7) .nil))))))))), (.ki .i64 0), (.ki .i64 3)])
 (.ite (.cmp .geq (.v 0) (.ki .i64 2147483648))
  (.ret [(.rc (.cons (.v 0) (.cons (.v 1) (.cons (.v 2) (.cons (.v 3) (.cons (.v 4) (.cons (.v 5) (.cons (.v 6) (.cons (.v 7) .nil))))))))), (.ki .i64 0), (.ki .i64 3)])
  (.cal 38 [(.g shM)] [(.rc (.cons (.ki .i64 1) (.cons (.v 0) (.cons (.v 10) (.cons (.v 11) (.cons (.v 12) (.cons (.v 13) (.cons (.v 14) (.cons (.v 15) (.cons (.v 16) (.cons (.v 17) (.cons (.v 18) (.cons (.v 19) (.cons (.v 20) (.cons (.v 21) (.cons (.v 22) (.cons (.v 23) (.cons (.v 24) (.cons (.v 25) (.cons (.v 26) (.cons (.v 27) (.cons (.v 28) (.cons (.v 29) (.cons (.v 30) (.cons (.v 31) (.cons (.v 32) .nil))))))))))))))))))))))))))] [(.c (.int .i64))] 33
   (.ite (.cmp .neq (.v 33) (.ki .i64 0))
    (.ret [(.rc (.cons (.v 0) (.cons (.v 1) (.cons (.v 2) (.cons (.v 3) (.cons (.v 4) (.cons (.v 5) (.cons (.v 6) (.cons (.v 7) .nil))))))))), (.ki .i64 0), (.v 33)])
    (.cal 43 [(.g [(.int .i64), (.int .i64), (.int .i64), (.lst shM), (.lst shM), (.int .i64), (.int .i64), (.lst shM)])] [(.rc (.cons (.v 0) (.cons (.v 1) (.cons (.v 2) (.cons (.v 3) (.cons (.v 4) (.cons (.v 5) (.cons (.v 6) (.cons (.v 7) .nil)))))))))] [(.h [(.s (.int .i64)), (.s (.int .i64)), (.s (.int .i64)), (.r shM), (.r shM), (.s (.int .i64)), (.s (.int .i64)), (.r shM)])] 34
     (.cal 44 [(.c (.lst shM))] [(.cons (.rc (.cons (.ki .i64 1) (.cons (.v 0) (.cons (.v 10) (.cons (.v 11) (.cons (.v 12) (.cons (.v 13) (.cons (.v 14) (.cons (.v 15) (.cons (.v 16) (.cons (.v 17) (.cons (.v 18) (.cons (.v 19) (.cons (.v 20) (.cons (.v 21) (.cons (.v 22) (.cons (.v 23) (.cons (.v 24) (.cons (.v 25) (.cons (.v 26) (.cons (.v 27) (.cons (.v 28) (.cons (.v 29) (.cons (.v 30) (.cons (.v 31) (.cons (.v 32) .nil)))))))))))))))))))))))))) .nil)] [(.r shM)] 42
      (.ev [(.ob (.cmp .leq (.len (.app (.v 37) (.v 42))) (.ki .i64 4294967296)))]
       (.ret [(.rc (.cons (.ar .add .i64 (.v 34) (.ki .i64 1)) (.cons (.v 35) (.cons (.v 36) (.cons (.app (.v 37) (.v 42)) (.cons (.v 38) (.cons (.v 39) (.cons (.v 40) (.cons (.v 41) .nil))))))))), (.v 0), (.ki .i64 0)]))))))))
theorem call_ent : EntOK Try.prog [] ⟨19, [(.g [(.int .i64), (.int .i64), (.int .i64), (.lst shM), (.lst shM), (.int .i64), (.int .i64), (.lst shM)]), (.g shM)], [(.g [(.int .i64), (.int .i64), (.int .i64), (.lst shM), (.lst shM), (.int .i64), (.int .i64), (.lst shM)]), (.c (.int .i64)), (.c (.int .i64))], vccall⟩ :=
  ent_of_gen hP Try.func19 rfl (by decide) (sg := sgs) (by kernel_rfl)
def vcsend : VC := (.ite (.cmp .lss (.v 8) (.ki .i64 0))
 (.ret [(.rc (.cons (.v 0) (.cons (.v 1) (.cons (.v 2) (.cons (.v 3) (.cons (.v 4) (.cons (.v 5) (.cons (.v 6) (.cons (.v 7) .nil))))))))), .nil, .nil])
 (.ite (.cmp .gtr (.v 8) (.ki .i64 268435456))
  (.ret [(.rc (.cons (.v 0) (.cons (.v 1) (.cons (.v 2) (.cons (.v 3) (.cons (.v 4) (.cons (.v 5) (.cons (.v 6) (.cons (.v 7) .nil))))))))), .nil, .nil])
  (.cal 43 [(.g [(.int .i64), (.int .i64), (.int .i64), (.lst shM), (.lst shM), (.int .i64), (.int .i64), (.lst shM)])] [(.rc (.cons (.v 0) (.cons (.v 1) (.cons (.v 2) (.cons (.v 3) (.cons (.v 4) (.cons (.v 5) (.cons (.v 6) (.cons (.v 7) .nil)))))))))] [(.h [(.s (.int .i64)), (.s (.int .i64)), (.s (.int .i64)), (.r shM), (.r shM), (.s (.int .i64)), (.s (.int .i64)), (.r shM)])] 9
   (.ite (.cmp .gtr (.len (.v 4)) (.ki .i64 0))
    (.ite (.cmp .leq (.v 5) (.v 8))
     (.ite (.cmp .leq (.v 6) (.v 2))
      (.ev [(.ob (.cmp .lss (.ki .i64 0) (.len (.v 4))))]
       (.cal 44 [(.c (.lst shM))] [(.cons (cpM (.get (.v 4) (.ki .i64 0))) .nil)] [(.r shM)] 17
        (.ite (.cmp .gtr (.len (.v 13)) (.ki .i64 0))
         (.ret [(.rc (.cons (.v 9) (.cons (.v 10) (.cons (.v 11) (.cons (.v 12) (.cons (.v 13) (.cons (.ar .add .i64 (.v 8) (.v 1)) (.cons (.ar .add .i64 (.v 15) (.ki .i64 1)) (.cons (.v 16) .nil))))))))), (.v 17), .nil])
         (.ite (.cmp .gtr (.len (.v 3)) (.ki .i64 0))
          (.ev [(.ob (.cmp .lss (.ki .i64 0) (.len (.v 3))))]
           (.cal 44 [(.c (.lst shM))] [(.cons (cpM (.get (.v 3) (.ki .i64 0))) .nil)] [(.r shM)] 18
            (.ev [(.ob (.cmp .lss (.ki .i64 0) (.len (.v 3))))]
             (.cal 44 [(.c (.lst shM))] [(.cons (cpM (.get (.v 3) (.ki .i64 0))) .nil)] [(.r shM)] 19
              (.ev [(.ob (.cmp .leq (.ki .i64 1) (.len (.v 3))))]
               (.cal 44 [(.c (.lst shM))] [(.sub (.v 3) (.ki .i64 1) (.len (.v 3)))] [(.r shM)] 20
                (.ret [(.rc (.cons (.v 9) (.cons (.v 10) (.cons (.v 11) (.cons (.v 20) (.cons (.v 19) (.cons (.ar .add .i64 (.v 8) (.v 1)) (.cons (.ki .i64 1) (.cons (.v 16) .nil))))))))), (.v 18), .nil])))))))
          (.ret [(.rc (.cons (.v 9) (.cons (.v 10) (.cons (.v 11) (.cons (.v 12) (.cons (.v 13) (.cons (.ki .i64 0) (.cons (.ki .i64 0) (.cons (.v 16) .nil))))))))), (.v 17), .nil])))))
      (.ev [(.ob (.cmp .lss (.ki .i64 0) (.len (.v 4))))]
       (.cal 44 [(.c (.lst shM))] [(.cons (cpM (.get (.v 4) (.ki .i64 0))) .nil)] [(.r shM)] 17
        (.ite (.cmp .gtr (.len (.v 3)) (.ki .i64 0))
         (.ev [(.ob (.cmp .lss (.ki .i64 0) (.len (.v 3))))]
          (.cal 44 [(.c (.lst shM))] [(.cons (cpM (.get (.v 3) (.ki .i64 0))) .nil)] [(.r shM)] 18
           (.ev [(.ob (.cmp .lss (.ki .i64 0) (.len (.v 3))))]
            (.cal 44 [(.c (.lst shM))] [(.cons (cpM (.get (.v 3) (.ki .i64 0))) .nil)] [(.r shM)] 19
             (.ev [(.ob (.cmp .leq (.ki .i64 1) (.len (.v 3))))]
              (.cal 44 [(.c (.lst shM))] [(.sub (.v 3) (.ki .i64 1) (.len (.v 3)))] [(.r shM)] 20
               (.ret [(.rc (.cons (.v 9) (.cons (.v 10) (.cons (.v 11) (.cons (.v 20) (.cons (.v 19) (.cons (.ar .add .i64 (.v 8) (.v 1)) (.cons (.ki .i64 1) (.cons (.v 16) .nil))))))))), (.v 18), (.v 17)])))))))
         (.ret [(.rc (.cons (.v 9) (.cons (.v 10) (.cons (.v 11) (.cons (.v 12) (.cons .nil (.cons (.ki .i64 0) (.cons (.ki .i64 0) (.cons (.v 16) .nil))))))))), .nil, (.v 17)])))))
     (.ite (.cmp .gtr (.len (.v 13)) (.ki .i64 0))
      (.ret [(.rc (.cons (.v 9) (.cons (.v 10) (.cons (.v 11) (.cons (.v 12) (.cons (.v 13) (.cons (.v 14) (.cons (.v 15) (.cons (.v 16) .nil))))))))), .nil, .nil])
      (.ite (.cmp .gtr (.len (.v 3)) (.ki .i64 0))
       (.ev [(.ob (.cmp .lss (.ki .i64 0) (.len (.v 3))))]
        (.cal 44 [(.c (.lst shM))] [(.cons (cpM (.get (.v 3) (.ki .i64 0))) .nil)] [(.r shM)] 17
         (.ev [(.ob (.cmp .lss (.ki .i64 0) (.len (.v 3))))]
          (.cal 44 [(.c (.lst shM))] [(.cons (cpM (.get (.v 3) (.ki .i64 0))) .nil)] [(.r shM)] 18
           (.ev [(.ob (.cmp .leq (.ki .i64 1) (.len (.v 3))))]
            (.cal 44 [(.c (.lst shM))] [(.sub (.v 3) (.ki .i64 1) (.len (.v 3)))] [(.r shM)] 19
             (.ret [(.rc (.cons (.v 9) (.cons (.v 10) (.cons (.v 11) (.cons (.v 19) (.cons (.v 18) (.cons (.ar .add .i64 (.v 8) (.v 1)) (.cons (.ki .i64 1) (.cons (.v 16) .nil))))))))), (.v 17), .nil])))))))
       (.ret [(.rc (.cons (.v 9) (.cons (.v 10) (.cons (.v 11) (.cons (.v 12) (.cons (.v 13) (.cons (.ki .i64 0) (.cons (.ki .i64 0) (.cons (.v 16) .nil))))))))), .nil, .nil]))))
    (.ite (.cmp .gtr (.len (.v 13)) (.ki .i64 0))
     (.ret [(.rc (.cons (.v 9) (.cons (.v 10) (.cons (.v 11) (.cons (.v 12) (.cons (.v 13) (.cons (.v 14) (.cons (.v 15) (.cons (.v 16) .nil))))))))), .nil, .nil])
     (.ite (.cmp .gtr (.len (.v 3)) (.ki .i64 0))
      (.ev [(.ob (.cmp .lss (.ki .i64 0) (.len (.v 3))))]
       (.cal 44 [(.c (.lst shM))] [(.cons (cpM (.get (.v 3) (.ki .i64 0))) .nil)] [(.r shM)] 17
        (.ev [(.ob (.cmp .lss (.ki .i64 0) (.len (.v 3))))]
         (.cal 44 [(.c (.lst shM))] [(.cons (cpM (.get (.v 3) (.ki .i64 0))) .nil)] [(.r shM)] 18
          (.ev [(.ob (.cmp .leq (.ki .i64 1) (.len (.v 3))))]
           (.cal 44 [(.c (.lst shM))] [(.sub (.v 3) (.ki .i64 1) (.len (.v 3)))] [(.r shM)] 19
            (.ret [(.rc (.cons (.v 9) (.cons (.v 10) (.cons (.v 11) (.cons (.v 19) (.cons (.v 18) (.cons (.ar .add .i64 (.v 8) (.v 1)) (.cons (.ki .i64 1) (.cons (.v 16) .nil))))))))), (.v 17), .nil])))))))
      (.ret [(.rc (.cons (.v 9) (.cons (.v 10) (.cons (.v 11) (.cons (.v 12) (.cons (.v 13) (.cons (.ki .i64 0) (.cons (.ki .i64 0) (.cons (.v 16) .nil))))))))), .nil, .nil])))))))
theorem send_ent : EntOK Try.prog [] ⟨21, [(.g [(.int .i64), (.int .i64), (.int .i64), (.lst shM), (.lst shM), (.int .i64), (.int .i64), (.lst shM)]), (.c (.int .i64))], [(.g [(.int .i64), (.int .i64), (.int .i64), (.lst shM), (.lst shM), (.int .i64), (.int .i64), (.lst shM)]), (.c (.lst shM)), (.c (.lst shM))], vcsend⟩ :=
  ent_of_gen hP Try.func21 rfl (by decide) (sg := sgs) (by kernel_rfl)
def vcrecv : VC := (.cal 39 [(.g shM)] [(.rc (.cons (.v 8) (.cons (.v 9) (.cons (.v 10) (.cons (.v 11) (.cons (.v 12) (.cons (.v 13) (.cons (.v 14) (.cons (.v 15) (.cons (.v 16) (.cons (.v 17) (.cons (.v 18) (.cons (.v 19) (.cons (.v 20) (.cons (.v 21) (.cons (.v 22) (.cons (.v 23) (.cons (.v 24) (.cons (.v 25) (.cons (.v 26) (.cons (.v 27) (.cons (.v 28) (.cons (.v 29) (.cons (.v 30) (.cons (.v 31) (.cons (.v 32) .nil))))))))))))))))))))))))))] [(.c .bool)] 33
 (.ite (.v 33)
  (.ite (.cmp .eql (.len (.v 4)) (.ki .i64 0))
   (.ret [(.rc (.cons (.v 0) (.cons (.v 1) (.cons (.v 2) (.cons (.v 3) (.cons (.v 4) (.cons (.v 5) (.cons (.v 6) (.cons (.v 7) .nil))))))))), .nil, .nil, .nil])
   (.ev [(.ob (.cmp .lss (.ki .i64 0) (.len (.v 4))))]
    (.ite (.cmp .neq (.v 9) (.cell (.get (.v 4) (.ki .i64 0)) 1))
     (.ret [(.rc (.cons (.v 0) (.cons (.v 1) (.cons (.v 2) (.cons (.v 3) (.cons (.v 4) (.cons (.v 5) (.cons (.v 6) (.cons (.v 7) .nil))))))))), .nil, .nil, .nil])
     (.ev [(.ob (.cmp .lss (.ki .i64 0) (.len (.v 4))))]
      (.ite (.cmp .neq (.v 10) (.cell (.get (.v 4) (.ki .i64 0)) 2))
       (.ret [(.rc (.cons (.v 0) (.cons (.v 1) (.cons (.v 2) (.cons (.v 3) (.cons (.v 4) (.cons (.v 5) (.cons (.v 6) (.cons (.v 7) .nil))))))))), .nil, .nil, .nil])
       (.cal 43 [(.g [(.int .i64), (.int .i64), (.int .i64), (.lst shM), (.lst shM), (.int .i64), (.int .i64), (.lst shM)])] [(.rc (.cons (.v 0) (.cons (.v 1) (.cons (.v 2) (.cons (.v 3) (.cons (.v 4) (.cons (.v 5) (.cons (.v 6) (.cons (.v 7) .nil)))))))))] [(.h [(.s (.int .i64)), (.s (.int .i64)), (.s (.int .i64)), (.r shM), (.r shM), (.s (.int .i64)), (.s (.int .i64)), (.r shM)])] 34
        (.ev [(.ob (.cmp .lss (.ki .i64 0) (.len (.v 4))))]
         (.cal 44 [(.c (.lst shM))] [(.cons (cpM (.get (.v 4) (.ki .i64 0))) (.cons (.rc (.cons (.v 8) (.cons (.v 9) (.cons (.v 10) (.cons (.v 11) (.cons (.v 12) (.cons (.v 13) (.cons (.v 14) (.cons (.v 15) (.cons (.v 16) (.cons (.v 17) (.cons (.v 18) (.cons (.v 19) (.cons (.v 20) (.cons (.v 21) (.cons (.v 22) (.cons (.v 23) (.cons (.v 24) (.cons (.v 25) (.cons (.v 26) (.cons (.v 27) (.cons (.v 28) (.cons (.v 29) (.cons (.v 30) (.cons (.v 31) (.cons (.v 32) .nil)))))))))))))))))))))))))) .nil))] [(.r shM)] 42
          (.ret [(.rc (.cons (.v 34) (.cons (.v 35) (.cons (.v 36) (.cons (.v 37) (.cons .nil (.cons (.ki .i64 0) (.cons (.ki .i64 0) (.cons (.v 41) .nil))))))))), (.v 42), .nil, .nil])))))))))
  (.ite (.cmp .neq (.v 8) (.ki .i64 1))
   (.ret [(.rc (.cons (.v 0) (.cons (.v 1) (.cons (.v 2) (.cons (.v 3) (.cons (.v 4) (.cons (.v 5) (.cons (.v 6) (.cons (.v 7) .nil))))))))), .nil, .nil, .nil])
   (.loop [(.lst shM), (.lst shM), (.lst shM), (.int .i64)] [.nil, .nil, .nil, (.ki .i64 0)]
    (.ite (.cmp .lss (.v 37) (.len (.v 7)))
     (.ev [(.ob (.cmp .geq (.v 37) (.ki .i64 0))), (.ob (.cmp .lss (.v 37) (.len (.v 7))))]
      (.ite (.cmp .eql (.cell (.get (.v 7) (.v 37)) 1) (.v 9))
       (.cal 44 [(.c (.lst shM))] [(.cons (cpM (.get (.v 7) (.v 37))) .nil)] [(.r shM)] 38
        (.ret [(.rc (.cons (.v 0) (.cons (.v 1) (.cons (.v 2) (.cons (.v 3) (.cons (.v 4) (.cons (.v 5) (.cons (.v 6) (.cons (.v 7) .nil))))))))), .nil, .nil, (.v 38)]))
       (.back 0 [(.v 34), (.v 35), (.v 36), (.ar .add .i64 (.v 37) (.ki .i64 1))])))
     (.cal 47 [(.g shM), (.c (.lst shM))] [(.rc (.cons (.v 8) (.cons (.v 9) (.cons (.v 10) (.cons (.v 11) (.cons (.v 12) (.cons (.v 13) (.cons (.v 14) (.cons (.v 15) (.cons (.v 16) (.cons (.v 17) (.cons (.v 18) (.cons (.v 19) (.cons (.v 20) (.cons (.v 21) (.cons (.v 22) (.cons (.v 23) (.cons (.v 24) (.cons (.v 25) (.cons (.v 26) (.cons (.v 27) (.cons (.v 28) (.cons (.v 29) (.cons (.v 30) (.cons (.v 31) (.cons (.v 32) .nil)))))))))))))))))))))))))), (.v 7)] [(.c .bool)] 38
      (.ite (.v 38)
       (.cal 44 [(.c (.lst shM))] [(.cons (.rc (.cons (.v 8) (.cons (.v 9) (.cons (.v 10) (.cons (.v 11) (.cons (.v 12) (.cons (.v 13) (.cons (.v 14) (.cons (.v 15) (.cons (.v 16) (.cons (.v 17) (.cons (.v 18) (.cons (.v 19) (.cons (.v 20) (.cons (.v 21) (.cons (.v 22) (.cons (.v 23) (.cons (.v 24) (.cons (.v 25) (.cons (.v 26) (.cons (.v 27) (.cons (.v 28) (.cons (.v 29) (.cons (.v 30) (.cons (.v 31) (.cons (.v 32) .nil)))))))))))))))))))))))))) .nil)] [(.r shM)] 39
        (.ret [(.rc (.cons (.v 0) (.cons (.v 1) (.cons (.v 2) (.cons (.v 3) (.cons (.v 4) (.cons (.v 5) (.cons (.v 6) (.cons (.v 7) .nil))))))))), .nil, (.v 39), .nil]))
       (.ret [(.rc (.cons (.v 0) (.cons (.v 1) (.cons (.v 2) (.cons (.v 3) (.cons (.v 4) (.cons (.v 5) (.cons (.v 6) (.cons (.v 7) .nil))))))))), .nil, .nil, .nil]))))))))
def hdrecv : List HdL := [{ kind := true, id := 10, nv := 34, tmps := [(.v (.g [(.d (.int .i64) (.v 0)), (.d (.int .i64) (.v 1)), (.d (.int .i64) (.v 2)), (.d (.lst shM) (.v 3)), (.d (.lst shM) (.v 4)), (.d (.int .i64) (.v 5)), (.d (.int .i64) (.v 6)), (.d (.lst shM) (.v 7))])), (.v (.g [(.d (.int .i64) (.v 8)), (.d (.int .i64) (.v 9)), (.d (.int .i64) (.v 10)), (.d (.int .i64) (.v 11)), (.d (.int .i64) (.v 12)), (.d (.int .i64) (.v 13)), (.d (.int .i64) (.v 14)), (.d (.int .i64) (.v 15)), (.d .str (.v 16)), (.d .str (.v 17)), (.d .str (.v 18)), (.d .bool (.v 19)), (.d (.lst [(.int .i64), (.int .i64)]) (.v 20)), (.d (.int .i64) (.v 21)), (.d (.int .i64) (.v 22)), (.d (.int .i64) (.v 23)), (.d (.int .i64) (.v 24)), (.d (.int .i64) (.v 25)), (.d .str (.v 26)), (.d (.int .i64) (.v 27)), (.d (.int .i64) (.v 28)), (.d (.int .i64) (.v 29)), (.d (.int .i64) (.v 30)), (.d (.lst [(.int .i64), (.int .i64)]) (.v 31)), (.d (.lst [.str, .str, .str, (.int .i64), (.int .i64), (.int .i64)]) (.v 32))])), (.v (.c (.ptr 0 0))), (.v (.c (.ptr 1 0))), (.v (.c (.ptr 2 0))), (.v (.c (.d (.lst shM) (.v 34)))), (.v (.c (.d (.lst shM) (.v 35)))), (.v (.c (.d (.lst shM) (.v 36)))), (.v (.c .any)), (.v (.c .any)), (.v (.c .any)), (.v (.g [(.d (.int .i64) (.v 8)), (.d (.int .i64) (.v 9)), (.d (.int .i64) (.v 10)), (.d (.int .i64) (.v 11)), (.d (.int .i64) (.v 12)), (.d (.int .i64) (.v 13)), (.d (.int .i64) (.v 14)), (.d (.int .i64) (.v 15)), (.d .str (.v 16)), (.d .str (.v 17)), (.d .str (.v 18)), (.d .bool (.v 19)), (.d (.lst [(.int .i64), (.int .i64)]) (.v 20)), (.d (.int .i64) (.v 21)), (.d (.int .i64) (.v 22)), (.d (.int .i64) (.v 23)), (.d (.int .i64) (.v 24)), (.d (.int .i64) (.v 25)), (.d .str (.v 26)), (.d (.int .i64) (.v 27)), (.d (.int .i64) (.v 28)), (.d (.int .i64) (.v 29)), (.d (.int .i64) (.v 30)), (.d (.lst [(.int .i64), (.int .i64)]) (.v 31)), (.d (.lst [.str, .str, .str, (.int .i64), (.int .i64), (.int .i64)]) (.v 32))])), (.v (.c (.d .bool (.v 33)))) ] ++ an 38 ++ [(.v (.c (.ptr 1 0))), (.v (.c (.d (.int .i64) (.v 8)))), (.v (.c (.d .bool (.cmp .neq (.v 8) (.ki .i64 1))))), (.v (.c .any)), (.v (.c (.ptr 0 7))), (.v (.c (.d (.lst shM) (.v 7)))), (.v (.c (.d (.int .i64) (.len (.v 7))))), (.v (.c (.d (.int .i64) (.v 37)))) ] ++ an 22, blks := [(.cells [(.d (.int .i64) (.v 0)), (.d (.int .i64) (.v 1)), (.d (.int .i64) (.v 2)), (.d (.lst shM) (.v 3)), (.d (.lst shM) (.v 4)), (.d (.int .i64) (.v 5)), (.d (.int .i64) (.v 6)), (.d (.lst shM) (.v 7))]), (.cells [(.d (.int .i64) (.v 8)), (.d (.int .i64) (.v 9)), (.d (.int .i64) (.v 10)), (.d (.int .i64) (.v 11)), (.d (.int .i64) (.v 12)), (.d (.int .i64) (.v 13)), (.d (.int .i64) (.v 14)), (.d (.int .i64) (.v 15)), (.d .str (.v 16)), (.d .str (.v 17)), (.d .str (.v 18)), (.d .bool (.v 19)), (.d (.lst [(.int .i64), (.int .i64)]) (.v 20)), (.d (.int .i64) (.v 21)), (.d (.int .i64) (.v 22)), (.d (.int .i64) (.v 23)), (.d (.int .i64) (.v 24)), (.d (.int .i64) (.v 25)), (.d .str (.v 26)), (.d (.int .i64) (.v 27)), (.d (.int .i64) (.v 28)), (.d (.int .i64) (.v 29)), (.d (.int .i64) (.v 30)), (.d (.lst [(.int .i64), (.int .i64)]) (.v 31)), (.d (.lst [.str, .str, .str, (.int .i64), (.int .i64), (.int .i64)]) (.v 32))]), (.cells [(.d (.int .i64) (.ki .i64 0)), (.d (.int .i64) (.ki .i64 0)), (.d (.int .i64) (.ki .i64 0)), (.nilS shM), (.nilS shM), (.d (.int .i64) (.ki .i64 0)), (.d (.int .i64) (.ki .i64 0)), (.nilS shM)])], shs := [(.lst shM), (.lst shM), (.lst shM), (.int .i64)], rs := [], bs := [], fz := [] }]
theorem recv_ent : EntOK Try.prog [] ⟨24, [(.g [(.int .i64), (.int .i64), (.int .i64), (.lst shM), (.lst shM), (.int .i64), (.int .i64), (.lst shM)]), (.g shM)], [(.g [(.int .i64), (.int .i64), (.int .i64), (.lst shM), (.lst shM), (.int .i64), (.int .i64), (.lst shM)]), (.c (.lst shM)), (.c (.lst shM)), (.c (.lst shM))], vcrecv⟩ :=
  ent_of_genH hP Try.func24 rfl (by decide) (jn := []) (hd := hdrecv) (sg := sgs) (by kernel_rfl)
def vcans : VC := (.cal 38 [(.g shM)] [(.rc (.cons (.v 8) (.cons (.v 9) (.cons (.v 10) (.cons (.v 11) (.cons (.v 12) (.cons (.v 13) (.cons (.v 14) (.cons (.v 15) (.cons (.v 16) (.cons (.v 17) (.cons (.v 18) (.cons (.v 19) (.cons (.v 20) (.cons (.v 21) (.cons (.v 22) (.cons (.v 23) (.cons (.v 24) (.cons (.v 25) (.cons (.v 26) (.cons (.v 27) (.cons (.v 28) (.cons (.v 29) (.cons (.v 30) (.cons (.v 31) (.cons (.v 32) .nil))))))))))))))))))))))))))] [(.c (.int .i64))] 33
 (.ite (.cmp .neq (.v 33) (.ki .i64 0))
  (.ret [(.rc (.cons (.v 0) (.cons (.v 1) (.cons (.v 2) (.cons (.v 3) (.cons (.v 4) (.cons (.v 5) (.cons (.v 6) (.cons (.v 7) .nil))))))))), (.v 33)])
  (.cal 39 [(.g shM)] [(.rc (.cons (.v 8) (.cons (.v 9) (.cons (.v 10) (.cons (.v 11) (.cons (.v 12) (.cons (.v 13) (.cons (.v 14) (.cons (.v 15) (.cons (.v 16) (.cons (.v 17) (.cons (.v 18) (.cons (.v 19) (.cons (.v 20) (.cons (.v 21) (.cons (.v 22) (.cons (.v 23) (.cons (.v 24) (.cons (.v 25) (.cons (.v 26) (.cons (.v 27) (.cons (.v 28) (.cons (.v 29) (.cons (.v 30) (.cons (.v 31) (.cons (.v 32) .nil))))))))))))))))))))))))))] [(.c .bool)] 34
   (.ite (.v 34)
    (.cal 47 [(.g shM), (.c (.lst shM))] [(.rc (.cons (.v 8) (.cons (.v 9) (.cons (.v 10) (.cons (.v 11) (.cons (.v 12) (.cons (.v 13) (.cons (.v 14) (.cons (.v 15) (.cons (.v 16) (.cons (.v 17) (.cons (.v 18) (.cons (.v 19) (.cons (.v 20) (.cons (.v 21) (.cons (.v 22) (.cons (.v 23) (.cons (.v 24) (.cons (.v 25) (.cons (.v 26) (.cons (.v 27) (.cons (.v 28) (.cons (.v 29) (.cons (.v 30) (.cons (.v 31) (.cons (.v 32) .nil)))))))))))))))))))))))))), (.v 7)] [(.c .bool)] 35
     (.ite (.v 35)
      (.cal 43 [(.g [(.int .i64), (.int .i64), (.int .i64), (.lst shM), (.lst shM), (.int .i64), (.int .i64), (.lst shM)])] [(.rc (.cons (.v 0) (.cons (.v 1) (.cons (.v 2) (.cons (.v 3) (.cons (.v 4) (.cons (.v 5) (.cons (.v 6) (.cons (.v 7) .nil)))))))))] [(.h [(.s (.int .i64)), (.s (.int .i64)), (.s (.int .i64)), (.r shM), (.r shM), (.s (.int .i64)), (.s (.int .i64)), (.r shM)])] 36
       (.cal 44 [(.c (.lst shM))] [(.cons (.rc (.cons (.v 8) (.cons (.v 9) (.cons (.v 10) (.cons (.v 11) (.cons (.v 12) (.cons (.v 13) (.cons (.v 14) (.cons (.v 15) (.cons (.v 16) (.cons (.v 17) (.cons (.v 18) (.cons (.v 19) (.cons (.v 20) (.cons (.v 21) (.cons (.v 22) (.cons (.v 23) (.cons (.v 24) (.cons (.v 25) (.cons (.v 26) (.cons (.v 27) (.cons (.v 28) (.cons (.v 29) (.cons (.v 30) (.cons (.v 31) (.cons (.v 32) .nil)))))))))))))))))))))))))) .nil)] [(.r shM)] 44
        (.ev [(.ob (.cmp .leq (.len (.app (.v 43) (.v 44))) (.ki .i64 4294967296)))]
         (.ite (.cmp .gtr (.len (.app (.v 43) (.v 44))) (.ki .i64 16))
          (.ev [(.ob (.cmp .leq (.ki .i64 1) (.len (.app (.v 43) (.v 44)))))]
           (.cal 44 [(.c (.lst shM))] [(.sub (.app (.v 43) (.v 44)) (.ki .i64 1) (.len (.app (.v 43) (.v 44))))] [(.r shM)] 45
            (.ret [(.rc (.cons (.v 36) (.cons (.v 37) (.cons (.v 38) (.cons (.v 39) (.cons (.v 40) (.cons (.v 41) (.cons (.v 42) (.cons (.v 45) .nil))))))))), (.ki .i64 0)])))
          (.ret [(.rc (.cons (.v 36) (.cons (.v 37) (.cons (.v 38) (.cons (.v 39) (.cons (.v 40) (.cons (.v 41) (.cons (.v 42) (.cons (.app (.v 43) (.v 44)) .nil))))))))), (.ki .i64 0)])))))
      (.ret [(.rc (.cons (.v 0) (.cons (.v 1) (.cons (.v 2) (.cons (.v 3) (.cons (.v 4) (.cons (.v 5) (.cons (.v 6) (.cons (.v 7) .nil))))))))), (.ki .i64 10)])))
    (.ret [(.rc (.cons (.v 0) (.cons (.v 1) (.cons (.v 2) (.cons (.v 3) (.cons (.v 4) (.cons (.v 5) (.cons (.v 6) (.cons (.v 7) .nil))))))))), (.ki .i64 1)])))))
theorem ans_ent : EntOK Try.prog [] ⟨26, [(.g [(.int .i64), (.int .i64), (.int .i64), (.lst shM), (.lst shM), (.int .i64), (.int .i64), (.lst shM)]), (.g shM)], [(.g [(.int .i64), (.int .i64), (.int .i64), (.lst shM), (.lst shM), (.int .i64), (.int .i64), (.lst shM)]), (.c (.int .i64))], vcans⟩ :=
  ent_of_gen hP Try.func26 rfl (by decide) (sg := sgs) (by kernel_rfl)
def vcbeat : VC := (.ret [(.rc (.cons (.ki .i64 1) (.cons (.v 0) (.cons (.ki .i64 2) (.cons (.ki .i64 0) (.cons (.ki .i64 0) (.cons (.ki .i64 0) (.cons (.ki .i64 0) (.cons (.ki .i64 0) (.cons (.ks ⟨List.toArray []⟩) (.cons (.ks ⟨List.toArray []⟩) (.cons (.ks ⟨List.toArray []⟩) (.cons (.kb false) (.cons .nil (.cons (.ki .i64 0) (.cons (.ki .i64 0) (.cons (.ki .i64 0) (.cons (.ki .i64 0) (.cons (.ki .i64 0) (.cons (.ks ⟨List.toArray []⟩) (.cons (.ki .i64 0) (.cons (.ki .i64 0) (.cons (.ki .i64 0) (.cons (.ki .i64 0) (.cons .nil (.cons .nil .nil))))))))))))))))))))))))))])
theorem beat_ent : EntOK Try.prog [] ⟨28, [(.c (.int .i64))], [(.g shM)], vcbeat⟩ :=
  ent_of_gen hP Try.func28 rfl (by decide) (sg := sgs) (by kernel_rfl)
def vcdone : VC := (.ret [(.rc (.cons (.ki .i64 2) (.cons (.v 0) (.cons (.ki .i64 2) (.cons (.ki .i64 0) (.cons (.ki .i64 0) (.cons (.ki .i64 0) (.cons (.ki .i64 7) (.cons (.ki .i64 0) (.cons (.ks ⟨List.toArray []⟩) (.cons (.ks ⟨List.toArray []⟩) (.cons (.ks ⟨List.toArray []⟩) (.cons (.kb false) (.cons .nil (.cons (.ki .i64 0) (.cons (.ki .i64 0) (.cons (.ki .i64 0) (.cons (.ki .i64 0) (.cons (.ki .i64 0) (.cons (.ks ⟨List.toArray []⟩) (.cons (.ki .i64 0) (.cons (.ki .i64 0) (.cons (.ki .i64 0) (.cons (.ki .i64 0) (.cons .nil (.cons .nil .nil))))))))))))))))))))))))))])
theorem done_ent : EntOK Try.prog [] ⟨35, [(.c (.int .i64))], [(.g shM)], vcdone⟩ :=
  ent_of_gen hP Try.func35 rfl (by decide) (sg := sgs) (by kernel_rfl)
def vcawake : VC := (.cal 15 [(.c (.int .i64)), (.c (.int .i64)), (.c (.int .i64))] [(.ki .i64 3), (.ki .i64 0), (.ki .i64 1)] [(.g [(.int .i64), (.int .i64), (.int .i64), (.lst shM), (.lst shM), (.int .i64), (.int .i64), (.lst shM)]), (.c (.int .i64))] 0
 (.ev [(.call 28 [(.c (.int .i64))] [(.ki .i64 0)] [(.g shM)] 9), (.call 19 [(.g [(.int .i64), (.int .i64), (.int .i64), (.lst shM), (.lst shM), (.int .i64), (.int .i64), (.lst shM)]), (.g shM)] [(.rc (.cons (.v 0) (.cons (.v 1) (.cons (.v 2) (.cons (.v 3) (.cons (.v 4) (.cons (.v 5) (.cons (.v 6) (.cons (.v 7) .nil))))))))), (.rc (.cons (.v 9) (.cons (.v 10) (.cons (.v 11) (.cons (.v 12) (.cons (.v 13) (.cons (.v 14) (.cons (.v 15) (.cons (.v 16) (.cons (.v 17) (.cons (.v 18) (.cons (.v 19) (.cons (.v 20) (.cons (.v 21) (.cons (.v 22) (.cons (.v 23) (.cons (.v 24) (.cons (.v 25) (.cons (.v 26) (.cons (.v 27) (.cons (.v 28) (.cons (.v 29) (.cons (.v 30) (.cons (.v 31) (.cons (.v 32) (.cons (.v 33) .nil))))))))))))))))))))))))))] [(.g [(.int .i64), (.int .i64), (.int .i64), (.lst shM), (.lst shM), (.int .i64), (.int .i64), (.lst shM)]), (.c (.int .i64)), (.c (.int .i64))] 34)]
  (.ite (.cmp .neq (.v 8) (.ki .i64 0))
   (.ret [(.kb false)])
   (.ite (.cmp .neq (.v 43) (.ki .i64 0))
    (.ret [(.kb false)])
    (.ite (.cmp .neq (.v 42) (.ki .i64 1))
     (.ret [(.kb false)])
     (.cal 13 [(.g [(.int .i64), (.int .i64), (.int .i64), (.lst shM), (.lst shM), (.int .i64), (.int .i64), (.lst shM)])] [(.rc (.cons (.v 34) (.cons (.v 35) (.cons (.v 36) (.cons (.v 37) (.cons (.v 38) (.cons (.v 39) (.cons (.v 40) (.cons (.v 41) .nil)))))))))] [(.c (.int .i64))] 44
      (.ite (.cmp .neq (.v 44) (.ki .i64 0))
       (.ret [(.kb false)])
       (.cal 13 [(.g [(.int .i64), (.int .i64), (.int .i64), (.lst shM), (.lst shM), (.int .i64), (.int .i64), (.lst shM)])] [(.rc (.cons (.ki .i64 0) (.cons (.ki .i64 0) (.cons (.ki .i64 0) (.cons .nil (.cons .nil (.cons (.ki .i64 0) (.cons (.ki .i64 0) (.cons .nil .nil)))))))))] [(.c (.int .i64))] 45
        (.ite (.cmp .neq (.v 45) (.ki .i64 2))
         (.ret [(.kb false)])
         (.cal 21 [(.g [(.int .i64), (.int .i64), (.int .i64), (.lst shM), (.lst shM), (.int .i64), (.int .i64), (.lst shM)]), (.c (.int .i64))] [(.rc (.cons (.v 34) (.cons (.v 35) (.cons (.v 36) (.cons (.v 37) (.cons (.v 38) (.cons (.v 39) (.cons (.v 40) (.cons (.v 41) .nil))))))))), (.ki .i64 10)] [(.g [(.int .i64), (.int .i64), (.int .i64), (.lst shM), (.lst shM), (.int .i64), (.int .i64), (.lst shM)]), (.c (.lst shM)), (.c (.lst shM))] 46
          (.cal 21 [(.g [(.int .i64), (.int .i64), (.int .i64), (.lst shM), (.lst shM), (.int .i64), (.int .i64), (.lst shM)]), (.c (.int .i64))] [(.rc (.cons (.v 46) (.cons (.v 47) (.cons (.v 48) (.cons (.v 49) (.cons (.v 50) (.cons (.v 51) (.cons (.v 52) (.cons (.v 53) .nil))))))))), (.ki .i64 13)] [(.g [(.int .i64), (.int .i64), (.int .i64), (.lst shM), (.lst shM), (.int .i64), (.int .i64), (.lst shM)]), (.c (.lst shM)), (.c (.lst shM))] 56
           (.ev [(.call 35 [(.c (.int .i64))] [(.ki .i64 1)] [(.g shM)] 66), (.call 24 [(.g [(.int .i64), (.int .i64), (.int .i64), (.lst shM), (.lst shM), (.int .i64), (.int .i64), (.lst shM)]), (.g shM)] [(.rc (.cons (.v 46) (.cons (.v 47) (.cons (.v 48) (.cons (.v 49) (.cons (.v 50) (.cons (.v 51) (.cons (.v 52) (.cons (.v 53) .nil))))))))), (.rc (.cons (.v 66) (.cons (.v 67) (.cons (.v 68) (.cons (.v 69) (.cons (.v 70) (.cons (.v 71) (.cons (.v 72) (.cons (.v 73) (.cons (.v 74) (.cons (.v 75) (.cons (.v 76) (.cons (.v 77) (.cons (.v 78) (.cons (.v 79) (.cons (.v 80) (.cons (.v 81) (.cons (.v 82) (.cons (.v 83) (.cons (.v 84) (.cons (.v 85) (.cons (.v 86) (.cons (.v 87) (.cons (.v 88) (.cons (.v 89) (.cons (.v 90) .nil))))))))))))))))))))))))))] [(.g [(.int .i64), (.int .i64), (.int .i64), (.lst shM), (.lst shM), (.int .i64), (.int .i64), (.lst shM)]), (.c (.lst shM)), (.c (.lst shM)), (.c (.lst shM))] 91)]
            (.ev [(.call 28 [(.c (.int .i64))] [(.ki .i64 5)] [(.g shM)] 102), (.call 24 [(.g [(.int .i64), (.int .i64), (.int .i64), (.lst shM), (.lst shM), (.int .i64), (.int .i64), (.lst shM)]), (.g shM)] [(.rc (.cons (.v 46) (.cons (.v 47) (.cons (.v 48) (.cons (.v 49) (.cons (.v 50) (.cons (.v 51) (.cons (.v 52) (.cons (.v 53) .nil))))))))), (.rc (.cons (.v 102) (.cons (.v 103) (.cons (.v 104) (.cons (.v 105) (.cons (.v 106) (.cons (.v 107) (.cons (.v 108) (.cons (.v 109) (.cons (.v 110) (.cons (.v 111) (.cons (.v 112) (.cons (.v 113) (.cons (.v 114) (.cons (.v 115) (.cons (.v 116) (.cons (.v 117) (.cons (.v 118) (.cons (.v 119) (.cons (.v 120) (.cons (.v 121) (.cons (.v 122) (.cons (.v 123) (.cons (.v 124) (.cons (.v 125) (.cons (.v 126) .nil))))))))))))))))))))))))))] [(.g [(.int .i64), (.int .i64), (.int .i64), (.lst shM), (.lst shM), (.int .i64), (.int .i64), (.lst shM)]), (.c (.lst shM)), (.c (.lst shM)), (.c (.lst shM))] 127)]
             (.cal 28 [(.c (.int .i64))] [(.ki .i64 1)] [(.g shM)] 138
              (.cal 23 [(.c (.lst shM)), (.c (.lst shM))] [(.v 54), (.cons (.rc (.cons (.v 138) (.cons (.v 139) (.cons (.v 140) (.cons (.v 141) (.cons (.v 142) (.cons (.v 143) (.cons (.v 144) (.cons (.v 145) (.cons (.v 146) (.cons (.v 147) (.cons (.v 148) (.cons (.v 149) (.cons (.v 150) (.cons (.v 151) (.cons (.v 152) (.cons (.v 153) (.cons (.v 154) (.cons (.v 155) (.cons (.v 156) (.cons (.v 157) (.cons (.v 158) (.cons (.v 159) (.cons (.v 160) (.cons (.v 161) (.cons (.v 162) .nil)))))))))))))))))))))))))) .nil)] [(.c .bool)] 163
               (.ite (.v 163)
                (.cal 23 [(.c (.lst shM)), (.c (.lst shM))] [(.v 65), (.v 54)] [(.c .bool)] 164
                 (.ite (.v 164)
                  (.cal 28 [(.c (.int .i64))] [(.ki .i64 1)] [(.g shM)] 165
                   (.cal 35 [(.c (.int .i64))] [(.ki .i64 1)] [(.g shM)] 190
                    (.cal 23 [(.c (.lst shM)), (.c (.lst shM))] [(.v 99), (.cons (.rc (.cons (.v 165) (.cons (.v 166) (.cons (.v 167) (.cons (.v 168) (.cons (.v 169) (.cons (.v 170) (.cons (.v 171) (.cons (.v 172) (.cons (.v 173) (.cons (.v 174) (.cons (.v 175) (.cons (.v 176) (.cons (.v 177) (.cons (.v 178) (.cons (.v 179) (.cons (.v 180) (.cons (.v 181) (.cons (.v 182) (.cons (.v 183) (.cons (.v 184) (.cons (.v 185) (.cons (.v 186) (.cons (.v 187) (.cons (.v 188) (.cons (.v 189) .nil)))))))))))))))))))))))))) (.cons (.rc (.cons (.v 190) (.cons (.v 191) (.cons (.v 192) (.cons (.v 193) (.cons (.v 194) (.cons (.v 195) (.cons (.v 196) (.cons (.v 197) (.cons (.v 198) (.cons (.v 199) (.cons (.v 200) (.cons (.v 201) (.cons (.v 202) (.cons (.v 203) (.cons (.v 204) (.cons (.v 205) (.cons (.v 206) (.cons (.v 207) (.cons (.v 208) (.cons (.v 209) (.cons (.v 210) (.cons (.v 211) (.cons (.v 212) (.cons (.v 213) (.cons (.v 214) .nil)))))))))))))))))))))))))) .nil))] [(.c .bool)] 215
                     (.ite (.v 215)
                      (.cal 28 [(.c (.int .i64))] [(.ki .i64 5)] [(.g shM)] 216
                       (.cal 23 [(.c (.lst shM)), (.c (.lst shM))] [(.v 136), (.cons (.rc (.cons (.v 216) (.cons (.v 217) (.cons (.v 218) (.cons (.v 219) (.cons (.v 220) (.cons (.v 221) (.cons (.v 222) (.cons (.v 223) (.cons (.v 224) (.cons (.v 225) (.cons (.v 226) (.cons (.v 227) (.cons (.v 228) (.cons (.v 229) (.cons (.v 230) (.cons (.v 231) (.cons (.v 232) (.cons (.v 233) (.cons (.v 234) (.cons (.v 235) (.cons (.v 236) (.cons (.v 237) (.cons (.v 238) (.cons (.v 239) (.cons (.v 240) .nil)))))))))))))))))))))))))) .nil)] [(.c .bool)] 241
                        (.ite (.v 241)
                         (.ev [(.call 35 [(.c (.int .i64))] [(.ki .i64 5)] [(.g shM)] 242), (.call 26 [(.g [(.int .i64), (.int .i64), (.int .i64), (.lst shM), (.lst shM), (.int .i64), (.int .i64), (.lst shM)]), (.g shM)] [(.rc (.cons (.v 46) (.cons (.v 47) (.cons (.v 48) (.cons (.v 49) (.cons (.v 50) (.cons (.v 51) (.cons (.v 52) (.cons (.v 53) .nil))))))))), (.rc (.cons (.v 242) (.cons (.v 243) (.cons (.v 244) (.cons (.v 245) (.cons (.v 246) (.cons (.v 247) (.cons (.v 248) (.cons (.v 249) (.cons (.v 250) (.cons (.v 251) (.cons (.v 252) (.cons (.v 253) (.cons (.v 254) (.cons (.v 255) (.cons (.v 256) (.cons (.v 257) (.cons (.v 258) (.cons (.v 259) (.cons (.v 260) (.cons (.v 261) (.cons (.v 262) (.cons (.v 263) (.cons (.v 264) (.cons (.v 265) (.cons (.v 266) .nil))))))))))))))))))))))))))] [(.g [(.int .i64), (.int .i64), (.int .i64), (.lst shM), (.lst shM), (.int .i64), (.int .i64), (.lst shM)]), (.c (.int .i64))] 267)]
                          (.ev [(.call 28 [(.c (.int .i64))] [(.ki .i64 5)] [(.g shM)] 276), (.call 24 [(.g [(.int .i64), (.int .i64), (.int .i64), (.lst shM), (.lst shM), (.int .i64), (.int .i64), (.lst shM)]), (.g shM)] [(.rc (.cons (.v 267) (.cons (.v 268) (.cons (.v 269) (.cons (.v 270) (.cons (.v 271) (.cons (.v 272) (.cons (.v 273) (.cons (.v 274) .nil))))))))), (.rc (.cons (.v 276) (.cons (.v 277) (.cons (.v 278) (.cons (.v 279) (.cons (.v 280) (.cons (.v 281) (.cons (.v 282) (.cons (.v 283) (.cons (.v 284) (.cons (.v 285) (.cons (.v 286) (.cons (.v 287) (.cons (.v 288) (.cons (.v 289) (.cons (.v 290) (.cons (.v 291) (.cons (.v 292) (.cons (.v 293) (.cons (.v 294) (.cons (.v 295) (.cons (.v 296) (.cons (.v 297) (.cons (.v 298) (.cons (.v 299) (.cons (.v 300) .nil))))))))))))))))))))))))))] [(.g [(.int .i64), (.int .i64), (.int .i64), (.lst shM), (.lst shM), (.int .i64), (.int .i64), (.lst shM)]), (.c (.lst shM)), (.c (.lst shM)), (.c (.lst shM))] 301)]
                           (.ite (.cmp .eql (.v 275) (.ki .i64 0))
                            (.cal 35 [(.c (.int .i64))] [(.ki .i64 5)] [(.g shM)] 312
                             (.cal 23 [(.c (.lst shM)), (.c (.lst shM))] [(.v 311), (.cons (.rc (.cons (.v 312) (.cons (.v 313) (.cons (.v 314) (.cons (.v 315) (.cons (.v 316) (.cons (.v 317) (.cons (.v 318) (.cons (.v 319) (.cons (.v 320) (.cons (.v 321) (.cons (.v 322) (.cons (.v 323) (.cons (.v 324) (.cons (.v 325) (.cons (.v 326) (.cons (.v 327) (.cons (.v 328) (.cons (.v 329) (.cons (.v 330) (.cons (.v 331) (.cons (.v 332) (.cons (.v 333) (.cons (.v 334) (.cons (.v 335) (.cons (.v 336) .nil)))))))))))))))))))))))))) .nil)] [(.c .bool)] 337
                              (.ret [(.v 337)])))
                            (.ret [(.kb false)]))))
                         (.ret [(.kb false)]))))
                      (.ret [(.kb false)])))))
                  (.ret [(.kb false)])))
                (.ret [(.kb false)])))))))))))))))))
theorem awake_ent : EntOK Try.prog [] ⟨12, [], [(.c .bool)], vcawake⟩ :=
  ent_of_gen hP Try.func12 rfl (by decide) (sg := sgs) (by kernel_rfl)

end Go.Proofs.Ytmplgfkhknhacaa.C27
