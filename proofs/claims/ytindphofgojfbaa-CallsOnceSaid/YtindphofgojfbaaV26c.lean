/-
  The errors of profiles, tokens and messages: conditions. No conditions stand ahead of what is proved.
-/
import Derived.Test.YtindphofgojfbaaR26
import Derived.Test.YtindphofgojfbaaSyXd
set_option maxRecDepth 100000
set_option linter.unusedSimpArgs false
set_option linter.unusedVariables false
namespace Go.Proofs.Ytindphofgojfbaa.V26
open Go.Proofs.Ytindphofgojfbaa Go.Proofs.Ytindphofgojfbaa.Sy Go.Proofs.Ytindphofgojfbaa.L7 Go.Proofs.Ytindphofgojfbaa.Id Go.Proofs.Ytindphofgojfbaa.R26 Go.RowKit Go.WideShapes Go.ChangeShapes Go.ChangeAt
theorem hP : NoNum Try.prog := by unfold NoNum; kernel_rfl
def an (n : Nat) : List AV := List.replicate n (.v (.c .any))
abbrev shM : List Sh := [(.int .i64), (.int .i64), (.int .i64), (.int .i64), (.int .i64), (.int .i64), (.int .i64), (.int .i64), .str, .str, .str, .bool, (.lst [(.int .i64), (.int .i64)]), (.int .i64), (.int .i64), (.int .i64), (.int .i64), (.int .i64), .str, (.int .i64), (.int .i64), (.int .i64), (.int .i64), (.lst [(.int .i64), (.int .i64)]), (.lst [.str, .str, .str, (.int .i64), (.int .i64), (.int .i64)])]
abbrev cpM (x : E) : E := (.rc (.cons (.cell x 0) (.cons (.cell x 1) (.cons (.cell x 2) (.cons (.cell x 3) (.cons (.cell x 4) (.cons (.cell x 5) (.cons (.cell x 6) (.cons (.cell x 7) (.cons (.cell x 8) (.cons (.cell x 9) (.cons (.cell x 10) (.cons (.cell x 11) (.cons (.cell x 12) (.cons (.cell x 13) (.cons (.cell x 14) (.cons (.cell x 15) (.cons (.cell x 16) (.cons (.cell x 17) (.cons (.cell x 18) (.cons (.cell x 19) (.cons (.cell x 20) (.cons (.cell x 21) (.cons (.cell x 22) (.cons (.cell x 23) (.cons (.cell x 24) .nil))))))))))))))))))))))))))
def sgs : Nat → Option (List TS × List TS) := fun _ => none
def vcpnum : VC := (.ite (.cmp .geq (.v 0) (.ki .i64 1))
 (.ite (.cmp .leq (.v 0) (.ki .i64 2147483647))
  (.ite (.cmp .geq (.v 1) (.ki .i64 0))
   (.ite (.cmp .leq (.v 1) (.ki .i64 8))
    (.ite (.cmp .geq (.v 2) (.ki .i64 1))
     (.ite (.cmp .leq (.v 2) (.ki .i64 3))
      (.ite (.cmp .geq (.v 3) (.ki .i64 1))
       (.ite (.cmp .leq (.v 3) (.ki .i64 4))
        (.ite (.cmp .geq (.v 4) (.ki .i64 0))
         (.ret [(.cmp .leq (.v 4) (.ki .i64 32))])
         (.ret [(.kb false)]))
        (.ret [(.kb false)]))
       (.ret [(.kb false)]))
      (.ret [(.kb false)]))
     (.ret [(.kb false)]))
    (.ret [(.kb false)]))
   (.ret [(.kb false)]))
  (.ret [(.kb false)]))
 (.ret [(.kb false)]))
theorem pnum_ent : EntOK Try.prog [] ⟨75, [(.g [(.int .i64), (.int .i64), (.int .i64), (.int .i64), (.int .i64), .str, (.int .i64), (.int .i64), (.int .i64), (.int .i64), (.lst [(.int .i64), (.int .i64)])])], [(.c .bool)], vcpnum⟩ :=
  ent_of_gen hP Try.func75 rfl (by decide) (sg := sgs) (by kernel_rfl)
def vcptim : VC := (.ite (.cmp .lss (.v 6) (.ki .i64 0))
 (.ret [(.kb false)])
 (.ite (.cmp .gtr (.v 6) (.ki .i64 268435456))
  (.ret [(.kb false)])
  (.ite (.cmp .neq (.v 7) (.ki .i64 (-1)))
   (.ite (.cmp .lss (.v 7) (.v 6))
    (.ret [(.kb false)])
    (.ite (.cmp .gtr (.v 7) (.ki .i64 268435456))
     (.ret [(.kb false)])
     (.ite (.cmp .lss (.v 8) (.ki .i64 0))
      (.ret [(.kb false)])
      (.ite (.cmp .gtr (.v 8) (.ki .i64 268435456))
       (.ret [(.kb false)])
       (.ite (.cmp .eql (.v 3) (.ki .i64 4))
        (.ite (.cmp .neq (.v 8) (.ki .i64 0))
         (.ret [(.kb false)])
         (.ite (.cmp .eql (.v 9) (.ki .i64 (-1)))
          (.ret [(.kb true)])
          (.ite (.cmp .geq (.v 9) (.ki .i64 1))
           (.ret [(.cmp .leq (.v 9) (.ki .i64 268435456))])
           (.ret [(.kb false)]))))
        (.ite (.cmp .eql (.v 9) (.ki .i64 (-1)))
         (.ret [(.kb true)])
         (.ite (.cmp .geq (.v 9) (.ki .i64 1))
          (.ret [(.cmp .leq (.v 9) (.ki .i64 268435456))])
          (.ret [(.kb false)]))))))))
   (.ite (.cmp .lss (.v 8) (.ki .i64 0))
    (.ret [(.kb false)])
    (.ite (.cmp .gtr (.v 8) (.ki .i64 268435456))
     (.ret [(.kb false)])
     (.ite (.cmp .eql (.v 3) (.ki .i64 4))
      (.ite (.cmp .neq (.v 8) (.ki .i64 0))
       (.ret [(.kb false)])
       (.ite (.cmp .eql (.v 9) (.ki .i64 (-1)))
        (.ret [(.kb true)])
        (.ite (.cmp .geq (.v 9) (.ki .i64 1))
         (.ret [(.cmp .leq (.v 9) (.ki .i64 268435456))])
         (.ret [(.kb false)]))))
      (.ite (.cmp .eql (.v 9) (.ki .i64 (-1)))
       (.ret [(.kb true)])
       (.ite (.cmp .geq (.v 9) (.ki .i64 1))
        (.ret [(.cmp .leq (.v 9) (.ki .i64 268435456))])
        (.ret [(.kb false)])))))))))
theorem ptim_ent : EntOK Try.prog [] ⟨76, [(.g [(.int .i64), (.int .i64), (.int .i64), (.int .i64), (.int .i64), .str, (.int .i64), (.int .i64), (.int .i64), (.int .i64), (.lst [(.int .i64), (.int .i64)])])], [(.c .bool)], vcptim⟩ :=
  ent_of_gen hP Try.func76 rfl (by decide) (sg := sgs) (by kernel_rfl)
def vccyc : VC := (.ite (.cmp .eql (.v 0) (.ki .i64 3))
 (.ret [(.ki .i64 10080)])
 (.ite (.cmp .eql (.v 0) (.ki .i64 2))
  (.ret [(.ki .i64 1440)])
  (.ret [(.ki .i64 0)])))
theorem cyc_ent : EntOK Try.prog [] ⟨84, [(.c (.int .i64))], [(.c (.int .i64))], vccyc⟩ :=
  ent_of_gen hP Try.func84 rfl (by decide) (sg := sgs) (by kernel_rfl)
def vcperi : VC := (.join [(.int .i64)]
 (.cal 84 [(.c (.int .i64))] [(.v 3)] [(.c (.int .i64))] 11
  (.ite (.cmp .gtr (.v 11) (.ki .i64 0))
   (.back 0 [(.ar .sub .i64 (.v 11) (.ki .i64 1))])
   (.back 0 [(.ki .i64 268435456)])))
 (.loop [(.int .i64), (.int .i64)] [(.ki .i64 0), (.ki .i64 0)]
  (.ite (.cmp .lss (.v 13) (.len (.v 10)))
   (.ev [(.ob (.cmp .geq (.v 13) (.ki .i64 0))), (.ob (.cmp .lss (.v 13) (.len (.v 10))))]
    (.join []
     (.ite (.cmp .eql (.v 13) (.ki .i64 0))
      (.ite (.cmp .neq (.cell (.get (.v 10) (.v 13)) 0) (.ki .i64 0))
       (.ret [(.ki .i64 1)])
       (.back 2 []))
      (.back 2 []))
     (.join []
      (.ite (.cmp .gtr (.v 13) (.ki .i64 0))
       (.ev [(.ob (.cmp .geq (.ar .sub .i64 (.v 13) (.ki .i64 1)) (.ki .i64 0))), (.ob (.cmp .lss (.ar .sub .i64 (.v 13) (.ki .i64 1)) (.len (.v 10))))]
        (.ite (.cmp .leq (.cell (.get (.v 10) (.v 13)) 0) (.cell (.get (.v 10) (.ar .sub .i64 (.v 13) (.ki .i64 1))) 0))
         (.ret [(.ki .i64 1)])
         (.ite (.cmp .gtr (.cell (.get (.v 10) (.v 13)) 0) (.v 11))
          (.ret [(.ki .i64 1)])
          (.back 3 []))))
       (.back 3 []))
      (.ite (.cmp .lss (.cell (.get (.v 10) (.v 13)) 1) (.ki .i64 0))
       (.ret [(.ki .i64 2)])
       (.ite (.cmp .gtr (.cell (.get (.v 10) (.v 13)) 1) (.ki .i64 1048576))
        (.ret [(.ki .i64 2)])
        (.back 1 [(.v 12), (.ar .add .i64 (.v 13) (.ki .i64 1))]))))))
   (.ret [(.ki .i64 0)]))))
def hdperi : List HdL := [{ kind := false, id := 5, nv := 11, tmps := [(.v (.g [(.d (.int .i64) (.v 0)), (.d (.int .i64) (.v 1)), (.d (.int .i64) (.v 2)), (.d (.int .i64) (.v 3)), (.d (.int .i64) (.v 4)), (.d .str (.v 5)), (.d (.int .i64) (.v 6)), (.d (.int .i64) (.v 7)), (.d (.int .i64) (.v 8)), (.d (.int .i64) (.v 9)), (.d (.lst [(.int .i64), (.int .i64)]) (.v 10))])), (.v (.c (.ptr 0 0))), (.v (.c (.d (.int .i64) (.ki .i64 0)))), (.v (.c (.d (.int .i64) (.v 11)))) ] ++ an 54, blks := [(.cells [(.d (.int .i64) (.v 0)), (.d (.int .i64) (.v 1)), (.d (.int .i64) (.v 2)), (.d (.int .i64) (.v 3)), (.d (.int .i64) (.v 4)), (.d .str (.v 5)), (.d (.int .i64) (.v 6)), (.d (.int .i64) (.v 7)), (.d (.int .i64) (.v 8)), (.d (.int .i64) (.v 9)), (.d (.lst [(.int .i64), (.int .i64)]) (.v 10))])], shs := [(.int .i64)], rs := [], bs := [], fz := [] },
{ kind := true, id := 6, nv := 12, tmps := [(.v (.g [(.d (.int .i64) (.v 0)), (.d (.int .i64) (.v 1)), (.d (.int .i64) (.v 2)), (.d (.int .i64) (.v 3)), (.d (.int .i64) (.v 4)), (.d .str (.v 5)), (.d (.int .i64) (.v 6)), (.d (.int .i64) (.v 7)), (.d (.int .i64) (.v 8)), (.d (.int .i64) (.v 9)), (.d (.lst [(.int .i64), (.int .i64)]) (.v 10))])), (.v (.c (.ptr 0 0))), (.v (.c (.d (.int .i64) (.v 12)))), (.v (.c (.d (.int .i64) (.v 11)))) ] ++ an 10 ++ [(.v (.c (.ptr 0 10))), (.v (.c (.d (.lst [(.int .i64), (.int .i64)]) (.v 10)))), (.v (.c (.d (.int .i64) (.len (.v 10))))), (.v (.c (.d (.int .i64) (.v 13)))) ] ++ an 40, blks := [(.cells [(.d (.int .i64) (.v 0)), (.d (.int .i64) (.v 1)), (.d (.int .i64) (.v 2)), (.d (.int .i64) (.v 3)), (.d (.int .i64) (.v 4)), (.d .str (.v 5)), (.d (.int .i64) (.v 6)), (.d (.int .i64) (.v 7)), (.d (.int .i64) (.v 8)), (.d (.int .i64) (.v 9)), (.d (.lst [(.int .i64), (.int .i64)]) (.v 10))])], shs := [(.int .i64), (.int .i64)], rs := [], bs := [], fz := [] },
{ kind := false, id := 10, nv := 14, tmps := [(.v (.g [(.d (.int .i64) (.v 0)), (.d (.int .i64) (.v 1)), (.d (.int .i64) (.v 2)), (.d (.int .i64) (.v 3)), (.d (.int .i64) (.v 4)), (.d .str (.v 5)), (.d (.int .i64) (.v 6)), (.d (.int .i64) (.v 7)), (.d (.int .i64) (.v 8)), (.d (.int .i64) (.v 9)), (.d (.lst [(.int .i64), (.int .i64)]) (.v 10))])), (.v (.c (.ptr 0 0))), (.v (.c (.d (.int .i64) (.v 12)))), (.v (.c (.d (.int .i64) (.v 11)))), (.v (.c .any)), (.v (.c (.d (.int .i64) (.v 13)))), (.v (.c (.ptr 1 0))) ] ++ an 7 ++ [(.v (.c (.ptr 0 10))), (.v (.c (.d (.lst [(.int .i64), (.int .i64)]) (.v 10)))), (.v (.c (.d (.int .i64) (.len (.v 10))))), (.v (.c (.d (.int .i64) (.v 13)))), (.v (.c (.d .bool (.cmp .lss (.v 13) (.len (.v 10)))))), (.v (.c (.d (.int .i64) (.v 13)))), (.v (.c (.elem [(.int .i64), (.int .i64)] (.get (.v 10) (.v 13)) 0))), (.v (.g [(.d (.int .i64) (.cell (.get (.v 10) (.v 13)) 0)), (.d (.int .i64) (.cell (.get (.v 10) (.v 13)) 1))])) ] ++ an 36, blks := [(.cells [(.d (.int .i64) (.v 0)), (.d (.int .i64) (.v 1)), (.d (.int .i64) (.v 2)), (.d (.int .i64) (.v 3)), (.d (.int .i64) (.v 4)), (.d .str (.v 5)), (.d (.int .i64) (.v 6)), (.d (.int .i64) (.v 7)), (.d (.int .i64) (.v 8)), (.d (.int .i64) (.v 9)), (.d (.lst [(.int .i64), (.int .i64)]) (.v 10))]), (.cells [(.d (.int .i64) (.cell (.get (.v 10) (.v 13)) 0)), (.d (.int .i64) (.cell (.get (.v 10) (.v 13)) 1))])], shs := [], rs := [], bs := [], fz := [] },
{ kind := false, id := 12, nv := 14, tmps := [(.v (.g [(.d (.int .i64) (.v 0)), (.d (.int .i64) (.v 1)), (.d (.int .i64) (.v 2)), (.d (.int .i64) (.v 3)), (.d (.int .i64) (.v 4)), (.d .str (.v 5)), (.d (.int .i64) (.v 6)), (.d (.int .i64) (.v 7)), (.d (.int .i64) (.v 8)), (.d (.int .i64) (.v 9)), (.d (.lst [(.int .i64), (.int .i64)]) (.v 10))])), (.v (.c (.ptr 0 0))), (.v (.c (.d (.int .i64) (.v 12)))), (.v (.c (.d (.int .i64) (.v 11)))), (.v (.c .any)), (.v (.c (.d (.int .i64) (.v 13)))), (.v (.c (.ptr 1 0))) ] ++ an 7 ++ [(.v (.c (.ptr 0 10))), (.v (.c (.d (.lst [(.int .i64), (.int .i64)]) (.v 10)))), (.v (.c (.d (.int .i64) (.len (.v 10))))), (.v (.c (.d (.int .i64) (.v 13)))), (.v (.c (.d .bool (.cmp .lss (.v 13) (.len (.v 10)))))), (.v (.c (.d (.int .i64) (.v 13)))), (.v (.c (.elem [(.int .i64), (.int .i64)] (.get (.v 10) (.v 13)) 0))), (.v (.g [(.d (.int .i64) (.cell (.get (.v 10) (.v 13)) 0)), (.d (.int .i64) (.cell (.get (.v 10) (.v 13)) 1))])) ] ++ an 36, blks := [(.cells [(.d (.int .i64) (.v 0)), (.d (.int .i64) (.v 1)), (.d (.int .i64) (.v 2)), (.d (.int .i64) (.v 3)), (.d (.int .i64) (.v 4)), (.d .str (.v 5)), (.d (.int .i64) (.v 6)), (.d (.int .i64) (.v 7)), (.d (.int .i64) (.v 8)), (.d (.int .i64) (.v 9)), (.d (.lst [(.int .i64), (.int .i64)]) (.v 10))]), (.cells [(.d (.int .i64) (.cell (.get (.v 10) (.v 13)) 0)), (.d (.int .i64) (.cell (.get (.v 10) (.v 13)) 1))])], shs := [], rs := [], bs := [], fz := [] }]
theorem peri_ent : EntOK Try.prog [] ⟨77, [(.g [(.int .i64), (.int .i64), (.int .i64), (.int .i64), (.int .i64), .str, (.int .i64), (.int .i64), (.int .i64), (.int .i64), (.lst [(.int .i64), (.int .i64)])])], [(.c (.int .i64))], vcperi⟩ :=
  ent_of_genH hP Try.func77 rfl (by decide) (jn := [(5,[3]),(10,[2,5,6]),(12,[2,6])]) (hd := hdperi) (sg := sgs) (by kernel_rfl)
def vcpval : VC := (.cal 75 [(.g [(.int .i64), (.int .i64), (.int .i64), (.int .i64), (.int .i64), .str, (.int .i64), (.int .i64), (.int .i64), (.int .i64), (.lst [(.int .i64), (.int .i64)])])] [(.rc (.cons (.v 0) (.cons (.v 1) (.cons (.v 2) (.cons (.v 3) (.cons (.v 4) (.cons (.v 5) (.cons (.v 6) (.cons (.v 7) (.cons (.v 8) (.cons (.v 9) (.cons (.v 10) .nil))))))))))))] [(.c .bool)] 11
 (.ite (.v 11)
  (.ite (.cmp .eql (.v 2) (.ki .i64 3))
   (.cal 54 [(.c .str)] [(.v 5)] [(.c .bool)] 12
    (.ite (.v 12)
     (.ite (.cmp .eql (.v 4) (.ki .i64 0))
      (.ret [(.ki .i64 1)])
      (.ite (.cmp .eql (.v 2) (.ki .i64 1))
       (.ite (.cmp .eql (.v 3) (.ki .i64 4))
        (.ret [(.ki .i64 1)])
        (.cal 76 [(.g [(.int .i64), (.int .i64), (.int .i64), (.int .i64), (.int .i64), .str, (.int .i64), (.int .i64), (.int .i64), (.int .i64), (.lst [(.int .i64), (.int .i64)])])] [(.rc (.cons (.v 0) (.cons (.v 1) (.cons (.v 2) (.cons (.v 3) (.cons (.v 4) (.cons (.v 5) (.cons (.v 6) (.cons (.v 7) (.cons (.v 8) (.cons (.v 9) (.cons (.v 10) .nil))))))))))))] [(.c .bool)] 13
         (.ite (.v 13)
          (.ite (.cmp .gtr (.len (.v 10)) (.ki .i64 24))
           (.ret [(.ki .i64 3)])
           (.ite (.cmp .eql (.len (.v 10)) (.ki .i64 0))
            (.ret [(.ki .i64 1)])
            (.cal 77 [(.g [(.int .i64), (.int .i64), (.int .i64), (.int .i64), (.int .i64), .str, (.int .i64), (.int .i64), (.int .i64), (.int .i64), (.lst [(.int .i64), (.int .i64)])])] [(.rc (.cons (.v 0) (.cons (.v 1) (.cons (.v 2) (.cons (.v 3) (.cons (.v 4) (.cons (.v 5) (.cons (.v 6) (.cons (.v 7) (.cons (.v 8) (.cons (.v 9) (.cons (.v 10) .nil))))))))))))] [(.c (.int .i64))] 14
             (.ret [(.v 14)]))))
          (.ret [(.ki .i64 2)]))))
       (.cal 76 [(.g [(.int .i64), (.int .i64), (.int .i64), (.int .i64), (.int .i64), .str, (.int .i64), (.int .i64), (.int .i64), (.int .i64), (.lst [(.int .i64), (.int .i64)])])] [(.rc (.cons (.v 0) (.cons (.v 1) (.cons (.v 2) (.cons (.v 3) (.cons (.v 4) (.cons (.v 5) (.cons (.v 6) (.cons (.v 7) (.cons (.v 8) (.cons (.v 9) (.cons (.v 10) .nil))))))))))))] [(.c .bool)] 13
        (.ite (.v 13)
         (.ite (.cmp .gtr (.len (.v 10)) (.ki .i64 24))
          (.ret [(.ki .i64 3)])
          (.ite (.cmp .eql (.len (.v 10)) (.ki .i64 0))
           (.ret [(.ki .i64 1)])
           (.cal 77 [(.g [(.int .i64), (.int .i64), (.int .i64), (.int .i64), (.int .i64), .str, (.int .i64), (.int .i64), (.int .i64), (.int .i64), (.lst [(.int .i64), (.int .i64)])])] [(.rc (.cons (.v 0) (.cons (.v 1) (.cons (.v 2) (.cons (.v 3) (.cons (.v 4) (.cons (.v 5) (.cons (.v 6) (.cons (.v 7) (.cons (.v 8) (.cons (.v 9) (.cons (.v 10) .nil))))))))))))] [(.c (.int .i64))] 14
            (.ret [(.v 14)]))))
         (.ret [(.ki .i64 2)])))))
     (.ret [(.ki .i64 4)])))
   (.ite (.seq (.v 5) (.ks ⟨List.toArray []⟩))
    (.ite (.cmp .eql (.v 2) (.ki .i64 1))
     (.ite (.cmp .eql (.v 3) (.ki .i64 4))
      (.ret [(.ki .i64 1)])
      (.cal 76 [(.g [(.int .i64), (.int .i64), (.int .i64), (.int .i64), (.int .i64), .str, (.int .i64), (.int .i64), (.int .i64), (.int .i64), (.lst [(.int .i64), (.int .i64)])])] [(.rc (.cons (.v 0) (.cons (.v 1) (.cons (.v 2) (.cons (.v 3) (.cons (.v 4) (.cons (.v 5) (.cons (.v 6) (.cons (.v 7) (.cons (.v 8) (.cons (.v 9) (.cons (.v 10) .nil))))))))))))] [(.c .bool)] 12
       (.ite (.v 12)
        (.ite (.cmp .gtr (.len (.v 10)) (.ki .i64 24))
         (.ret [(.ki .i64 3)])
         (.ite (.cmp .eql (.len (.v 10)) (.ki .i64 0))
          (.ret [(.ki .i64 1)])
          (.cal 77 [(.g [(.int .i64), (.int .i64), (.int .i64), (.int .i64), (.int .i64), .str, (.int .i64), (.int .i64), (.int .i64), (.int .i64), (.lst [(.int .i64), (.int .i64)])])] [(.rc (.cons (.v 0) (.cons (.v 1) (.cons (.v 2) (.cons (.v 3) (.cons (.v 4) (.cons (.v 5) (.cons (.v 6) (.cons (.v 7) (.cons (.v 8) (.cons (.v 9) (.cons (.v 10) .nil))))))))))))] [(.c (.int .i64))] 13
           (.ret [(.v 13)]))))
        (.ret [(.ki .i64 2)]))))
     (.cal 76 [(.g [(.int .i64), (.int .i64), (.int .i64), (.int .i64), (.int .i64), .str, (.int .i64), (.int .i64), (.int .i64), (.int .i64), (.lst [(.int .i64), (.int .i64)])])] [(.rc (.cons (.v 0) (.cons (.v 1) (.cons (.v 2) (.cons (.v 3) (.cons (.v 4) (.cons (.v 5) (.cons (.v 6) (.cons (.v 7) (.cons (.v 8) (.cons (.v 9) (.cons (.v 10) .nil))))))))))))] [(.c .bool)] 12
      (.ite (.v 12)
       (.ite (.cmp .gtr (.len (.v 10)) (.ki .i64 24))
        (.ret [(.ki .i64 3)])
        (.ite (.cmp .eql (.len (.v 10)) (.ki .i64 0))
         (.ret [(.ki .i64 1)])
         (.cal 77 [(.g [(.int .i64), (.int .i64), (.int .i64), (.int .i64), (.int .i64), .str, (.int .i64), (.int .i64), (.int .i64), (.int .i64), (.lst [(.int .i64), (.int .i64)])])] [(.rc (.cons (.v 0) (.cons (.v 1) (.cons (.v 2) (.cons (.v 3) (.cons (.v 4) (.cons (.v 5) (.cons (.v 6) (.cons (.v 7) (.cons (.v 8) (.cons (.v 9) (.cons (.v 10) .nil))))))))))))] [(.c (.int .i64))] 13
          (.ret [(.v 13)]))))
       (.ret [(.ki .i64 2)]))))
    (.ret [(.ki .i64 4)])))
  (.ret [(.ki .i64 2)])))
theorem pval_ent : EntOK Try.prog [] ⟨55, [(.g [(.int .i64), (.int .i64), (.int .i64), (.int .i64), (.int .i64), .str, (.int .i64), (.int .i64), (.int .i64), (.int .i64), (.lst [(.int .i64), (.int .i64)])])], [(.c (.int .i64))], vcpval⟩ :=
  ent_of_gen hP Try.func55 rfl (by decide) (sg := sgs) (by kernel_rfl)
def vctval : VC := (.cal 54 [(.c .str)] [(.v 0)] [(.c .bool)] 6
 (.ite (.v 6)
  (.join []
   (.ite (.seq (.v 1) (.ks ⟨List.toArray []⟩))
    (.ite (.seq (.v 2) (.ks ⟨List.toArray []⟩))
     (.back 0 [])
     (.cal 54 [(.c .str)] [(.v 2)] [(.c .bool)] 7
      (.ite (.v 7)
       (.back 0 [])
       (.ret [(.ki .i64 4)]))))
    (.cal 54 [(.c .str)] [(.v 1)] [(.c .bool)] 7
     (.ite (.v 7)
      (.ite (.seq (.v 2) (.ks ⟨List.toArray []⟩))
       (.back 0 [])
       (.cal 54 [(.c .str)] [(.v 2)] [(.c .bool)] 8
        (.ite (.v 8)
         (.back 0 [])
         (.ret [(.ki .i64 4)]))))
      (.ret [(.ki .i64 4)]))))
   (.ite (.cmp .lss (.v 3) (.ki .i64 1))
    (.ret [(.ki .i64 2)])
    (.ite (.cmp .gtr (.v 3) (.ki .i64 3))
     (.ret [(.ki .i64 2)])
     (.ite (.cmp .lss (.v 4) (.ki .i64 1))
      (.ret [(.ki .i64 2)])
      (.ite (.cmp .gtr (.v 4) (.ki .i64 3))
       (.ret [(.ki .i64 2)])
       (.ite (.cmp .lss (.v 5) (.ki .i64 (-1)))
        (.ret [(.ki .i64 2)])
        (.ite (.cmp .gtr (.v 5) (.ki .i64 268435456))
         (.ret [(.ki .i64 2)])
         (.ret [(.ki .i64 0)]))))))))
  (.ret [(.ki .i64 4)])))
def hdtval : List HdL := [{ kind := false, id := 5, nv := 7, tmps := [(.v (.g [(.d .str (.v 0)), (.d .str (.v 1)), (.d .str (.v 2)), (.d (.int .i64) (.v 3)), (.d (.int .i64) (.v 4)), (.d (.int .i64) (.v 5))])), (.v (.c (.ptr 0 0))), (.v (.c .any)), (.v (.c (.ptr 0 0))), (.v (.c (.d .str (.v 0)))), (.v (.c (.d .bool (.v 6)))), (.v (.c (.d .bool (.not (.v 6))))) ] ++ an 44, blks := [(.cells [(.d .str (.v 0)), (.d .str (.v 1)), (.d .str (.v 2)), (.d (.int .i64) (.v 3)), (.d (.int .i64) (.v 4)), (.d (.int .i64) (.v 5))])], shs := [], rs := [], bs := [], fz := [] }]
theorem tval_ent : EntOK Try.prog [] ⟨78, [(.g [.str, .str, .str, (.int .i64), (.int .i64), (.int .i64)])], [(.c (.int .i64))], vctval⟩ :=
  ent_of_genH hP Try.func78 rfl (by decide) (jn := [(5,[1000000])]) (hd := hdtval) (sg := sgs) (by kernel_rfl)
def vcentry : VC := (.ite (.cmp .neq (.v 4) (.ki .i64 0))
 (.cal 78 [(.g [.str, .str, .str, (.int .i64), (.int .i64), (.int .i64)])] [(.rc (.cons (.v 0) (.cons (.v 1) (.cons (.v 2) (.cons (.v 3) (.cons (.v 4) (.cons (.v 5) .nil)))))))] [(.c (.int .i64))] 6
  (.ret [(.v 6)]))
 (.cal 54 [(.c .str)] [(.v 0)] [(.c .bool)] 6
  (.ite (.v 6)
   (.ite (.and (.seq (.v 0) (.v 0)) (.and (.seq (.v 1) (.ks ⟨List.toArray []⟩)) (.and (.seq (.v 2) (.ks ⟨List.toArray []⟩)) (.and (.cmp .eql (.v 3) (.ki .i64 0)) (.and (.cmp .eql (.v 4) (.ki .i64 0)) (.and (.cmp .eql (.v 5) (.ki .i64 0)) (.kb true)))))))
    (.ret [(.ki .i64 0)])
    (.ret [(.ki .i64 1)]))
   (.ret [(.ki .i64 4)]))))
theorem entry_ent : EntOK Try.prog [] ⟨56, [(.g [.str, .str, .str, (.int .i64), (.int .i64), (.int .i64)])], [(.c (.int .i64))], vcentry⟩ :=
  ent_of_gen hP Try.func56 rfl (by decide) (sg := sgs) (by kernel_rfl)
def vcuic : VC := (.ite (.cmp .eql (.v 0) (.ki .i64 1))
 (.ret [(.ki .i64 128), (.kb true)])
 (.ite (.cmp .eql (.v 0) (.ki .i64 2))
  (.ret [(.ki .i64 0), (.kb true)])
  (.ite (.cmp .eql (.v 0) (.ki .i64 3))
   (.ret [(.ki .i64 3), (.kb true)])
   (.ite (.cmp .eql (.v 0) (.ki .i64 4))
    (.ret [(.ki .i64 65), (.kb true)])
    (.ite (.cmp .eql (.v 0) (.ki .i64 16))
     (.ret [(.ki .i64 65), (.kb true)])
     (.ite (.cmp .eql (.v 0) (.ki .i64 5))
      (.ret [(.ki .i64 895), (.kb true)])
      (.ite (.cmp .eql (.v 0) (.ki .i64 6))
       (.ret [(.ki .i64 2), (.kb true)])
       (.ite (.cmp .eql (.v 0) (.ki .i64 7))
        (.ret [(.ki .i64 2), (.kb true)])
        (.ite (.cmp .eql (.v 0) (.ki .i64 8))
         (.ret [(.ki .i64 17), (.kb true)])
         (.ite (.cmp .eql (.v 0) (.ki .i64 20))
          (.ret [(.ki .i64 17), (.kb true)])
          (.ite (.cmp .eql (.v 0) (.ki .i64 11))
           (.ret [(.ki .i64 217), (.kb true)])
           (.ite (.cmp .eql (.v 0) (.ki .i64 12))
            (.ret [(.ki .i64 16), (.kb true)])
            (.ite (.cmp .eql (.v 0) (.ki .i64 14))
             (.ret [(.ki .i64 16), (.kb true)])
             (.ite (.cmp .eql (.v 0) (.ki .i64 13))
              (.ret [(.ki .i64 1024), (.kb true)])
              (.ite (.cmp .eql (.v 0) (.ki .i64 15))
               (.ret [(.ki .i64 2068), (.kb true)])
               (.ite (.cmp .eql (.v 0) (.ki .i64 17))
                (.ret [(.ki .i64 32), (.kb true)])
                (.ite (.cmp .eql (.v 0) (.ki .i64 18))
                 (.ret [(.ki .i64 28), (.kb true)])
                 (.ite (.cmp .eql (.v 0) (.ki .i64 19))
                  (.ret [(.ki .i64 8), (.kb true)])
                  (.ret [(.ki .i64 0), (.kb false)])))))))))))))))))))
theorem uic_ent : EntOK Try.prog [] ⟨53, [(.c (.int .i64))], [(.c (.int .i64)), (.c .bool)], vcuic⟩ :=
  ent_of_gen hP Try.func53 rfl (by decide) (sg := sgs) (by kernel_rfl)
def vcusd : VC := (.cal 53 [(.c (.int .i64))] [(.v 1)] [(.c (.int .i64)), (.c .bool)] 2
 (.ite (.cmp .eql (.v 0) (.ki .i64 2))
  (.ret [(.ki .i64 154), (.v 3)])
  (.ite (.cmp .eql (.v 0) (.ki .i64 3))
   (.ret [(.ki .i64 2), (.v 3)])
   (.ret [(.v 2), (.v 3)]))))
theorem usd_ent : EntOK Try.prog [] ⟨30, [(.c (.int .i64)), (.c (.int .i64))], [(.c (.int .i64)), (.c .bool)], vcusd⟩ :=
  ent_of_gen hP Try.func30 rfl (by decide) (sg := sgs) (by kernel_rfl)
def vcpres : VC := (.join [.bool]
 (.ite (.cmp .neq (.v 13) (.ki .i64 0))
  (.back 0 [(.kb true)])
  (.ite (.cmp .neq (.v 14) (.ki .i64 0))
   (.back 0 [(.kb true)])
   (.ite (.cmp .neq (.v 15) (.ki .i64 0))
    (.back 0 [(.kb true)])
    (.ite (.cmp .neq (.v 16) (.ki .i64 0))
     (.back 0 [(.kb true)])
     (.ite (.cmp .neq (.v 17) (.ki .i64 0))
      (.back 0 [(.kb true)])
      (.ite (.seq (.v 18) (.ks ⟨List.toArray []⟩))
       (.ite (.and (.cmp .eql (.v 19) (.ki .i64 0)) (.and (.cmp .eql (.v 20) (.ki .i64 0)) (.kb true)))
        (.ite (.cmp .neq (.v 21) (.ki .i64 0))
         (.back 0 [(.kb true)])
         (.ite (.cmp .neq (.v 22) (.ki .i64 0))
          (.back 0 [(.kb true)])
          (.back 0 [(.cmp .gtr (.len (.v 23)) (.ki .i64 0))])))
        (.back 0 [(.kb true)]))
       (.back 0 [(.kb true)])))))))
 (.loop [(.int .i64), (.int .i64)] [(.ki .i64 0), (.ki .i64 0)]
  (.ite (.cmp .lss (.v 27) (.ki .i64 12))
   (.ev [(.ob (.cmp .geq (.v 27) (.ki .i64 0))), (.ob (.cmp .lss (.v 27) (.ki .i64 12)))]
    (.ite (.get (.cons (.cmp .neq (.v 3) (.ki .i64 0)) (.cons (.cmp .neq (.v 4) (.ki .i64 0)) (.cons (.cmp .neq (.v 5) (.ki .i64 0)) (.cons (.cmp .neq (.v 6) (.ki .i64 0)) (.cons (.cmp .neq (.v 7) (.ki .i64 0)) (.cons (.not (.seq (.v 8) (.ks ⟨List.toArray []⟩))) (.cons (.not (.seq (.v 9) (.ks ⟨List.toArray []⟩))) (.cons (.not (.seq (.v 10) (.ks ⟨List.toArray []⟩))) (.cons (.v 11) (.cons (.cmp .gtr (.len (.v 12)) (.ki .i64 0)) (.cons (.v 25) (.cons (.cmp .gtr (.len (.v 24)) (.ki .i64 0)) .nil)))))))))))) (.v 27))
     (.ev [(.ob (.cmp .geq (.v 27) (.ki .i64 0)))]
      (.back 1 [(.ar .or .i64 (.v 26) (.shf .shl .i64 (.ki .i64 1) (.v 27))), (.ar .add .i64 (.v 27) (.ki .i64 1))]))
     (.back 1 [(.v 26), (.ar .add .i64 (.v 27) (.ki .i64 1))])))
   (.ret [(.v 26)]))))
def hdpres : List HdL := [{ kind := false, id := 3, nv := 25, tmps := [(.v (.g [(.d (.int .i64) (.v 0)), (.d (.int .i64) (.v 1)), (.d (.int .i64) (.v 2)), (.d (.int .i64) (.v 3)), (.d (.int .i64) (.v 4)), (.d (.int .i64) (.v 5)), (.d (.int .i64) (.v 6)), (.d (.int .i64) (.v 7)), (.d .str (.v 8)), (.d .str (.v 9)), (.d .str (.v 10)), (.d .bool (.v 11)), (.d (.lst [(.int .i64), (.int .i64)]) (.v 12)), (.d (.int .i64) (.v 13)), (.d (.int .i64) (.v 14)), (.d (.int .i64) (.v 15)), (.d (.int .i64) (.v 16)), (.d (.int .i64) (.v 17)), (.d .str (.v 18)), (.d (.int .i64) (.v 19)), (.d (.int .i64) (.v 20)), (.d (.int .i64) (.v 21)), (.d (.int .i64) (.v 22)), (.d (.lst [(.int .i64), (.int .i64)]) (.v 23)), (.d (.lst [.str, .str, .str, (.int .i64), (.int .i64), (.int .i64)]) (.v 24))])), (.v (.c (.ptr 0 0))), (.v (.c (.d (.int .i64) (.ki .i64 0)))), (.v (.c (.ptr 1 0))), (.v (.c (.d .bool (.v 25)))), (.v (.c .any)), (.v (.c .any)), (.v (.c .any)), (.v (.c (.ptr 0 13))), (.v (.g [(.d (.int .i64) (.v 13)), (.d (.int .i64) (.v 14)), (.d (.int .i64) (.v 15)), (.d (.int .i64) (.v 16)), (.d (.int .i64) (.v 17)), (.d .str (.v 18)), (.d (.int .i64) (.v 19)), (.d (.int .i64) (.v 20)), (.d (.int .i64) (.v 21)), (.d (.int .i64) (.v 22)), (.d (.lst [(.int .i64), (.int .i64)]) (.v 23))])) ] ++ an 97, blks := [(.cells [(.d (.int .i64) (.v 0)), (.d (.int .i64) (.v 1)), (.d (.int .i64) (.v 2)), (.d (.int .i64) (.v 3)), (.d (.int .i64) (.v 4)), (.d (.int .i64) (.v 5)), (.d (.int .i64) (.v 6)), (.d (.int .i64) (.v 7)), (.d .str (.v 8)), (.d .str (.v 9)), (.d .str (.v 10)), (.d .bool (.v 11)), (.d (.lst [(.int .i64), (.int .i64)]) (.v 12)), (.d (.int .i64) (.v 13)), (.d (.int .i64) (.v 14)), (.d (.int .i64) (.v 15)), (.d (.int .i64) (.v 16)), (.d (.int .i64) (.v 17)), (.d .str (.v 18)), (.d (.int .i64) (.v 19)), (.d (.int .i64) (.v 20)), (.d (.int .i64) (.v 21)), (.d (.int .i64) (.v 22)), (.d (.lst [(.int .i64), (.int .i64)]) (.v 23)), (.d (.lst [.str, .str, .str, (.int .i64), (.int .i64), (.int .i64)]) (.v 24))]), (.cells [(.d (.int .i64) (.v 13)), (.d (.int .i64) (.v 14)), (.d (.int .i64) (.v 15)), (.d (.int .i64) (.v 16)), (.d (.int .i64) (.v 17)), (.d .str (.v 18)), (.d (.int .i64) (.v 19)), (.d (.int .i64) (.v 20)), (.d (.int .i64) (.v 21)), (.d (.int .i64) (.v 22)), (.d (.lst [(.int .i64), (.int .i64)]) (.v 23))])], shs := [.bool], rs := [], bs := [], fz := [] },
{ kind := true, id := 5, nv := 26, tmps := [(.v (.g [(.d (.int .i64) (.v 0)), (.d (.int .i64) (.v 1)), (.d (.int .i64) (.v 2)), (.d (.int .i64) (.v 3)), (.d (.int .i64) (.v 4)), (.d (.int .i64) (.v 5)), (.d (.int .i64) (.v 6)), (.d (.int .i64) (.v 7)), (.d .str (.v 8)), (.d .str (.v 9)), (.d .str (.v 10)), (.d .bool (.v 11)), (.d (.lst [(.int .i64), (.int .i64)]) (.v 12)), (.d (.int .i64) (.v 13)), (.d (.int .i64) (.v 14)), (.d (.int .i64) (.v 15)), (.d (.int .i64) (.v 16)), (.d (.int .i64) (.v 17)), (.d .str (.v 18)), (.d (.int .i64) (.v 19)), (.d (.int .i64) (.v 20)), (.d (.int .i64) (.v 21)), (.d (.int .i64) (.v 22)), (.d (.lst [(.int .i64), (.int .i64)]) (.v 23)), (.d (.lst [.str, .str, .str, (.int .i64), (.int .i64), (.int .i64)]) (.v 24))])), (.v (.c (.ptr 0 0))), (.v (.c (.d (.int .i64) (.ki .i64 0)))), (.v (.c (.ptr 1 0))), (.v (.c (.d .bool (.v 25)))), (.v (.c (.d (.int .i64) (.v 26)))), (.v (.c .any)), (.v (.c .any)), (.v (.c (.ptr 0 13))), (.v (.g [(.d (.int .i64) (.v 13)), (.d (.int .i64) (.v 14)), (.d (.int .i64) (.v 15)), (.d (.int .i64) (.v 16)), (.d (.int .i64) (.v 17)), (.d .str (.v 18)), (.d (.int .i64) (.v 19)), (.d (.int .i64) (.v 20)), (.d (.int .i64) (.v 21)), (.d (.int .i64) (.v 22)), (.d (.lst [(.int .i64), (.int .i64)]) (.v 23))])) ] ++ an 50 ++ [(.v (.c (.ptr 0 3))), (.v (.c (.d (.int .i64) (.v 3)))), (.v (.c (.d .bool (.cmp .neq (.v 3) (.ki .i64 0))))), (.v (.c (.ptr 0 4))), (.v (.c (.d (.int .i64) (.v 4)))), (.v (.c (.d .bool (.cmp .neq (.v 4) (.ki .i64 0))))), (.v (.c (.ptr 0 5))), (.v (.c (.d (.int .i64) (.v 5)))), (.v (.c (.d .bool (.cmp .neq (.v 5) (.ki .i64 0))))), (.v (.c (.ptr 0 6))), (.v (.c (.d (.int .i64) (.v 6)))), (.v (.c (.d .bool (.cmp .neq (.v 6) (.ki .i64 0))))), (.v (.c (.ptr 0 7))), (.v (.c (.d (.int .i64) (.v 7)))), (.v (.c (.d .bool (.cmp .neq (.v 7) (.ki .i64 0))))), (.v (.c (.ptr 0 8))), (.v (.c (.d .str (.v 8)))), (.v (.c (.d .bool (.not (.seq (.v 8) (.ks ⟨List.toArray []⟩)))))), (.v (.c (.ptr 0 9))), (.v (.c (.d .str (.v 9)))), (.v (.c (.d .bool (.not (.seq (.v 9) (.ks ⟨List.toArray []⟩)))))), (.v (.c (.ptr 0 10))), (.v (.c (.d .str (.v 10)))), (.v (.c (.d .bool (.not (.seq (.v 10) (.ks ⟨List.toArray []⟩)))))), (.v (.c (.ptr 0 11))), (.v (.c (.d .bool (.v 11)))), (.v (.c (.ptr 0 12))), (.v (.c (.d (.lst [(.int .i64), (.int .i64)]) (.v 12)))), (.v (.c (.d (.int .i64) (.len (.v 12))))), (.v (.c (.d .bool (.cmp .gtr (.len (.v 12)) (.ki .i64 0))))), (.v (.c (.d .bool (.v 25)))), (.v (.c (.ptr 0 24))), (.v (.c (.d (.lst [.str, .str, .str, (.int .i64), (.int .i64), (.int .i64)]) (.v 24)))), (.v (.c (.d (.int .i64) (.len (.v 24))))), (.v (.c (.d .bool (.cmp .gtr (.len (.v 24)) (.ki .i64 0))))), (.v (.g [(.d .bool (.cmp .neq (.v 3) (.ki .i64 0))), (.d .bool (.cmp .neq (.v 4) (.ki .i64 0))), (.d .bool (.cmp .neq (.v 5) (.ki .i64 0))), (.d .bool (.cmp .neq (.v 6) (.ki .i64 0))), (.d .bool (.cmp .neq (.v 7) (.ki .i64 0))), (.d .bool (.not (.seq (.v 8) (.ks ⟨List.toArray []⟩)))), (.d .bool (.not (.seq (.v 9) (.ks ⟨List.toArray []⟩)))), (.d .bool (.not (.seq (.v 10) (.ks ⟨List.toArray []⟩)))), (.d .bool (.v 11)), (.d .bool (.cmp .gtr (.len (.v 12)) (.ki .i64 0))), (.d .bool (.v 25)), (.d .bool (.cmp .gtr (.len (.v 24)) (.ki .i64 0)))])), (.v (.c (.d (.int .i64) (.v 27)))) ] ++ an 10, blks := [(.cells [(.d (.int .i64) (.v 0)), (.d (.int .i64) (.v 1)), (.d (.int .i64) (.v 2)), (.d (.int .i64) (.v 3)), (.d (.int .i64) (.v 4)), (.d (.int .i64) (.v 5)), (.d (.int .i64) (.v 6)), (.d (.int .i64) (.v 7)), (.d .str (.v 8)), (.d .str (.v 9)), (.d .str (.v 10)), (.d .bool (.v 11)), (.d (.lst [(.int .i64), (.int .i64)]) (.v 12)), (.d (.int .i64) (.v 13)), (.d (.int .i64) (.v 14)), (.d (.int .i64) (.v 15)), (.d (.int .i64) (.v 16)), (.d (.int .i64) (.v 17)), (.d .str (.v 18)), (.d (.int .i64) (.v 19)), (.d (.int .i64) (.v 20)), (.d (.int .i64) (.v 21)), (.d (.int .i64) (.v 22)), (.d (.lst [(.int .i64), (.int .i64)]) (.v 23)), (.d (.lst [.str, .str, .str, (.int .i64), (.int .i64), (.int .i64)]) (.v 24))]), (.cells [(.d (.int .i64) (.v 13)), (.d (.int .i64) (.v 14)), (.d (.int .i64) (.v 15)), (.d (.int .i64) (.v 16)), (.d (.int .i64) (.v 17)), (.d .str (.v 18)), (.d (.int .i64) (.v 19)), (.d (.int .i64) (.v 20)), (.d (.int .i64) (.v 21)), (.d (.int .i64) (.v 22)), (.d (.lst [(.int .i64), (.int .i64)]) (.v 23))])], shs := [(.int .i64), (.int .i64)], rs := [], bs := [], fz := [] }]
theorem pres_ent : EntOK Try.prog [] ⟨31, [(.g shM)], [(.c (.int .i64))], vcpres⟩ :=
  ent_of_genH hP Try.func31 rfl (by decide) (jn := [(3,[4])]) (hd := hdpres) (sg := sgs) (by kernel_rfl)
def vcmnum : VC := (.join []
 (.ite (.cmp .neq (.ar .and .i64 (.v 25) (.ki .i64 1)) (.ki .i64 0))
  (.ite (.cmp .lss (.v 3) (.ki .i64 1))
   (.ret [(.kb false)])
   (.ite (.cmp .gtr (.v 3) (.ki .i64 32))
    (.ret [(.kb false)])
    (.back 0 [])))
  (.back 0 []))
 (.join []
  (.ite (.cmp .neq (.ar .and .i64 (.v 25) (.ki .i64 2)) (.ki .i64 0))
   (.join [(.int .i64), (.int .i64)]
    (.ite (.cmp .eql (.v 0) (.ki .i64 3))
     (.back 2 [(.ki .i64 1), (.ki .i64 25)])
     (.back 2 [(.ki .i64 0), (.ki .i64 100)]))
    (.ite (.cmp .lss (.v 4) (.v 26))
     (.ret [(.kb false)])
     (.ite (.cmp .gtr (.v 4) (.v 27))
      (.ret [(.kb false)])
      (.back 1 []))))
   (.back 1 []))
  (.ite (.cmp .geq (.v 5) (.ki .i64 0))
   (.ite (.cmp .leq (.v 5) (.ki .i64 2147483647))
    (.ite (.cmp .geq (.v 6) (.ki .i64 0))
     (.ite (.cmp .leq (.v 6) (.ki .i64 268435456))
      (.ite (.cmp .geq (.v 7) (.ki .i64 0))
       (.ret [(.cmp .leq (.v 7) (.ki .i64 2147483647))])
       (.ret [(.kb false)]))
      (.ret [(.kb false)]))
     (.ret [(.kb false)]))
    (.ret [(.kb false)]))
   (.ret [(.kb false)]))))
def hdmnum : List HdL := [{ kind := false, id := 3, nv := 26, tmps := [(.v (.g [(.d (.int .i64) (.v 0)), (.d (.int .i64) (.v 1)), (.d (.int .i64) (.v 2)), (.d (.int .i64) (.v 3)), (.d (.int .i64) (.v 4)), (.d (.int .i64) (.v 5)), (.d (.int .i64) (.v 6)), (.d (.int .i64) (.v 7)), (.d .str (.v 8)), (.d .str (.v 9)), (.d .str (.v 10)), (.d .bool (.v 11)), (.d (.lst [(.int .i64), (.int .i64)]) (.v 12)), (.d (.int .i64) (.v 13)), (.d (.int .i64) (.v 14)), (.d (.int .i64) (.v 15)), (.d (.int .i64) (.v 16)), (.d (.int .i64) (.v 17)), (.d .str (.v 18)), (.d (.int .i64) (.v 19)), (.d (.int .i64) (.v 20)), (.d (.int .i64) (.v 21)), (.d (.int .i64) (.v 22)), (.d (.lst [(.int .i64), (.int .i64)]) (.v 23)), (.d (.lst [.str, .str, .str, (.int .i64), (.int .i64), (.int .i64)]) (.v 24))])), (.v (.c (.d (.int .i64) (.v 25)))), (.v (.c (.ptr 0 0))) ] ++ an 61, blks := [(.cells [(.d (.int .i64) (.v 0)), (.d (.int .i64) (.v 1)), (.d (.int .i64) (.v 2)), (.d (.int .i64) (.v 3)), (.d (.int .i64) (.v 4)), (.d (.int .i64) (.v 5)), (.d (.int .i64) (.v 6)), (.d (.int .i64) (.v 7)), (.d .str (.v 8)), (.d .str (.v 9)), (.d .str (.v 10)), (.d .bool (.v 11)), (.d (.lst [(.int .i64), (.int .i64)]) (.v 12)), (.d (.int .i64) (.v 13)), (.d (.int .i64) (.v 14)), (.d (.int .i64) (.v 15)), (.d (.int .i64) (.v 16)), (.d (.int .i64) (.v 17)), (.d .str (.v 18)), (.d (.int .i64) (.v 19)), (.d (.int .i64) (.v 20)), (.d (.int .i64) (.v 21)), (.d (.int .i64) (.v 22)), (.d (.lst [(.int .i64), (.int .i64)]) (.v 23)), (.d (.lst [.str, .str, .str, (.int .i64), (.int .i64), (.int .i64)]) (.v 24))])], shs := [], rs := [], bs := [], fz := [] },
{ kind := false, id := 9, nv := 26, tmps := [(.v (.g [(.d (.int .i64) (.v 0)), (.d (.int .i64) (.v 1)), (.d (.int .i64) (.v 2)), (.d (.int .i64) (.v 3)), (.d (.int .i64) (.v 4)), (.d (.int .i64) (.v 5)), (.d (.int .i64) (.v 6)), (.d (.int .i64) (.v 7)), (.d .str (.v 8)), (.d .str (.v 9)), (.d .str (.v 10)), (.d .bool (.v 11)), (.d (.lst [(.int .i64), (.int .i64)]) (.v 12)), (.d (.int .i64) (.v 13)), (.d (.int .i64) (.v 14)), (.d (.int .i64) (.v 15)), (.d (.int .i64) (.v 16)), (.d (.int .i64) (.v 17)), (.d .str (.v 18)), (.d (.int .i64) (.v 19)), (.d (.int .i64) (.v 20)), (.d (.int .i64) (.v 21)), (.d (.int .i64) (.v 22)), (.d (.lst [(.int .i64), (.int .i64)]) (.v 23)), (.d (.lst [.str, .str, .str, (.int .i64), (.int .i64), (.int .i64)]) (.v 24))])), (.v (.c (.d (.int .i64) (.v 25)))), (.v (.c (.ptr 0 0))) ] ++ an 61, blks := [(.cells [(.d (.int .i64) (.v 0)), (.d (.int .i64) (.v 1)), (.d (.int .i64) (.v 2)), (.d (.int .i64) (.v 3)), (.d (.int .i64) (.v 4)), (.d (.int .i64) (.v 5)), (.d (.int .i64) (.v 6)), (.d (.int .i64) (.v 7)), (.d .str (.v 8)), (.d .str (.v 9)), (.d .str (.v 10)), (.d .bool (.v 11)), (.d (.lst [(.int .i64), (.int .i64)]) (.v 12)), (.d (.int .i64) (.v 13)), (.d (.int .i64) (.v 14)), (.d (.int .i64) (.v 15)), (.d (.int .i64) (.v 16)), (.d (.int .i64) (.v 17)), (.d .str (.v 18)), (.d (.int .i64) (.v 19)), (.d (.int .i64) (.v 20)), (.d (.int .i64) (.v 21)), (.d (.int .i64) (.v 22)), (.d (.lst [(.int .i64), (.int .i64)]) (.v 23)), (.d (.lst [.str, .str, .str, (.int .i64), (.int .i64), (.int .i64)]) (.v 24))])], shs := [], rs := [], bs := [], fz := [] },
{ kind := false, id := 7, nv := 26, tmps := [(.v (.g [(.d (.int .i64) (.v 0)), (.d (.int .i64) (.v 1)), (.d (.int .i64) (.v 2)), (.d (.int .i64) (.v 3)), (.d (.int .i64) (.v 4)), (.d (.int .i64) (.v 5)), (.d (.int .i64) (.v 6)), (.d (.int .i64) (.v 7)), (.d .str (.v 8)), (.d .str (.v 9)), (.d .str (.v 10)), (.d .bool (.v 11)), (.d (.lst [(.int .i64), (.int .i64)]) (.v 12)), (.d (.int .i64) (.v 13)), (.d (.int .i64) (.v 14)), (.d (.int .i64) (.v 15)), (.d (.int .i64) (.v 16)), (.d (.int .i64) (.v 17)), (.d .str (.v 18)), (.d (.int .i64) (.v 19)), (.d (.int .i64) (.v 20)), (.d (.int .i64) (.v 21)), (.d (.int .i64) (.v 22)), (.d (.lst [(.int .i64), (.int .i64)]) (.v 23)), (.d (.lst [.str, .str, .str, (.int .i64), (.int .i64), (.int .i64)]) (.v 24))])), (.v (.c (.d (.int .i64) (.v 25)))), (.v (.c (.ptr 0 0))), (.v (.c .any)), (.v (.c .any)), (.v (.c (.d (.int .i64) (.v 26)))), (.v (.c (.d (.int .i64) (.v 27)))) ] ++ an 13 ++ [(.v (.c (.d (.int .i64) (.v 25)))), (.v (.c (.d (.int .i64) (.ar .and .i64 (.v 25) (.ki .i64 2))))), (.v (.c (.d .bool (.cmp .neq (.ar .and .i64 (.v 25) (.ki .i64 2)) (.ki .i64 0))))) ] ++ an 41, blks := [(.cells [(.d (.int .i64) (.v 0)), (.d (.int .i64) (.v 1)), (.d (.int .i64) (.v 2)), (.d (.int .i64) (.v 3)), (.d (.int .i64) (.v 4)), (.d (.int .i64) (.v 5)), (.d (.int .i64) (.v 6)), (.d (.int .i64) (.v 7)), (.d .str (.v 8)), (.d .str (.v 9)), (.d .str (.v 10)), (.d .bool (.v 11)), (.d (.lst [(.int .i64), (.int .i64)]) (.v 12)), (.d (.int .i64) (.v 13)), (.d (.int .i64) (.v 14)), (.d (.int .i64) (.v 15)), (.d (.int .i64) (.v 16)), (.d (.int .i64) (.v 17)), (.d .str (.v 18)), (.d (.int .i64) (.v 19)), (.d (.int .i64) (.v 20)), (.d (.int .i64) (.v 21)), (.d (.int .i64) (.v 22)), (.d (.lst [(.int .i64), (.int .i64)]) (.v 23)), (.d (.lst [.str, .str, .str, (.int .i64), (.int .i64), (.int .i64)]) (.v 24))])], shs := [(.int .i64), (.int .i64)], rs := [], bs := [], fz := [] }]
theorem mnum_ent : EntOK Try.prog [] ⟨32, [(.g shM), (.c (.int .i64))], [(.c .bool)], vcmnum⟩ :=
  ent_of_genH hP Try.func32 rfl (by decide) (jn := [(3,[1000000]),(7,[5,6]),(9,[1000000])]) (hd := hdmnum) (sg := sgs) (by kernel_rfl)
def vcmnam : VC := (.join []
 (.ite (.cmp .neq (.ar .and .i64 (.v 25) (.ki .i64 32)) (.ki .i64 0))
  (.cal 54 [(.c .str)] [(.v 8)] [(.c .bool)] 26
   (.ite (.v 26)
    (.back 0 [])
    (.ret [(.kb false)])))
  (.back 0 []))
 (.join []
  (.ite (.cmp .neq (.ar .and .i64 (.v 25) (.ki .i64 64)) (.ki .i64 0))
   (.cal 54 [(.c .str)] [(.v 9)] [(.c .bool)] 26
    (.ite (.v 26)
     (.back 1 [])
     (.ite (.seq (.v 9) (.ks ⟨List.toArray []⟩))
      (.ite (.cmp .neq (.v 2) (.ki .i64 5))
       (.ret [(.kb false)])
       (.back 1 []))
      (.ret [(.kb false)]))))
   (.back 1 []))
  (.ite (.cmp .eql (.ar .and .i64 (.v 25) (.ki .i64 128)) (.ki .i64 0))
   (.ret [(.kb true)])
   (.cal 54 [(.c .str)] [(.v 10)] [(.c .bool)] 26
    (.ite (.v 26)
     (.ret [(.kb true)])
     (.ite (.seq (.v 10) (.ks ⟨List.toArray []⟩))
      (.ite (.cmp .neq (.v 0) (.ki .i64 1))
       (.ret [(.kb true)])
       (.ret [(.cmp .neq (.v 2) (.ki .i64 1))]))
      (.ret [(.kb false)])))))))
def hdmnam : List HdL := [{ kind := false, id := 3, nv := 26, tmps := [(.v (.g [(.d (.int .i64) (.v 0)), (.d (.int .i64) (.v 1)), (.d (.int .i64) (.v 2)), (.d (.int .i64) (.v 3)), (.d (.int .i64) (.v 4)), (.d (.int .i64) (.v 5)), (.d (.int .i64) (.v 6)), (.d (.int .i64) (.v 7)), (.d .str (.v 8)), (.d .str (.v 9)), (.d .str (.v 10)), (.d .bool (.v 11)), (.d (.lst [(.int .i64), (.int .i64)]) (.v 12)), (.d (.int .i64) (.v 13)), (.d (.int .i64) (.v 14)), (.d (.int .i64) (.v 15)), (.d (.int .i64) (.v 16)), (.d (.int .i64) (.v 17)), (.d .str (.v 18)), (.d (.int .i64) (.v 19)), (.d (.int .i64) (.v 20)), (.d (.int .i64) (.v 21)), (.d (.int .i64) (.v 22)), (.d (.lst [(.int .i64), (.int .i64)]) (.v 23)), (.d (.lst [.str, .str, .str, (.int .i64), (.int .i64), (.int .i64)]) (.v 24))])), (.v (.c (.d (.int .i64) (.v 25)))), (.v (.c (.ptr 0 0))) ] ++ an 51, blks := [(.cells [(.d (.int .i64) (.v 0)), (.d (.int .i64) (.v 1)), (.d (.int .i64) (.v 2)), (.d (.int .i64) (.v 3)), (.d (.int .i64) (.v 4)), (.d (.int .i64) (.v 5)), (.d (.int .i64) (.v 6)), (.d (.int .i64) (.v 7)), (.d .str (.v 8)), (.d .str (.v 9)), (.d .str (.v 10)), (.d .bool (.v 11)), (.d (.lst [(.int .i64), (.int .i64)]) (.v 12)), (.d (.int .i64) (.v 13)), (.d (.int .i64) (.v 14)), (.d (.int .i64) (.v 15)), (.d (.int .i64) (.v 16)), (.d (.int .i64) (.v 17)), (.d .str (.v 18)), (.d (.int .i64) (.v 19)), (.d (.int .i64) (.v 20)), (.d (.int .i64) (.v 21)), (.d (.int .i64) (.v 22)), (.d (.lst [(.int .i64), (.int .i64)]) (.v 23)), (.d (.lst [.str, .str, .str, (.int .i64), (.int .i64), (.int .i64)]) (.v 24))])], shs := [], rs := [], bs := [], fz := [] },
{ kind := false, id := 5, nv := 26, tmps := [(.v (.g [(.d (.int .i64) (.v 0)), (.d (.int .i64) (.v 1)), (.d (.int .i64) (.v 2)), (.d (.int .i64) (.v 3)), (.d (.int .i64) (.v 4)), (.d (.int .i64) (.v 5)), (.d (.int .i64) (.v 6)), (.d (.int .i64) (.v 7)), (.d .str (.v 8)), (.d .str (.v 9)), (.d .str (.v 10)), (.d .bool (.v 11)), (.d (.lst [(.int .i64), (.int .i64)]) (.v 12)), (.d (.int .i64) (.v 13)), (.d (.int .i64) (.v 14)), (.d (.int .i64) (.v 15)), (.d (.int .i64) (.v 16)), (.d (.int .i64) (.v 17)), (.d .str (.v 18)), (.d (.int .i64) (.v 19)), (.d (.int .i64) (.v 20)), (.d (.int .i64) (.v 21)), (.d (.int .i64) (.v 22)), (.d (.lst [(.int .i64), (.int .i64)]) (.v 23)), (.d (.lst [.str, .str, .str, (.int .i64), (.int .i64), (.int .i64)]) (.v 24))])), (.v (.c (.d (.int .i64) (.v 25)))), (.v (.c (.ptr 0 0))) ] ++ an 51, blks := [(.cells [(.d (.int .i64) (.v 0)), (.d (.int .i64) (.v 1)), (.d (.int .i64) (.v 2)), (.d (.int .i64) (.v 3)), (.d (.int .i64) (.v 4)), (.d (.int .i64) (.v 5)), (.d (.int .i64) (.v 6)), (.d (.int .i64) (.v 7)), (.d .str (.v 8)), (.d .str (.v 9)), (.d .str (.v 10)), (.d .bool (.v 11)), (.d (.lst [(.int .i64), (.int .i64)]) (.v 12)), (.d (.int .i64) (.v 13)), (.d (.int .i64) (.v 14)), (.d (.int .i64) (.v 15)), (.d (.int .i64) (.v 16)), (.d (.int .i64) (.v 17)), (.d .str (.v 18)), (.d (.int .i64) (.v 19)), (.d (.int .i64) (.v 20)), (.d (.int .i64) (.v 21)), (.d (.int .i64) (.v 22)), (.d (.lst [(.int .i64), (.int .i64)]) (.v 23)), (.d (.lst [.str, .str, .str, (.int .i64), (.int .i64), (.int .i64)]) (.v 24))])], shs := [], rs := [], bs := [], fz := [] }]
theorem mnam_ent : EntOK Try.prog [] ⟨33, [(.g shM), (.c (.int .i64))], [(.c .bool)], vcmnam⟩ :=
  ent_of_genH hP Try.func33 rfl (by decide) (jn := [(3,[1000000]),(5,[1000000])]) (hd := hdmnam) (sg := sgs) (by kernel_rfl)
def vcmlis : VC := (.loop [(.int .i64), (.int .i64)] [(.ki .i64 0), (.ki .i64 0)]
 (.ite (.cmp .lss (.v 27) (.len (.v 12)))
  (.ev [(.ob (.cmp .geq (.v 27) (.ki .i64 0))), (.ob (.cmp .lss (.v 27) (.len (.v 12))))]
   (.ite (.cmp .lss (.cell (.get (.v 12) (.v 27)) 0) (.ki .i64 0))
    (.ret [(.ki .i64 2)])
    (.ite (.cmp .gtr (.cell (.get (.v 12) (.v 27)) 0) (.ki .i64 268435456))
     (.ret [(.ki .i64 2)])
     (.ite (.cmp .lss (.cell (.get (.v 12) (.v 27)) 1) (.ki .i64 0))
      (.ret [(.ki .i64 2)])
      (.ite (.cmp .gtr (.cell (.get (.v 12) (.v 27)) 1) (.ki .i64 1099511627775))
       (.ret [(.ki .i64 2)])
       (.back 0 [(.v 26), (.ar .add .i64 (.v 27) (.ki .i64 1))]))))))
  (.ite (.cmp .neq (.ar .and .i64 (.v 25) (.ki .i64 1024)) (.ki .i64 0))
   (.cal 55 [(.g [(.int .i64), (.int .i64), (.int .i64), (.int .i64), (.int .i64), .str, (.int .i64), (.int .i64), (.int .i64), (.int .i64), (.lst [(.int .i64), (.int .i64)])])] [(.rc (.cons (.v 13) (.cons (.v 14) (.cons (.v 15) (.cons (.v 16) (.cons (.v 17) (.cons (.v 18) (.cons (.v 19) (.cons (.v 20) (.cons (.v 21) (.cons (.v 22) (.cons (.v 23) .nil))))))))))))] [(.c (.int .i64))] 28
    (.ite (.cmp .neq (.v 28) (.ki .i64 0))
     (.ret [(.v 28)])
     (.loop [(.int .i64), (.int .i64)] [(.v 26), (.ki .i64 0)]
      (.ite (.cmp .lss (.v 30) (.len (.v 24)))
       (.ev [(.ob (.cmp .geq (.v 30) (.ki .i64 0))), (.ob (.cmp .lss (.v 30) (.len (.v 24))))]
        (.cal 56 [(.g [.str, .str, .str, (.int .i64), (.int .i64), (.int .i64)])] [(.rc (.cons (.cell (.get (.v 24) (.v 30)) 0) (.cons (.cell (.get (.v 24) (.v 30)) 1) (.cons (.cell (.get (.v 24) (.v 30)) 2) (.cons (.cell (.get (.v 24) (.v 30)) 3) (.cons (.cell (.get (.v 24) (.v 30)) 4) (.cons (.cell (.get (.v 24) (.v 30)) 5) .nil)))))))] [(.c (.int .i64))] 31
         (.ite (.cmp .neq (.v 31) (.ki .i64 0))
          (.ret [(.v 31)])
          (.back 1 [(.v 29), (.ar .add .i64 (.v 30) (.ki .i64 1))]))))
       (.ret [(.ki .i64 0)])))))
   (.loop [(.int .i64), (.int .i64)] [(.v 26), (.ki .i64 0)]
    (.ite (.cmp .lss (.v 29) (.len (.v 24)))
     (.ev [(.ob (.cmp .geq (.v 29) (.ki .i64 0))), (.ob (.cmp .lss (.v 29) (.len (.v 24))))]
      (.cal 56 [(.g [.str, .str, .str, (.int .i64), (.int .i64), (.int .i64)])] [(.rc (.cons (.cell (.get (.v 24) (.v 29)) 0) (.cons (.cell (.get (.v 24) (.v 29)) 1) (.cons (.cell (.get (.v 24) (.v 29)) 2) (.cons (.cell (.get (.v 24) (.v 29)) 3) (.cons (.cell (.get (.v 24) (.v 29)) 4) (.cons (.cell (.get (.v 24) (.v 29)) 5) .nil)))))))] [(.c (.int .i64))] 30
       (.ite (.cmp .neq (.v 30) (.ki .i64 0))
        (.ret [(.v 30)])
        (.back 1 [(.v 28), (.ar .add .i64 (.v 29) (.ki .i64 1))]))))
     (.ret [(.ki .i64 0)]))))))
def hdmlis : List HdL := [{ kind := true, id := 2, nv := 26, tmps := [(.v (.g [(.d (.int .i64) (.v 0)), (.d (.int .i64) (.v 1)), (.d (.int .i64) (.v 2)), (.d (.int .i64) (.v 3)), (.d (.int .i64) (.v 4)), (.d (.int .i64) (.v 5)), (.d (.int .i64) (.v 6)), (.d (.int .i64) (.v 7)), (.d .str (.v 8)), (.d .str (.v 9)), (.d .str (.v 10)), (.d .bool (.v 11)), (.d (.lst [(.int .i64), (.int .i64)]) (.v 12)), (.d (.int .i64) (.v 13)), (.d (.int .i64) (.v 14)), (.d (.int .i64) (.v 15)), (.d (.int .i64) (.v 16)), (.d (.int .i64) (.v 17)), (.d .str (.v 18)), (.d (.int .i64) (.v 19)), (.d (.int .i64) (.v 20)), (.d (.int .i64) (.v 21)), (.d (.int .i64) (.v 22)), (.d (.lst [(.int .i64), (.int .i64)]) (.v 23)), (.d (.lst [.str, .str, .str, (.int .i64), (.int .i64), (.int .i64)]) (.v 24))])), (.v (.c (.d (.int .i64) (.v 25)))), (.v (.c (.ptr 0 0))), (.v (.c .any)), (.v (.c (.d (.int .i64) (.v 26)))) ] ++ an 6 ++ [(.v (.c (.ptr 0 12))), (.v (.c (.d (.lst [(.int .i64), (.int .i64)]) (.v 12)))), (.v (.c (.d (.int .i64) (.len (.v 12))))), (.v (.c (.d (.int .i64) (.v 27)))) ] ++ an 44, blks := [(.cells [(.d (.int .i64) (.v 0)), (.d (.int .i64) (.v 1)), (.d (.int .i64) (.v 2)), (.d (.int .i64) (.v 3)), (.d (.int .i64) (.v 4)), (.d (.int .i64) (.v 5)), (.d (.int .i64) (.v 6)), (.d (.int .i64) (.v 7)), (.d .str (.v 8)), (.d .str (.v 9)), (.d .str (.v 10)), (.d .bool (.v 11)), (.d (.lst [(.int .i64), (.int .i64)]) (.v 12)), (.d (.int .i64) (.v 13)), (.d (.int .i64) (.v 14)), (.d (.int .i64) (.v 15)), (.d (.int .i64) (.v 16)), (.d (.int .i64) (.v 17)), (.d .str (.v 18)), (.d (.int .i64) (.v 19)), (.d (.int .i64) (.v 20)), (.d (.int .i64) (.v 21)), (.d (.int .i64) (.v 22)), (.d (.lst [(.int .i64), (.int .i64)]) (.v 23)), (.d (.lst [.str, .str, .str, (.int .i64), (.int .i64), (.int .i64)]) (.v 24))])], shs := [(.int .i64), (.int .i64)], rs := [], bs := [], fz := [] },
{ kind := true, id := 12, nv := 29, tmps := [(.v (.g [(.d (.int .i64) (.v 0)), (.d (.int .i64) (.v 1)), (.d (.int .i64) (.v 2)), (.d (.int .i64) (.v 3)), (.d (.int .i64) (.v 4)), (.d (.int .i64) (.v 5)), (.d (.int .i64) (.v 6)), (.d (.int .i64) (.v 7)), (.d .str (.v 8)), (.d .str (.v 9)), (.d .str (.v 10)), (.d .bool (.v 11)), (.d (.lst [(.int .i64), (.int .i64)]) (.v 12)), (.d (.int .i64) (.v 13)), (.d (.int .i64) (.v 14)), (.d (.int .i64) (.v 15)), (.d (.int .i64) (.v 16)), (.d (.int .i64) (.v 17)), (.d .str (.v 18)), (.d (.int .i64) (.v 19)), (.d (.int .i64) (.v 20)), (.d (.int .i64) (.v 21)), (.d (.int .i64) (.v 22)), (.d (.lst [(.int .i64), (.int .i64)]) (.v 23)), (.d (.lst [.str, .str, .str, (.int .i64), (.int .i64), (.int .i64)]) (.v 24))])), (.v (.c (.d (.int .i64) (.v 25)))), (.v (.c (.ptr 0 0))), (.v (.c .any)), (.v (.c (.d (.int .i64) (.v 29)))), (.v (.c .any)), (.v (.c .any)), (.v (.c (.d (.int .i64) (.v 28)))), (.v (.c .any)), (.v (.c .any)), (.v (.c .any)), (.v (.c (.ptr 0 12))), (.v (.c (.d (.lst [(.int .i64), (.int .i64)]) (.v 12)))), (.v (.c (.d (.int .i64) (.len (.v 12))))), (.v (.c (.d (.int .i64) (.v 27)))), (.v (.c (.d .bool (.cmp .lss (.v 27) (.len (.v 12)))))) ] ++ an 21 ++ [(.v (.c (.d (.int .i64) (.v 25)))), (.v (.c (.d (.int .i64) (.ar .and .i64 (.v 25) (.ki .i64 1024))))), (.v (.c (.d .bool (.cmp .neq (.ar .and .i64 (.v 25) (.ki .i64 1024)) (.ki .i64 0))))), (.v (.c (.ptr 0 13))), (.v (.g [(.d (.int .i64) (.v 13)), (.d (.int .i64) (.v 14)), (.d (.int .i64) (.v 15)), (.d (.int .i64) (.v 16)), (.d (.int .i64) (.v 17)), (.d .str (.v 18)), (.d (.int .i64) (.v 19)), (.d (.int .i64) (.v 20)), (.d (.int .i64) (.v 21)), (.d (.int .i64) (.v 22)), (.d (.lst [(.int .i64), (.int .i64)]) (.v 23))])), (.v (.c (.d (.int .i64) (.v 28)))), (.v (.c (.d (.int .i64) (.v 28)))), (.v (.c (.d .bool (.cmp .neq (.v 28) (.ki .i64 0))))), (.v (.c .any)), (.v (.c (.ptr 0 24))), (.v (.c (.d (.lst [.str, .str, .str, (.int .i64), (.int .i64), (.int .i64)]) (.v 24)))), (.v (.c (.d (.int .i64) (.len (.v 24))))), (.v (.c (.d (.int .i64) (.v 30)))) ] ++ an 9, blks := [(.cells [(.d (.int .i64) (.v 0)), (.d (.int .i64) (.v 1)), (.d (.int .i64) (.v 2)), (.d (.int .i64) (.v 3)), (.d (.int .i64) (.v 4)), (.d (.int .i64) (.v 5)), (.d (.int .i64) (.v 6)), (.d (.int .i64) (.v 7)), (.d .str (.v 8)), (.d .str (.v 9)), (.d .str (.v 10)), (.d .bool (.v 11)), (.d (.lst [(.int .i64), (.int .i64)]) (.v 12)), (.d (.int .i64) (.v 13)), (.d (.int .i64) (.v 14)), (.d (.int .i64) (.v 15)), (.d (.int .i64) (.v 16)), (.d (.int .i64) (.v 17)), (.d .str (.v 18)), (.d (.int .i64) (.v 19)), (.d (.int .i64) (.v 20)), (.d (.int .i64) (.v 21)), (.d (.int .i64) (.v 22)), (.d (.lst [(.int .i64), (.int .i64)]) (.v 23)), (.d (.lst [.str, .str, .str, (.int .i64), (.int .i64), (.int .i64)]) (.v 24))])], shs := [(.int .i64), (.int .i64)], rs := [], bs := [], fz := [] },
{ kind := true, id := 12, nv := 28, tmps := [(.v (.g [(.d (.int .i64) (.v 0)), (.d (.int .i64) (.v 1)), (.d (.int .i64) (.v 2)), (.d (.int .i64) (.v 3)), (.d (.int .i64) (.v 4)), (.d (.int .i64) (.v 5)), (.d (.int .i64) (.v 6)), (.d (.int .i64) (.v 7)), (.d .str (.v 8)), (.d .str (.v 9)), (.d .str (.v 10)), (.d .bool (.v 11)), (.d (.lst [(.int .i64), (.int .i64)]) (.v 12)), (.d (.int .i64) (.v 13)), (.d (.int .i64) (.v 14)), (.d (.int .i64) (.v 15)), (.d (.int .i64) (.v 16)), (.d (.int .i64) (.v 17)), (.d .str (.v 18)), (.d (.int .i64) (.v 19)), (.d (.int .i64) (.v 20)), (.d (.int .i64) (.v 21)), (.d (.int .i64) (.v 22)), (.d (.lst [(.int .i64), (.int .i64)]) (.v 23)), (.d (.lst [.str, .str, .str, (.int .i64), (.int .i64), (.int .i64)]) (.v 24))])), (.v (.c (.d (.int .i64) (.v 25)))), (.v (.c (.ptr 0 0))), (.v (.c .any)), (.v (.c (.d (.int .i64) (.v 28)))) ] ++ an 6 ++ [(.v (.c (.ptr 0 12))), (.v (.c (.d (.lst [(.int .i64), (.int .i64)]) (.v 12)))), (.v (.c (.d (.int .i64) (.len (.v 12))))), (.v (.c (.d (.int .i64) (.v 27)))), (.v (.c (.d .bool (.cmp .lss (.v 27) (.len (.v 12)))))) ] ++ an 21 ++ [(.v (.c (.d (.int .i64) (.v 25)))), (.v (.c (.d (.int .i64) (.ar .and .i64 (.v 25) (.ki .i64 1024))))), (.v (.c (.d .bool (.cmp .neq (.ar .and .i64 (.v 25) (.ki .i64 1024)) (.ki .i64 0))))) ] ++ an 6 ++ [(.v (.c (.ptr 0 24))), (.v (.c (.d (.lst [.str, .str, .str, (.int .i64), (.int .i64), (.int .i64)]) (.v 24)))), (.v (.c (.d (.int .i64) (.len (.v 24))))), (.v (.c (.d (.int .i64) (.v 29)))) ] ++ an 9, blks := [(.cells [(.d (.int .i64) (.v 0)), (.d (.int .i64) (.v 1)), (.d (.int .i64) (.v 2)), (.d (.int .i64) (.v 3)), (.d (.int .i64) (.v 4)), (.d (.int .i64) (.v 5)), (.d (.int .i64) (.v 6)), (.d (.int .i64) (.v 7)), (.d .str (.v 8)), (.d .str (.v 9)), (.d .str (.v 10)), (.d .bool (.v 11)), (.d (.lst [(.int .i64), (.int .i64)]) (.v 12)), (.d (.int .i64) (.v 13)), (.d (.int .i64) (.v 14)), (.d (.int .i64) (.v 15)), (.d (.int .i64) (.v 16)), (.d (.int .i64) (.v 17)), (.d .str (.v 18)), (.d (.int .i64) (.v 19)), (.d (.int .i64) (.v 20)), (.d (.int .i64) (.v 21)), (.d (.int .i64) (.v 22)), (.d (.lst [(.int .i64), (.int .i64)]) (.v 23)), (.d (.lst [.str, .str, .str, (.int .i64), (.int .i64), (.int .i64)]) (.v 24))])], shs := [(.int .i64), (.int .i64)], rs := [], bs := [], fz := [] }]
theorem mlis_ent : EntOK Try.prog [] ⟨34, [(.g shM), (.c (.int .i64))], [(.c (.int .i64))], vcmlis⟩ :=
  ent_of_genH hP Try.func34 rfl (by decide) (jn := []) (hd := hdmlis) (sg := sgs) (by kernel_rfl)
def vcmval : VC := (.ite (.cmp .lss (.v 0) (.ki .i64 1))
 (.ret [(.ki .i64 1)])
 (.ite (.cmp .gtr (.v 0) (.ki .i64 3))
  (.ret [(.ki .i64 1)])
  (.ite (.cmp .lss (.v 1) (.ki .i64 1))
   (.ret [(.ki .i64 2)])
   (.ite (.cmp .gtr (.v 1) (.ki .i64 2147483647))
    (.ret [(.ki .i64 2)])
    (.cal 30 [(.c (.int .i64)), (.c (.int .i64))] [(.v 0), (.v 2)] [(.c (.int .i64)), (.c .bool)] 25
     (.ite (.v 26)
      (.ite (.cmp .gtr (.len (.v 12)) (.ki .i64 64))
       (.ret [(.ki .i64 3)])
       (.ite (.cmp .gtr (.len (.v 24)) (.ki .i64 64))
        (.ret [(.ki .i64 3)])
        (.cal 31 [(.g shM)] [(.rc (.cons (.v 0) (.cons (.v 1) (.cons (.v 2) (.cons (.v 3) (.cons (.v 4) (.cons (.v 5) (.cons (.v 6) (.cons (.v 7) (.cons (.v 8) (.cons (.v 9) (.cons (.v 10) (.cons (.v 11) (.cons (.v 12) (.cons (.v 13) (.cons (.v 14) (.cons (.v 15) (.cons (.v 16) (.cons (.v 17) (.cons (.v 18) (.cons (.v 19) (.cons (.v 20) (.cons (.v 21) (.cons (.v 22) (.cons (.v 23) (.cons (.v 24) .nil))))))))))))))))))))))))))] [(.c (.int .i64))] 27
         (.ite (.cmp .neq (.ar .andNot .i64 (.v 27) (.v 25)) (.ki .i64 0))
          (.ret [(.ki .i64 1)])
          (.cal 32 [(.g shM), (.c (.int .i64))] [(.rc (.cons (.v 0) (.cons (.v 1) (.cons (.v 2) (.cons (.v 3) (.cons (.v 4) (.cons (.v 5) (.cons (.v 6) (.cons (.v 7) (.cons (.v 8) (.cons (.v 9) (.cons (.v 10) (.cons (.v 11) (.cons (.v 12) (.cons (.v 13) (.cons (.v 14) (.cons (.v 15) (.cons (.v 16) (.cons (.v 17) (.cons (.v 18) (.cons (.v 19) (.cons (.v 20) (.cons (.v 21) (.cons (.v 22) (.cons (.v 23) (.cons (.v 24) .nil)))))))))))))))))))))))))), (.v 25)] [(.c .bool)] 28
           (.ite (.v 28)
            (.cal 33 [(.g shM), (.c (.int .i64))] [(.rc (.cons (.v 0) (.cons (.v 1) (.cons (.v 2) (.cons (.v 3) (.cons (.v 4) (.cons (.v 5) (.cons (.v 6) (.cons (.v 7) (.cons (.v 8) (.cons (.v 9) (.cons (.v 10) (.cons (.v 11) (.cons (.v 12) (.cons (.v 13) (.cons (.v 14) (.cons (.v 15) (.cons (.v 16) (.cons (.v 17) (.cons (.v 18) (.cons (.v 19) (.cons (.v 20) (.cons (.v 21) (.cons (.v 22) (.cons (.v 23) (.cons (.v 24) .nil)))))))))))))))))))))))))), (.v 25)] [(.c .bool)] 29
             (.ite (.v 29)
              (.cal 34 [(.g shM), (.c (.int .i64))] [(.rc (.cons (.v 0) (.cons (.v 1) (.cons (.v 2) (.cons (.v 3) (.cons (.v 4) (.cons (.v 5) (.cons (.v 6) (.cons (.v 7) (.cons (.v 8) (.cons (.v 9) (.cons (.v 10) (.cons (.v 11) (.cons (.v 12) (.cons (.v 13) (.cons (.v 14) (.cons (.v 15) (.cons (.v 16) (.cons (.v 17) (.cons (.v 18) (.cons (.v 19) (.cons (.v 20) (.cons (.v 21) (.cons (.v 22) (.cons (.v 23) (.cons (.v 24) .nil)))))))))))))))))))))))))), (.v 25)] [(.c (.int .i64))] 30
               (.ret [(.v 30)]))
              (.ret [(.ki .i64 4)])))
            (.ret [(.ki .i64 2)])))))))
      (.ret [(.ki .i64 1)])))))))
theorem mval_ent : EntOK Try.prog [] ⟨17, [(.g shM)], [(.c (.int .i64))], vcmval⟩ :=
  ent_of_gen hP Try.func17 rfl (by decide) (sg := sgs) (by kernel_rfl)
end Go.Proofs.Ytindphofgojfbaa.V26
set_option maxRecDepth 100000
set_option linter.unusedSimpArgs false
set_option linter.unusedVariables false
namespace Go.Proofs.Ytindphofgojfbaa.V26
open Go.Proofs.Ytindphofgojfbaa Go.Proofs.Ytindphofgojfbaa.Sy Go.Proofs.Ytindphofgojfbaa.L7 Go.Proofs.Ytindphofgojfbaa.Id Go.Proofs.Ytindphofgojfbaa.R26 Go.RowKit Go.WideShapes Go.ChangeShapes Go.ChangeAt
def ni (s : ByteArray) : Int := if nameS s then 1 else 0
theorem ni_t (s : ByteArray) : (nameS s = true) = (ni s = 1) := by unfold ni; cases nameS s <;> simp
theorem ni_f (s : ByteArray) : (nameS s = false) = (ni s = 0) := by unfold ni; cases nameS s <;> simp
theorem ni_rng (s : ByteArray) : ni s = 0 ∨ ni s = 1 := by unfold ni; split <;> simp
def mi (l : List Int) (n : Int) : Int := if n ∈ l then 1 else 0
theorem mi_rng (l : List Int) (n : Int) : mi l n = 0 ∨ mi l n = 1 := by unfold mi; split <;> simp
def pNum (p : Prof) : Bool := decide (1 ≤ p.id ∧ p.id ≤ 2147483647 ∧ 0 ≤ p.lv ∧ p.lv ≤ 8 ∧ 1 ≤ p.pu ∧ p.pu ≤ 3 ∧ 1 ≤ p.ki ∧ p.ki ≤ 4 ∧ 0 ≤ p.co ∧ p.co ≤ 32)
def pTim (p : Prof) : Bool := decide (0 ≤ p.fr ∧ p.fr ≤ 268435456 ∧ (p.to = -1 ∨ (p.fr ≤ p.to ∧ p.to ≤ 268435456)) ∧ 0 ≤ p.st ∧ p.st ≤ 268435456 ∧ (p.ki = 4 → p.st = 0) ∧ (p.du = -1 ∨ (1 ≤ p.du ∧ p.du ≤ 268435456)))
def perG (k : Int) : Int := if k = 2 then 1439 else if k = 3 then 10079 else 268435456
/-- the error of the periods from the i-th on; a: where the one before begins -/
def perS (g : Int) : Nat → Int → List (Int × Int) → Int
  | _, _, [] => 0
  | i, a, x :: l => if (i = 0 ∧ x.1 ≠ 0) ∨ (0 < i ∧ (x.1 ≤ a ∨ g < x.1)) then 1 else if x.2 < 0 ∨ 1048576 < x.2 then 2 else perS g (i + 1) x.1 l
def prvP (l : List (Int × Int)) (i : Nat) : Int := (l.getD (i - 1) (0, 0)).1
def profS (p : Prof) : Int :=
  if pNum p = false then 2 else if (p.pu = 3 ∧ ni p.tx = 0) ∨ (p.pu ≠ 3 ∧ p.tx.size ≠ 0) then 4 else if (p.pu = 3 ∧ p.co = 0) ∨ (p.pu = 1 ∧ p.ki = 4) then 1
  else if pTim p = false then 2 else if 24 < (p.pe.length : Int) then 3 else if (p.pe.length : Int) = 0 then 1 else perS (perG p.ki) 0 0 p.pe
def tokS (t : Tok) : Int := if ni t.id = 0 ∨ (t.gr.size ≠ 0 ∧ ni t.gr = 0) ∨ (t.co.size ≠ 0 ∧ ni t.co = 0) then 4 else if t.ki < 1 ∨ 3 < t.ki ∨ t.st < 1 ∨ 3 < t.st ∨ t.ex < -1 ∨ 268435456 < t.ex then 2 else 0
def itemS (t : Tok) : Int := if t.st ≠ 0 then tokS t else if ni t.id = 0 then 4 else if t.gr.size = 0 ∧ t.co.size = 0 ∧ t.ki = 0 ∧ t.ex = 0 then 0 else 1
def itemsS : List Tok → Int
  | [] => 0
  | t :: l => if itemS t ≠ 0 then itemS t else itemsS l
def actP (a : Int) : Bool := decide ((1 ≤ a ∧ a ≤ 8) ∨ (11 ≤ a ∧ a ≤ 20))
def useC (a : Int) : Int := if a = 1 then 128 else if a = 2 then 0 else if a = 3 then 3 else if a = 4 then 65 else if a = 16 then 65 else if a = 5 then 895 else if a = 6 then 2 else if a = 7 then 2 else if a = 8 then 17 else if a = 20 then 17 else if a = 11 then 217 else if a = 12 then 16 else if a = 14 then 16 else if a = 13 then 1024 else if a = 15 then 2068 else if a = 17 then 32 else if a = 18 then 28 else if a = 19 then 8 else 0
def useK (k a : Int) : Int := if k = 2 then 154 else if k = 3 then 2 else useC a
def useL (k a : Int) : List Int := if k = 2 then [5, 7, 8, 11] else if k = 3 then [5] else if a = 1 then [11] else if a = 3 then [4, 5] else if a = 4 then [4, 10] else if a = 16 then [4, 10] else if a = 5 then [4, 5, 6, 7, 8, 9, 10, 12, 13] else if a = 6 then [5] else if a = 7 then [5] else if a = 8 then [4, 8] else if a = 20 then [4, 8] else if a = 11 then [4, 7, 8, 10, 11] else if a = 12 then [8] else if a = 14 then [8] else if a = 13 then [14] else if a = 15 then [6, 8, 15] else if a = 17 then [9] else if a = 18 then [6, 7, 8] else if a = 19 then [7] else []
theorem act_cases {a : Int} (h : actP a = true) : a = 1 ∨ a = 2 ∨ a = 3 ∨ a = 4 ∨ a = 5 ∨ a = 6 ∨ a = 7 ∨ a = 8 ∨ a = 11 ∨ a = 12 ∨ a = 13 ∨ a = 14 ∨ a = 15 ∨ a = 16 ∨ a = 17 ∨ a = 18 ∨ a = 19 ∨ a = 20 := by
  unfold actP at h
  rw [decide_eq_true_eq] at h
  omega
/-- which fields are not empty: those of the tags 4 to 15 -/
def fulL (m : Msg) : List Bool := [decide (m.co ≠ 0), decide (m.st ≠ 0), decide (m.sq ≠ 0), decide (m.at' ≠ 0), decide (m.va ≠ 0), decide (m.tx.size ≠ 0), decide (m.tk.size ≠ 0), decide (m.te.size ≠ 0), m.off, decide (m.rd.length ≠ 0), decide (m.p ≠ prof0), decide (m.tks.length ≠ 0)]
/-- a field is there that is not used (from the i-th on) -/
def extS (l : List Int) : Nat → List Bool → Bool
  | _, [] => false
  | i, b :: r => if b = true ∧ mi l (i + 4) = 0 then true else extS l (i + 1) r
def exB (m : Msg) : Bool := extS (useL m.ki m.ac) 0 (fulL m)
def numE (m : Msg) (l : List Int) : Int :=
  if (mi l 4 = 1 ∧ (m.co < 1 ∨ 32 < m.co)) ∨ (mi l 5 = 1 ∧ ((m.ki = 3 ∧ (m.st < 1 ∨ 25 < m.st)) ∨ (m.ki ≠ 3 ∧ (m.st < 0 ∨ 100 < m.st)))) ∨ (mi l 6 = 1 ∧ (m.sq < 0 ∨ 2147483647 < m.sq)) ∨ (mi l 7 = 1 ∧ (m.at' < 0 ∨ 268435456 < m.at')) ∨ (mi l 8 = 1 ∧ (m.va < 0 ∨ 2147483647 < m.va)) then 2 else 0
def txtE (m : Msg) (l : List Int) : Int :=
  if (mi l 9 = 1 ∧ ni m.tx = 0) ∨ (mi l 10 = 1 ∧ ni m.tk = 0 ∧ ¬ (m.tk.size = 0 ∧ m.ac = 5)) ∨ (mi l 11 = 1 ∧ ni m.te = 0 ∧ ¬ (m.te.size = 0 ∧ ¬ (m.ki = 1 ∧ m.ac = 1))) then 4 else 0
def lisE (m : Msg) (l : List Int) : Int := if m.rd.all rdgB = false then 2 else if mi l 14 = 1 ∧ profS m.p ≠ 0 then profS m.p else itemsS m.tks
def msgS (m : Msg) : Int :=
  if m.ki < 1 ∨ 3 < m.ki then 1 else if m.id < 1 ∨ 2147483647 < m.id then 2 else if actP m.ac = false then 1 else if 64 < (m.rd.length : Int) ∨ 64 < (m.tks.length : Int) then 3
  else if exB m = true then 1 else if numE m (useL m.ki m.ac) ≠ 0 then numE m (useL m.ki m.ac) else if txtE m (useL m.ki m.ac) ≠ 0 then txtE m (useL m.ki m.ac) else lisE m (useL m.ki m.ac)
theorem pnum_fn (p : Prof) : Fun Try.prog [] 75 [tPr] [.rc (prL p)] [tB] (.ok [.bool (pNum p)]) := by
  refine pnum_ent _ _ ?_
  show vcpnum.den _ _ _ _ _
  unfold vcpnum
  refine den_ite (fun h1 => ?_) (fun h1 => ?_)
  · simp only [dF, dE, str_eq, emp_iff, ni_t, ni_f] at h1
    refine den_ite (fun h2 => ?_) (fun h2 => ?_)
    · simp only [dF, dE, str_eq, emp_iff, ni_t, ni_f] at h2
      refine den_ite (fun h3 => ?_) (fun h3 => ?_)
      · simp only [dF, dE, str_eq, emp_iff, ni_t, ni_f] at h3
        refine den_ite (fun h4 => ?_) (fun h4 => ?_)
        · simp only [dF, dE, str_eq, emp_iff, ni_t, ni_f] at h4
          refine den_ite (fun h5 => ?_) (fun h5 => ?_)
          · simp only [dF, dE, str_eq, emp_iff, ni_t, ni_f] at h5
            refine den_ite (fun h6 => ?_) (fun h6 => ?_)
            · simp only [dF, dE, str_eq, emp_iff, ni_t, ni_f] at h6
              refine den_ite (fun h7 => ?_) (fun h7 => ?_)
              · simp only [dF, dE, str_eq, emp_iff, ni_t, ni_f] at h7
                refine den_ite (fun h8 => ?_) (fun h8 => ?_)
                · simp only [dF, dE, str_eq, emp_iff, ni_t, ni_f] at h8
                  refine den_ite (fun h9 => ?_) (fun h9 => ?_)
                  · simp only [dF, dE, str_eq, emp_iff, ni_t, ni_f] at h9
                    refine den_ret ?_
                    simp only [dF, dE]
                    rw [show pNum p = decide (p.co ≤ 32) from by unfold pNum; rw [decide_eq_decide]; omega]
                    first | rfl | (congr 3; simp) | skip
                  · simp only [dF, dE, str_eq, emp_iff, ni_t, ni_f] at h9
                    refine den_ret ?_
                    simp only [dF, dE]
                    rw [show pNum p = false from by unfold pNum; rw [decide_eq_false_iff_not]; omega]
                · simp only [dF, dE, str_eq, emp_iff, ni_t, ni_f] at h8
                  refine den_ret ?_
                  simp only [dF, dE]
                  rw [show pNum p = false from by unfold pNum; rw [decide_eq_false_iff_not]; omega]
              · simp only [dF, dE, str_eq, emp_iff, ni_t, ni_f] at h7
                refine den_ret ?_
                simp only [dF, dE]
                rw [show pNum p = false from by unfold pNum; rw [decide_eq_false_iff_not]; omega]
            · simp only [dF, dE, str_eq, emp_iff, ni_t, ni_f] at h6
              refine den_ret ?_
              simp only [dF, dE]
              rw [show pNum p = false from by unfold pNum; rw [decide_eq_false_iff_not]; omega]
          · simp only [dF, dE, str_eq, emp_iff, ni_t, ni_f] at h5
            refine den_ret ?_
            simp only [dF, dE]
            rw [show pNum p = false from by unfold pNum; rw [decide_eq_false_iff_not]; omega]
        · simp only [dF, dE, str_eq, emp_iff, ni_t, ni_f] at h4
          refine den_ret ?_
          simp only [dF, dE]
          rw [show pNum p = false from by unfold pNum; rw [decide_eq_false_iff_not]; omega]
      · simp only [dF, dE, str_eq, emp_iff, ni_t, ni_f] at h3
        refine den_ret ?_
        simp only [dF, dE]
        rw [show pNum p = false from by unfold pNum; rw [decide_eq_false_iff_not]; omega]
    · simp only [dF, dE, str_eq, emp_iff, ni_t, ni_f] at h2
      refine den_ret ?_
      simp only [dF, dE]
      rw [show pNum p = false from by unfold pNum; rw [decide_eq_false_iff_not]; omega]
  · simp only [dF, dE, str_eq, emp_iff, ni_t, ni_f] at h1
    refine den_ret ?_
    simp only [dF, dE]
    rw [show pNum p = false from by unfold pNum; rw [decide_eq_false_iff_not]; omega]
theorem ptim_fn (p : Prof) : Fun Try.prog [] 76 [tPr] [.rc (prL p)] [tB] (.ok [.bool (pTim p)]) := by
  refine ptim_ent _ _ ?_
  show vcptim.den _ _ _ _ _
  unfold vcptim
  refine den_ite (fun h1 => ?_) (fun h1 => ?_)
  · simp only [dF, dE, str_eq, emp_iff, ni_t, ni_f] at h1
    refine den_ret ?_
    simp only [dF, dE]
    rw [show pTim p = false from by unfold pTim; rw [decide_eq_false_iff_not]; omega]
  · simp only [dF, dE, str_eq, emp_iff, ni_t, ni_f] at h1
    refine den_ite (fun h2 => ?_) (fun h2 => ?_)
    · simp only [dF, dE, str_eq, emp_iff, ni_t, ni_f] at h2
      refine den_ret ?_
      simp only [dF, dE]
      rw [show pTim p = false from by unfold pTim; rw [decide_eq_false_iff_not]; omega]
    · simp only [dF, dE, str_eq, emp_iff, ni_t, ni_f] at h2
      refine den_ite (fun h3 => ?_) (fun h3 => ?_)
      · simp only [dF, dE, str_eq, emp_iff, ni_t, ni_f] at h3
        refine den_ite (fun h4 => ?_) (fun h4 => ?_)
        · simp only [dF, dE, str_eq, emp_iff, ni_t, ni_f] at h4
          refine den_ret ?_
          simp only [dF, dE]
          rw [show pTim p = false from by unfold pTim; rw [decide_eq_false_iff_not]; omega]
        · simp only [dF, dE, str_eq, emp_iff, ni_t, ni_f] at h4
          refine den_ite (fun h5 => ?_) (fun h5 => ?_)
          · simp only [dF, dE, str_eq, emp_iff, ni_t, ni_f] at h5
            refine den_ret ?_
            simp only [dF, dE]
            rw [show pTim p = false from by unfold pTim; rw [decide_eq_false_iff_not]; omega]
          · simp only [dF, dE, str_eq, emp_iff, ni_t, ni_f] at h5
            refine den_ite (fun h6 => ?_) (fun h6 => ?_)
            · simp only [dF, dE, str_eq, emp_iff, ni_t, ni_f] at h6
              refine den_ret ?_
              simp only [dF, dE]
              rw [show pTim p = false from by unfold pTim; rw [decide_eq_false_iff_not]; omega]
            · simp only [dF, dE, str_eq, emp_iff, ni_t, ni_f] at h6
              refine den_ite (fun h7 => ?_) (fun h7 => ?_)
              · simp only [dF, dE, str_eq, emp_iff, ni_t, ni_f] at h7
                refine den_ret ?_
                simp only [dF, dE]
                rw [show pTim p = false from by unfold pTim; rw [decide_eq_false_iff_not]; omega]
              · simp only [dF, dE, str_eq, emp_iff, ni_t, ni_f] at h7
                refine den_ite (fun h8 => ?_) (fun h8 => ?_)
                · simp only [dF, dE, str_eq, emp_iff, ni_t, ni_f] at h8
                  refine den_ite (fun h9 => ?_) (fun h9 => ?_)
                  · simp only [dF, dE, str_eq, emp_iff, ni_t, ni_f] at h9
                    refine den_ret ?_
                    simp only [dF, dE]
                    rw [show pTim p = false from by unfold pTim; rw [decide_eq_false_iff_not]; omega]
                  · simp only [dF, dE, str_eq, emp_iff, ni_t, ni_f] at h9
                    refine den_ite (fun h10 => ?_) (fun h10 => ?_)
                    · simp only [dF, dE, str_eq, emp_iff, ni_t, ni_f] at h10
                      refine den_ret ?_
                      simp only [dF, dE]
                      rw [show pTim p = true from by unfold pTim; rw [decide_eq_true_eq]; omega]
                    · simp only [dF, dE, str_eq, emp_iff, ni_t, ni_f] at h10
                      refine den_ite (fun h11 => ?_) (fun h11 => ?_)
                      · simp only [dF, dE, str_eq, emp_iff, ni_t, ni_f] at h11
                        refine den_ret ?_
                        simp only [dF, dE]
                        rw [show pTim p = decide (p.du ≤ 268435456) from by unfold pTim; rw [decide_eq_decide]; omega]
                        first | rfl | (congr 3; simp) | skip
                      · simp only [dF, dE, str_eq, emp_iff, ni_t, ni_f] at h11
                        refine den_ret ?_
                        simp only [dF, dE]
                        rw [show pTim p = false from by unfold pTim; rw [decide_eq_false_iff_not]; omega]
                · simp only [dF, dE, str_eq, emp_iff, ni_t, ni_f] at h8
                  refine den_ite (fun h12 => ?_) (fun h12 => ?_)
                  · simp only [dF, dE, str_eq, emp_iff, ni_t, ni_f] at h12
                    refine den_ret ?_
                    simp only [dF, dE]
                    rw [show pTim p = true from by unfold pTim; rw [decide_eq_true_eq]; omega]
                  · simp only [dF, dE, str_eq, emp_iff, ni_t, ni_f] at h12
                    refine den_ite (fun h13 => ?_) (fun h13 => ?_)
                    · simp only [dF, dE, str_eq, emp_iff, ni_t, ni_f] at h13
                      refine den_ret ?_
                      simp only [dF, dE]
                      rw [show pTim p = decide (p.du ≤ 268435456) from by unfold pTim; rw [decide_eq_decide]; omega]
                      first | rfl | (congr 3; simp) | skip
                    · simp only [dF, dE, str_eq, emp_iff, ni_t, ni_f] at h13
                      refine den_ret ?_
                      simp only [dF, dE]
                      rw [show pTim p = false from by unfold pTim; rw [decide_eq_false_iff_not]; omega]
      · simp only [dF, dE, str_eq, emp_iff, ni_t, ni_f] at h3
        refine den_ite (fun h14 => ?_) (fun h14 => ?_)
        · simp only [dF, dE, str_eq, emp_iff, ni_t, ni_f] at h14
          refine den_ret ?_
          simp only [dF, dE]
          rw [show pTim p = false from by unfold pTim; rw [decide_eq_false_iff_not]; omega]
        · simp only [dF, dE, str_eq, emp_iff, ni_t, ni_f] at h14
          refine den_ite (fun h15 => ?_) (fun h15 => ?_)
          · simp only [dF, dE, str_eq, emp_iff, ni_t, ni_f] at h15
            refine den_ret ?_
            simp only [dF, dE]
            rw [show pTim p = false from by unfold pTim; rw [decide_eq_false_iff_not]; omega]
          · simp only [dF, dE, str_eq, emp_iff, ni_t, ni_f] at h15
            refine den_ite (fun h16 => ?_) (fun h16 => ?_)
            · simp only [dF, dE, str_eq, emp_iff, ni_t, ni_f] at h16
              refine den_ite (fun h17 => ?_) (fun h17 => ?_)
              · simp only [dF, dE, str_eq, emp_iff, ni_t, ni_f] at h17
                refine den_ret ?_
                simp only [dF, dE]
                rw [show pTim p = false from by unfold pTim; rw [decide_eq_false_iff_not]; omega]
              · simp only [dF, dE, str_eq, emp_iff, ni_t, ni_f] at h17
                refine den_ite (fun h18 => ?_) (fun h18 => ?_)
                · simp only [dF, dE, str_eq, emp_iff, ni_t, ni_f] at h18
                  refine den_ret ?_
                  simp only [dF, dE]
                  rw [show pTim p = true from by unfold pTim; rw [decide_eq_true_eq]; omega]
                · simp only [dF, dE, str_eq, emp_iff, ni_t, ni_f] at h18
                  refine den_ite (fun h19 => ?_) (fun h19 => ?_)
                  · simp only [dF, dE, str_eq, emp_iff, ni_t, ni_f] at h19
                    refine den_ret ?_
                    simp only [dF, dE]
                    rw [show pTim p = decide (p.du ≤ 268435456) from by unfold pTim; rw [decide_eq_decide]; omega]
                    first | rfl | (congr 3; simp) | skip
                  · simp only [dF, dE, str_eq, emp_iff, ni_t, ni_f] at h19
                    refine den_ret ?_
                    simp only [dF, dE]
                    rw [show pTim p = false from by unfold pTim; rw [decide_eq_false_iff_not]; omega]
            · simp only [dF, dE, str_eq, emp_iff, ni_t, ni_f] at h16
              refine den_ite (fun h20 => ?_) (fun h20 => ?_)
              · simp only [dF, dE, str_eq, emp_iff, ni_t, ni_f] at h20
                refine den_ret ?_
                simp only [dF, dE]
                rw [show pTim p = true from by unfold pTim; rw [decide_eq_true_eq]; omega]
              · simp only [dF, dE, str_eq, emp_iff, ni_t, ni_f] at h20
                refine den_ite (fun h21 => ?_) (fun h21 => ?_)
                · simp only [dF, dE, str_eq, emp_iff, ni_t, ni_f] at h21
                  refine den_ret ?_
                  simp only [dF, dE]
                  rw [show pTim p = decide (p.du ≤ 268435456) from by unfold pTim; rw [decide_eq_decide]; omega]
                  first | rfl | (congr 3; simp) | skip
                · simp only [dF, dE, str_eq, emp_iff, ni_t, ni_f] at h21
                  refine den_ret ?_
                  simp only [dF, dE]
                  rw [show pTim p = false from by unfold pTim; rw [decide_eq_false_iff_not]; omega]
def cycS (k : Int) : Int := if k = 3 then 10080 else if k = 2 then 1440 else 0
theorem cyc_fn (k : Int) : Fun Try.prog [] 84 [tI] [I64d k] [tI] (.ok [I64d (cycS k)]) := by
  refine cyc_ent _ _ ?_
  show vccyc.den _ _ _ _ _
  unfold vccyc
  refine den_ite (fun h1 => ?_) (fun h1 => ?_)
  · simp only [dF, dE, str_eq, emp_iff, ni_t, ni_f] at h1
    refine den_ret ?_
    simp only [dF, dE]
    rw [show cycS k = 10080 from by unfold cycS; (repeat' split) <;> omega]
  · simp only [dF, dE, str_eq, emp_iff, ni_t, ni_f] at h1
    refine den_ite (fun h2 => ?_) (fun h2 => ?_)
    · simp only [dF, dE, str_eq, emp_iff, ni_t, ni_f] at h2
      refine den_ret ?_
      simp only [dF, dE]
      rw [show cycS k = 1440 from by unfold cycS; (repeat' split) <;> omega]
    · simp only [dF, dE, str_eq, emp_iff, ni_t, ni_f] at h2
      refine den_ret ?_
      simp only [dF, dE]
      rw [show cycS k = 0 from by unfold cycS; (repeat' split) <;> omega]
theorem perS_end (G : Int) (p : Prof) {i : Nat} {a : Int} (h : i = p.pe.length) (hv : perS G 0 0 p.pe = perS G i a (p.pe.drop i)) : perS G 0 0 p.pe = 0 := by
  subst h
  rw [hv, List.drop_length]
  rfl
theorem peri_fn (p : Prof) (hl : p.pe.length ≤ 4294967296) : Fun Try.prog [] 77 [tPr] [.rc (prL p)] [tI] (.ok [I64d (perS (perG p.ki) 0 0 p.pe)]) := by
  refine peri_ent _ _ ?_
  show vcperi.den _ _ _ _ _
  unfold vcperi
  obtain ⟨G, hG⟩ : ∃ G, perG p.ki = G := ⟨_, rfl⟩
  rw [hG]
  refine den_join (fun xs => xs = [I64d G]) ?_ ?_
  · refine den_cal [I64d (cycS p.ki)] rfl (cyc_fn p.ki) rfl rfl ?_
    (try simp only [List.cons_append, List.nil_append])
    have hw : IntKind.wrap .i64 (cycS p.ki - 1) = cycS p.ki - 1 := wrap_i64 (by unfold cycS; (repeat' split) <;> omega) (by unfold cycS; (repeat' split) <;> omega)
    refine den_ite (fun h => den_back rfl ?_ (by simp only []; omega)) (fun h => den_back rfl ?_ (by simp only []; omega))
    · simp only [dF, dE] at h
      simp only [dF, dE]
      rw [hw, ← hG]
      have : cycS p.ki - 1 = perG p.ki := by
        unfold cycS perG at *
        (repeat' split at h) <;> (repeat' split) <;> omega
      rw [this]
    · simp only [dF, dE] at h
      simp only [dF, dE]
      rw [← hG]
      have : 268435456 = perG p.ki := by
        unfold cycS at h
        unfold perG
        (repeat' split at h) <;> (repeat' split) <;> omega
      rw [← this]
  rintro _ rfl
  (try simp only [List.cons_append, List.nil_append])
  refine den_loopI (fun xs => ∃ (q : Int) (i : Nat), xs = [I64d q, I64d i] ∧ i ≤ p.pe.length ∧ perS G 0 0 p.pe = perS G i (prvP p.pe i) (p.pe.drop i)) (fun xs => p.pe.length - (xs.getD 1 default).toI.toNat) ⟨0, 0, rfl, Nat.zero_le _, by cases hp : p.pe with
    | nil => rfl
    | cons x l => simp [perS]⟩ ?_
  rintro _ ⟨q, i, rfl, hi, hv⟩
  (try simp only [List.cons_append, List.nil_append])
  refine den_ite (fun h => ?_) (fun h => den_ret ?_)
  rotate_left
  · simp only [dF, dE] at h
    simp only [dF, dE]
    rw [perS_end G p (by omega) hv]
  simp only [dF, dE] at h
  have hi' : i < p.pe.length := by omega
  have hg := getD_map (g := rD) (0, 0) hi'
  have hst : perS G 0 0 p.pe = perS G i (prvP p.pe i) ((p.pe.getD i (0, 0)) :: p.pe.drop (i + 1)) := by rw [hv, drop_get (0, 0) hi']
  rw [perS] at hst
  have hpn : prvP p.pe (i + 1) = (p.pe.getD i (0, 0)).1 := by simp [prvP]
  generalize p.pe.getD i (0, 0) = x at hg hst hpn
  have hw : IntKind.wrap .i64 ((i : Int) + 1) = ((i + 1 : Nat) : Int) := by rw [wrap_i64 (by omega) (by omega)]; omega
  refine den_ev (evs_ob (by simp only [dF, dE]; omega) (evs_ob (by simp only [dF, dE]; omega) (evs_nil ?_)))
  refine den_join (fun xs => xs = [] ∧ ¬ (i = 0 ∧ x.1 ≠ 0)) ?_ ?_
  · refine den_ite (fun h1 => ?_) (fun h1 => ?_)
    · simp only [dF, dE] at h1
      refine den_ite (fun h2 => den_ret ?_) (fun h2 => ?_)
      · simp only [dF, dE, hg] at h2
        simp only [dF, dE]
        rw [hst, if_pos (.inl ⟨by omega, h2⟩)]
      · simp only [dF, dE, hg] at h2
        exact den_back rfl ⟨rfl, fun c => c.2 h2⟩ (by simp only []; omega)
    · simp only [dF, dE] at h1
      exact den_back rfl ⟨rfl, by omega⟩ (by simp only []; omega)
  rintro _ ⟨rfl, k1⟩
  (try simp only [List.cons_append, List.nil_append])
  refine den_join (fun xs => xs = [] ∧ ¬ (0 < i ∧ (x.1 ≤ prvP p.pe i ∨ G < x.1))) ?_ ?_
  · refine den_ite (fun h1 => ?_) (fun h1 => ?_)
    · simp only [dF, dE] at h1
      have hwp : IntKind.wrap .i64 ((i : Int) - 1) = ((i - 1 : Nat) : Int) := by rw [wrap_i64 (by omega) (by omega)]; omega
      have hgp := getD_map (g := rD) (0, 0) (show i - 1 < p.pe.length by omega)
      have hpp : prvP p.pe i = (p.pe.getD (i - 1) (0, 0)).1 := rfl
      refine den_ev (evs_ob (by simp only [dF, dE, hwp]; omega) (evs_ob (by simp only [dF, dE, hwp]; omega) (evs_nil ?_)))
      refine den_ite (fun h2 => den_ret ?_) (fun h2 => ?_)
      · simp only [dF, dE, hg, hwp, hgp] at h2
        simp only [dF, dE]
        rw [hst, if_pos (.inr ⟨by omega, .inl (by omega)⟩)]
      simp only [dF, dE, hg, hwp, hgp] at h2
      refine den_ite (fun h3 => den_ret ?_) (fun h3 => ?_)
      · simp only [dF, dE, hg] at h3
        simp only [dF, dE]
        rw [hst, if_pos (.inr ⟨by omega, .inr (by omega)⟩)]
      · simp only [dF, dE, hg] at h3
        exact den_back rfl ⟨rfl, by omega⟩ (by simp only []; omega)
    · simp only [dF, dE] at h1
      exact den_back rfl ⟨rfl, by omega⟩ (by simp only []; omega)
  rintro _ ⟨rfl, k2⟩
  (try simp only [List.cons_append, List.nil_append])
  rw [if_neg (fun c => c.elim k1 k2)] at hst
  refine den_ite (fun h1 => den_ret ?_) (fun h1 => ?_)
  · simp only [dF, dE, hg] at h1
    simp only [dF, dE]
    rw [hst, if_pos (.inl h1)]
  simp only [dF, dE, hg] at h1
  refine den_ite (fun h2 => den_ret ?_) (fun h2 => ?_)
  · simp only [dF, dE, hg] at h2
    simp only [dF, dE]
    rw [hst, if_pos (.inr h2)]
  simp only [dF, dE, hg] at h2
  rw [if_neg (by omega), ← hpn] at hst
  exact den_back rfl ⟨q, i + 1, (by simp only [dF, dE]; rw [hw]), by omega, hst⟩ (by simp only []; simp only [dF, dE]; rw [hw]; omega)
theorem prof_1 {p : Prof} (h : pNum p = false) : profS p = 2 := by unfold profS; rw [if_pos h]
theorem prof_4 {p : Prof} (h : pNum p = true) (h2 : (p.pu = 3 ∧ ni p.tx = 0) ∨ (p.pu ≠ 3 ∧ p.tx.size ≠ 0)) : profS p = 4 := by unfold profS; rw [if_neg (by rw [h]; decide), if_pos h2]
theorem prof_i {p : Prof} (h : pNum p = true) (h2 : ¬ ((p.pu = 3 ∧ ni p.tx = 0) ∨ (p.pu ≠ 3 ∧ p.tx.size ≠ 0))) (h3 : (p.pu = 3 ∧ p.co = 0) ∨ (p.pu = 1 ∧ p.ki = 4)) : profS p = 1 := by unfold profS; rw [if_neg (by rw [h]; decide), if_neg h2, if_pos h3]
theorem prof_t {p : Prof} (h : pNum p = true) (h2 : ¬ ((p.pu = 3 ∧ ni p.tx = 0) ∨ (p.pu ≠ 3 ∧ p.tx.size ≠ 0))) (h3 : ¬ ((p.pu = 3 ∧ p.co = 0) ∨ (p.pu = 1 ∧ p.ki = 4))) : profS p = if pTim p = false then 2 else if 24 < (p.pe.length : Int) then 3 else if (p.pe.length : Int) = 0 then 1 else perS (perG p.ki) 0 0 p.pe := by unfold profS; rw [if_neg (by rw [h]; decide), if_neg h2, if_neg h3]
theorem pval_fn (p : Prof) (ht : p.tx.size ≤ maxLen) (hl : p.pe.length ≤ 4294967296) : Fun Try.prog [] 55 [tPr] [.rc (prL p)] [tI] (.ok [I64d (profS p)]) := by
  have hn := ni_rng p.tx
  refine pval_ent _ _ ?_
  show vcpval.den _ _ _ _ _
  unfold vcpval
  refine den_cal [.bool (pNum p)] rfl (pnum_fn p) rfl rfl ?_
  refine den_ite (fun h1 => ?_) (fun h1 => ?_)
  · simp only [dF, dE, str_eq, emp_iff, ni_t, ni_f] at h1
    refine den_ite (fun h2 => ?_) (fun h2 => ?_)
    · simp only [dF, dE, str_eq, emp_iff, ni_t, ni_f] at h2
      refine den_cal [.bool (nameS p.tx)] rfl (ident_fn p.tx (by assumption)) rfl rfl ?_
      refine den_ite (fun h3 => ?_) (fun h3 => ?_)
      · simp only [dF, dE, str_eq, emp_iff, ni_t, ni_f] at h3
        refine den_ite (fun h4 => ?_) (fun h4 => ?_)
        · simp only [dF, dE, str_eq, emp_iff, ni_t, ni_f] at h4
          refine den_ret ?_
          simp only [dF, dE]
          first | rw [prof_i ‹_› (by omega) (by omega)] | rw [prof_t ‹_› (by omega) (by omega), if_neg (by simp [*]), if_neg (by omega), if_pos (by omega)]
        · simp only [dF, dE, str_eq, emp_iff, ni_t, ni_f] at h4
          refine den_ite (fun h5 => ?_) (fun h5 => ?_)
          · simp only [dF, dE, str_eq, emp_iff, ni_t, ni_f] at h5
            refine den_ite (fun h6 => ?_) (fun h6 => ?_)
            · simp only [dF, dE, str_eq, emp_iff, ni_t, ni_f] at h6
              refine den_ret ?_
              simp only [dF, dE]
              first | rw [prof_i ‹_› (by omega) (by omega)] | rw [prof_t ‹_› (by omega) (by omega), if_neg (by simp [*]), if_neg (by omega), if_pos (by omega)]
            · simp only [dF, dE, str_eq, emp_iff, ni_t, ni_f] at h6
              refine den_cal [.bool (pTim p)] rfl (ptim_fn p) rfl rfl ?_
              refine den_ite (fun h7 => ?_) (fun h7 => ?_)
              · simp only [dF, dE, str_eq, emp_iff, ni_t, ni_f] at h7
                refine den_ite (fun h8 => ?_) (fun h8 => ?_)
                · simp only [dF, dE, str_eq, emp_iff, ni_t, ni_f] at h8
                  refine den_ret ?_
                  simp only [dF, dE]
                  rw [prof_t ‹_› (by omega) (by omega), if_neg (by simp [*]), if_pos (by omega)]
                · simp only [dF, dE, str_eq, emp_iff, ni_t, ni_f] at h8
                  refine den_ite (fun h9 => ?_) (fun h9 => ?_)
                  · simp only [dF, dE, str_eq, emp_iff, ni_t, ni_f] at h9
                    refine den_ret ?_
                    simp only [dF, dE]
                    first | rw [prof_i ‹_› (by omega) (by omega)] | rw [prof_t ‹_› (by omega) (by omega), if_neg (by simp [*]), if_neg (by omega), if_pos (by omega)]
                  · simp only [dF, dE, str_eq, emp_iff, ni_t, ni_f] at h9
                    refine den_cal [I64d (perS (perG p.ki) 0 0 p.pe)] rfl (peri_fn p (by omega)) rfl rfl ?_
                    refine den_ret ?_
                    simp only [dF, dE]
                    rw [prof_t ‹_› (by omega) (by omega), if_neg (by simp [*]), if_neg (by omega), if_neg (by omega)]
              · simp only [dF, dE, str_eq, emp_iff, ni_t, ni_f] at h7
                refine den_ret ?_
                simp only [dF, dE]
                first | rw [prof_1 ‹_›] | rw [prof_t ‹_› (by omega) (by omega), if_pos (by assumption)]
          · simp only [dF, dE, str_eq, emp_iff, ni_t, ni_f] at h5
            refine den_cal [.bool (pTim p)] rfl (ptim_fn p) rfl rfl ?_
            refine den_ite (fun h10 => ?_) (fun h10 => ?_)
            · simp only [dF, dE, str_eq, emp_iff, ni_t, ni_f] at h10
              refine den_ite (fun h11 => ?_) (fun h11 => ?_)
              · simp only [dF, dE, str_eq, emp_iff, ni_t, ni_f] at h11
                refine den_ret ?_
                simp only [dF, dE]
                rw [prof_t ‹_› (by omega) (by omega), if_neg (by simp [*]), if_pos (by omega)]
              · simp only [dF, dE, str_eq, emp_iff, ni_t, ni_f] at h11
                refine den_ite (fun h12 => ?_) (fun h12 => ?_)
                · simp only [dF, dE, str_eq, emp_iff, ni_t, ni_f] at h12
                  refine den_ret ?_
                  simp only [dF, dE]
                  first | rw [prof_i ‹_› (by omega) (by omega)] | rw [prof_t ‹_› (by omega) (by omega), if_neg (by simp [*]), if_neg (by omega), if_pos (by omega)]
                · simp only [dF, dE, str_eq, emp_iff, ni_t, ni_f] at h12
                  refine den_cal [I64d (perS (perG p.ki) 0 0 p.pe)] rfl (peri_fn p (by omega)) rfl rfl ?_
                  refine den_ret ?_
                  simp only [dF, dE]
                  rw [prof_t ‹_› (by omega) (by omega), if_neg (by simp [*]), if_neg (by omega), if_neg (by omega)]
            · simp only [dF, dE, str_eq, emp_iff, ni_t, ni_f] at h10
              refine den_ret ?_
              simp only [dF, dE]
              first | rw [prof_1 ‹_›] | rw [prof_t ‹_› (by omega) (by omega), if_pos (by assumption)]
      · simp only [dF, dE, str_eq, emp_iff, ni_t, ni_f] at h3
        refine den_ret ?_
        simp only [dF, dE]
        rw [prof_4 ‹_› (by omega)]
    · simp only [dF, dE, str_eq, emp_iff, ni_t, ni_f] at h2
      refine den_ite (fun h13 => ?_) (fun h13 => ?_)
      · simp only [dF, dE, str_eq, emp_iff, ni_t, ni_f] at h13
        refine den_ite (fun h14 => ?_) (fun h14 => ?_)
        · simp only [dF, dE, str_eq, emp_iff, ni_t, ni_f] at h14
          refine den_ite (fun h15 => ?_) (fun h15 => ?_)
          · simp only [dF, dE, str_eq, emp_iff, ni_t, ni_f] at h15
            refine den_ret ?_
            simp only [dF, dE]
            first | rw [prof_i ‹_› (by omega) (by omega)] | rw [prof_t ‹_› (by omega) (by omega), if_neg (by simp [*]), if_neg (by omega), if_pos (by omega)]
          · simp only [dF, dE, str_eq, emp_iff, ni_t, ni_f] at h15
            refine den_cal [.bool (pTim p)] rfl (ptim_fn p) rfl rfl ?_
            refine den_ite (fun h16 => ?_) (fun h16 => ?_)
            · simp only [dF, dE, str_eq, emp_iff, ni_t, ni_f] at h16
              refine den_ite (fun h17 => ?_) (fun h17 => ?_)
              · simp only [dF, dE, str_eq, emp_iff, ni_t, ni_f] at h17
                refine den_ret ?_
                simp only [dF, dE]
                rw [prof_t ‹_› (by omega) (by omega), if_neg (by simp [*]), if_pos (by omega)]
              · simp only [dF, dE, str_eq, emp_iff, ni_t, ni_f] at h17
                refine den_ite (fun h18 => ?_) (fun h18 => ?_)
                · simp only [dF, dE, str_eq, emp_iff, ni_t, ni_f] at h18
                  refine den_ret ?_
                  simp only [dF, dE]
                  first | rw [prof_i ‹_› (by omega) (by omega)] | rw [prof_t ‹_› (by omega) (by omega), if_neg (by simp [*]), if_neg (by omega), if_pos (by omega)]
                · simp only [dF, dE, str_eq, emp_iff, ni_t, ni_f] at h18
                  refine den_cal [I64d (perS (perG p.ki) 0 0 p.pe)] rfl (peri_fn p (by omega)) rfl rfl ?_
                  refine den_ret ?_
                  simp only [dF, dE]
                  rw [prof_t ‹_› (by omega) (by omega), if_neg (by simp [*]), if_neg (by omega), if_neg (by omega)]
            · simp only [dF, dE, str_eq, emp_iff, ni_t, ni_f] at h16
              refine den_ret ?_
              simp only [dF, dE]
              first | rw [prof_1 ‹_›] | rw [prof_t ‹_› (by omega) (by omega), if_pos (by assumption)]
        · simp only [dF, dE, str_eq, emp_iff, ni_t, ni_f] at h14
          refine den_cal [.bool (pTim p)] rfl (ptim_fn p) rfl rfl ?_
          refine den_ite (fun h19 => ?_) (fun h19 => ?_)
          · simp only [dF, dE, str_eq, emp_iff, ni_t, ni_f] at h19
            refine den_ite (fun h20 => ?_) (fun h20 => ?_)
            · simp only [dF, dE, str_eq, emp_iff, ni_t, ni_f] at h20
              refine den_ret ?_
              simp only [dF, dE]
              rw [prof_t ‹_› (by omega) (by omega), if_neg (by simp [*]), if_pos (by omega)]
            · simp only [dF, dE, str_eq, emp_iff, ni_t, ni_f] at h20
              refine den_ite (fun h21 => ?_) (fun h21 => ?_)
              · simp only [dF, dE, str_eq, emp_iff, ni_t, ni_f] at h21
                refine den_ret ?_
                simp only [dF, dE]
                first | rw [prof_i ‹_› (by omega) (by omega)] | rw [prof_t ‹_› (by omega) (by omega), if_neg (by simp [*]), if_neg (by omega), if_pos (by omega)]
              · simp only [dF, dE, str_eq, emp_iff, ni_t, ni_f] at h21
                refine den_cal [I64d (perS (perG p.ki) 0 0 p.pe)] rfl (peri_fn p (by omega)) rfl rfl ?_
                refine den_ret ?_
                simp only [dF, dE]
                rw [prof_t ‹_› (by omega) (by omega), if_neg (by simp [*]), if_neg (by omega), if_neg (by omega)]
          · simp only [dF, dE, str_eq, emp_iff, ni_t, ni_f] at h19
            refine den_ret ?_
            simp only [dF, dE]
            first | rw [prof_1 ‹_›] | rw [prof_t ‹_› (by omega) (by omega), if_pos (by assumption)]
      · simp only [dF, dE, str_eq, emp_iff, ni_t, ni_f] at h13
        refine den_ret ?_
        simp only [dF, dE]
        rw [prof_4 ‹_› (by omega)]
  · simp only [dF, dE, str_eq, emp_iff, ni_t, ni_f] at h1
    refine den_ret ?_
    simp only [dF, dE]
    first | rw [prof_1 ‹_›] | rw [prof_t ‹_› (by omega) (by omega), if_pos (by assumption)]
theorem tval_fn (t : Tok) (h1' : t.id.size ≤ maxLen) (h2' : t.gr.size ≤ maxLen) (h3' : t.co.size ≤ maxLen) : Fun Try.prog [] 78 [.g [.str, .str, .str, .int .i64, .int .i64, .int .i64]] [tkD t] [tI] (.ok [I64d (tokS t)]) := by
  have n1 := ni_rng t.id
  have n2 := ni_rng t.gr
  have n3 := ni_rng t.co
  refine tval_ent _ _ ?_
  show vctval.den _ _ _ _ _
  unfold vctval
  refine den_cal [.bool (nameS t.id)] rfl (ident_fn t.id (by assumption)) rfl rfl ?_
  refine den_ite (fun h1 => ?_) (fun h1 => ?_)
  · simp only [dF, dE, str_eq, emp_iff, ni_t, ni_f] at h1
    refine den_join (fun xs => xs = [] ∧ (¬ (ni t.id = 0 ∨ (t.gr.size ≠ 0 ∧ ni t.gr = 0) ∨ (t.co.size ≠ 0 ∧ ni t.co = 0)))) ?_ ?_
    · skip
      refine den_ite (fun h2 => ?_) (fun h2 => ?_)
      · simp only [dF, dE, str_eq, emp_iff, ni_t, ni_f] at h2
        refine den_ite (fun h3 => ?_) (fun h3 => ?_)
        · simp only [dF, dE, str_eq, emp_iff, ni_t, ni_f] at h3
          exact den_back rfl ⟨rfl, by omega⟩ (by simp only []; omega)
        · simp only [dF, dE, str_eq, emp_iff, ni_t, ni_f] at h3
          refine den_cal [.bool (nameS t.co)] rfl (ident_fn t.co (by assumption)) rfl rfl ?_
          refine den_ite (fun h4 => ?_) (fun h4 => ?_)
          · simp only [dF, dE, str_eq, emp_iff, ni_t, ni_f] at h4
            exact den_back rfl ⟨rfl, by omega⟩ (by simp only []; omega)
          · simp only [dF, dE, str_eq, emp_iff, ni_t, ni_f] at h4
            refine den_ret ?_
            simp only [dF, dE]
            rw [show tokS t = 4 from by unfold tokS; rw [if_pos (by omega)]]
      · simp only [dF, dE, str_eq, emp_iff, ni_t, ni_f] at h2
        refine den_cal [.bool (nameS t.gr)] rfl (ident_fn t.gr (by assumption)) rfl rfl ?_
        refine den_ite (fun h5 => ?_) (fun h5 => ?_)
        · simp only [dF, dE, str_eq, emp_iff, ni_t, ni_f] at h5
          refine den_ite (fun h6 => ?_) (fun h6 => ?_)
          · simp only [dF, dE, str_eq, emp_iff, ni_t, ni_f] at h6
            exact den_back rfl ⟨rfl, by omega⟩ (by simp only []; omega)
          · simp only [dF, dE, str_eq, emp_iff, ni_t, ni_f] at h6
            refine den_cal [.bool (nameS t.co)] rfl (ident_fn t.co (by assumption)) rfl rfl ?_
            refine den_ite (fun h7 => ?_) (fun h7 => ?_)
            · simp only [dF, dE, str_eq, emp_iff, ni_t, ni_f] at h7
              exact den_back rfl ⟨rfl, by omega⟩ (by simp only []; omega)
            · simp only [dF, dE, str_eq, emp_iff, ni_t, ni_f] at h7
              refine den_ret ?_
              simp only [dF, dE]
              rw [show tokS t = 4 from by unfold tokS; rw [if_pos (by omega)]]
        · simp only [dF, dE, str_eq, emp_iff, ni_t, ni_f] at h5
          refine den_ret ?_
          simp only [dF, dE]
          rw [show tokS t = 4 from by unfold tokS; rw [if_pos (by omega)]]
    rintro _ ⟨rfl, kJ1⟩
    (try simp only [List.cons_append, List.nil_append])
    refine den_ite (fun h8 => ?_) (fun h8 => ?_)
    · simp only [dF, dE, str_eq, emp_iff, ni_t, ni_f] at h8
      refine den_ret ?_
      simp only [dF, dE]
      rw [show tokS t = 2 from by unfold tokS; rw [if_neg (by omega), if_pos (by omega)]]
    · simp only [dF, dE, str_eq, emp_iff, ni_t, ni_f] at h8
      refine den_ite (fun h9 => ?_) (fun h9 => ?_)
      · simp only [dF, dE, str_eq, emp_iff, ni_t, ni_f] at h9
        refine den_ret ?_
        simp only [dF, dE]
        rw [show tokS t = 2 from by unfold tokS; rw [if_neg (by omega), if_pos (by omega)]]
      · simp only [dF, dE, str_eq, emp_iff, ni_t, ni_f] at h9
        refine den_ite (fun h10 => ?_) (fun h10 => ?_)
        · simp only [dF, dE, str_eq, emp_iff, ni_t, ni_f] at h10
          refine den_ret ?_
          simp only [dF, dE]
          rw [show tokS t = 2 from by unfold tokS; rw [if_neg (by omega), if_pos (by omega)]]
        · simp only [dF, dE, str_eq, emp_iff, ni_t, ni_f] at h10
          refine den_ite (fun h11 => ?_) (fun h11 => ?_)
          · simp only [dF, dE, str_eq, emp_iff, ni_t, ni_f] at h11
            refine den_ret ?_
            simp only [dF, dE]
            rw [show tokS t = 2 from by unfold tokS; rw [if_neg (by omega), if_pos (by omega)]]
          · simp only [dF, dE, str_eq, emp_iff, ni_t, ni_f] at h11
            refine den_ite (fun h12 => ?_) (fun h12 => ?_)
            · simp only [dF, dE, str_eq, emp_iff, ni_t, ni_f] at h12
              refine den_ret ?_
              simp only [dF, dE]
              rw [show tokS t = 2 from by unfold tokS; rw [if_neg (by omega), if_pos (by omega)]]
            · simp only [dF, dE, str_eq, emp_iff, ni_t, ni_f] at h12
              refine den_ite (fun h13 => ?_) (fun h13 => ?_)
              · simp only [dF, dE, str_eq, emp_iff, ni_t, ni_f] at h13
                refine den_ret ?_
                simp only [dF, dE]
                rw [show tokS t = 2 from by unfold tokS; rw [if_neg (by omega), if_pos (by omega)]]
              · simp only [dF, dE, str_eq, emp_iff, ni_t, ni_f] at h13
                refine den_ret ?_
                simp only [dF, dE]
                rw [show tokS t = 0 from by unfold tokS; rw [if_neg (by omega), if_neg (by omega)]]
  · simp only [dF, dE, str_eq, emp_iff, ni_t, ni_f] at h1
    refine den_ret ?_
    simp only [dF, dE]
    rw [show tokS t = 4 from by unfold tokS; rw [if_pos (by omega)]]
theorem entry_fn (t : Tok) (h1' : t.id.size ≤ maxLen) (h2' : t.gr.size ≤ maxLen) (h3' : t.co.size ≤ maxLen) : Fun Try.prog [] 56 [.g [.str, .str, .str, .int .i64, .int .i64, .int .i64]] [tkD t] [tI] (.ok [I64d (itemS t)]) := by
  have n1 := ni_rng t.id
  have n2 := ni_rng t.gr
  have n3 := ni_rng t.co
  refine entry_ent _ _ ?_
  show vcentry.den _ _ _ _ _
  unfold vcentry
  refine den_ite (fun h1 => ?_) (fun h1 => ?_)
  · simp only [dF, dE, str_eq, emp_iff, ni_t, ni_f] at h1
    refine den_cal [I64d (tokS t)] rfl (tval_fn t h1' h2' h3') rfl rfl ?_
    refine den_ret ?_
    simp only [dF, dE]
    rw [show itemS t = tokS t from by unfold itemS; rw [if_pos (by omega)]]
  · simp only [dF, dE, str_eq, emp_iff, ni_t, ni_f] at h1
    refine den_cal [.bool (nameS t.id)] rfl (ident_fn t.id (by assumption)) rfl rfl ?_
    refine den_ite (fun h2 => ?_) (fun h2 => ?_)
    · simp only [dF, dE, str_eq, emp_iff, ni_t, ni_f] at h2
      refine den_ite (fun h3 => ?_) (fun h3 => ?_)
      · simp only [dF, dE, str_eq, emp_iff, ni_t, ni_f, eq_self, true_and, and_true] at h3
        refine den_ret ?_
        simp only [dF, dE]
        rw [show itemS t = 0 from by unfold itemS; rw [if_neg (by omega), if_neg (by omega), if_pos (by omega)]]
      · rw [← Bool.not_eq_true] at h3; simp only [dF, dE, str_eq, emp_iff, ni_t, ni_f, eq_self, true_and, and_true] at h3
        refine den_ret ?_
        simp only [dF, dE]
        rw [show itemS t = 1 from by unfold itemS; rw [if_neg (by omega), if_neg (by omega), if_neg (by omega)]]
    · simp only [dF, dE, str_eq, emp_iff, ni_t, ni_f] at h2
      refine den_ret ?_
      simp only [dF, dE]
      rw [show itemS t = 4 from by unfold itemS; rw [if_neg (by omega), if_pos (by omega)]]
theorem uic_fn (a : Int) : Fun Try.prog [] 53 [tI] [I64d a] [tI, tB] (.ok [I64d (useC a), .bool (actP a)]) := by
  refine uic_ent _ _ ?_
  show vcuic.den _ _ _ _ _
  unfold vcuic
  refine den_ite (fun h1 => ?_) (fun h1 => ?_)
  · simp only [dF, dE, str_eq, emp_iff, ni_t, ni_f] at h1
    refine den_ret ?_
    subst h1
    rfl
  · simp only [dF, dE, str_eq, emp_iff, ni_t, ni_f] at h1
    refine den_ite (fun h2 => ?_) (fun h2 => ?_)
    · simp only [dF, dE, str_eq, emp_iff, ni_t, ni_f] at h2
      refine den_ret ?_
      subst h2
      rfl
    · simp only [dF, dE, str_eq, emp_iff, ni_t, ni_f] at h2
      refine den_ite (fun h3 => ?_) (fun h3 => ?_)
      · simp only [dF, dE, str_eq, emp_iff, ni_t, ni_f] at h3
        refine den_ret ?_
        subst h3
        rfl
      · simp only [dF, dE, str_eq, emp_iff, ni_t, ni_f] at h3
        refine den_ite (fun h4 => ?_) (fun h4 => ?_)
        · simp only [dF, dE, str_eq, emp_iff, ni_t, ni_f] at h4
          refine den_ret ?_
          subst h4
          rfl
        · simp only [dF, dE, str_eq, emp_iff, ni_t, ni_f] at h4
          refine den_ite (fun h5 => ?_) (fun h5 => ?_)
          · simp only [dF, dE, str_eq, emp_iff, ni_t, ni_f] at h5
            refine den_ret ?_
            subst h5
            rfl
          · simp only [dF, dE, str_eq, emp_iff, ni_t, ni_f] at h5
            refine den_ite (fun h6 => ?_) (fun h6 => ?_)
            · simp only [dF, dE, str_eq, emp_iff, ni_t, ni_f] at h6
              refine den_ret ?_
              subst h6
              rfl
            · simp only [dF, dE, str_eq, emp_iff, ni_t, ni_f] at h6
              refine den_ite (fun h7 => ?_) (fun h7 => ?_)
              · simp only [dF, dE, str_eq, emp_iff, ni_t, ni_f] at h7
                refine den_ret ?_
                subst h7
                rfl
              · simp only [dF, dE, str_eq, emp_iff, ni_t, ni_f] at h7
                refine den_ite (fun h8 => ?_) (fun h8 => ?_)
                · simp only [dF, dE, str_eq, emp_iff, ni_t, ni_f] at h8
                  refine den_ret ?_
                  subst h8
                  rfl
                · simp only [dF, dE, str_eq, emp_iff, ni_t, ni_f] at h8
                  refine den_ite (fun h9 => ?_) (fun h9 => ?_)
                  · simp only [dF, dE, str_eq, emp_iff, ni_t, ni_f] at h9
                    refine den_ret ?_
                    subst h9
                    rfl
                  · simp only [dF, dE, str_eq, emp_iff, ni_t, ni_f] at h9
                    refine den_ite (fun h10 => ?_) (fun h10 => ?_)
                    · simp only [dF, dE, str_eq, emp_iff, ni_t, ni_f] at h10
                      refine den_ret ?_
                      subst h10
                      rfl
                    · simp only [dF, dE, str_eq, emp_iff, ni_t, ni_f] at h10
                      refine den_ite (fun h11 => ?_) (fun h11 => ?_)
                      · simp only [dF, dE, str_eq, emp_iff, ni_t, ni_f] at h11
                        refine den_ret ?_
                        subst h11
                        rfl
                      · simp only [dF, dE, str_eq, emp_iff, ni_t, ni_f] at h11
                        refine den_ite (fun h12 => ?_) (fun h12 => ?_)
                        · simp only [dF, dE, str_eq, emp_iff, ni_t, ni_f] at h12
                          refine den_ret ?_
                          subst h12
                          rfl
                        · simp only [dF, dE, str_eq, emp_iff, ni_t, ni_f] at h12
                          refine den_ite (fun h13 => ?_) (fun h13 => ?_)
                          · simp only [dF, dE, str_eq, emp_iff, ni_t, ni_f] at h13
                            refine den_ret ?_
                            subst h13
                            rfl
                          · simp only [dF, dE, str_eq, emp_iff, ni_t, ni_f] at h13
                            refine den_ite (fun h14 => ?_) (fun h14 => ?_)
                            · simp only [dF, dE, str_eq, emp_iff, ni_t, ni_f] at h14
                              refine den_ret ?_
                              subst h14
                              rfl
                            · simp only [dF, dE, str_eq, emp_iff, ni_t, ni_f] at h14
                              refine den_ite (fun h15 => ?_) (fun h15 => ?_)
                              · simp only [dF, dE, str_eq, emp_iff, ni_t, ni_f] at h15
                                refine den_ret ?_
                                subst h15
                                rfl
                              · simp only [dF, dE, str_eq, emp_iff, ni_t, ni_f] at h15
                                refine den_ite (fun h16 => ?_) (fun h16 => ?_)
                                · simp only [dF, dE, str_eq, emp_iff, ni_t, ni_f] at h16
                                  refine den_ret ?_
                                  subst h16
                                  rfl
                                · simp only [dF, dE, str_eq, emp_iff, ni_t, ni_f] at h16
                                  refine den_ite (fun h17 => ?_) (fun h17 => ?_)
                                  · simp only [dF, dE, str_eq, emp_iff, ni_t, ni_f] at h17
                                    refine den_ret ?_
                                    subst h17
                                    rfl
                                  · simp only [dF, dE, str_eq, emp_iff, ni_t, ni_f] at h17
                                    refine den_ite (fun h18 => ?_) (fun h18 => ?_)
                                    · simp only [dF, dE, str_eq, emp_iff, ni_t, ni_f] at h18
                                      refine den_ret ?_
                                      subst h18
                                      rfl
                                    · simp only [dF, dE, str_eq, emp_iff, ni_t, ni_f] at h18
                                      refine den_ret ?_
                                      simp only [dF, dE]
                                      rw [show useC a = 0 from by unfold useC; simp only [h1, h2, h3, h4, h5, h6, h7, h8, h9, h10, h11, h12, h13, h14, h15, h16, h17, h18, if_false], show actP a = false from by unfold actP; rw [decide_eq_false_iff_not]; omega]
theorem usd_fn (k a : Int) : Fun Try.prog [] 30 [tI, tI] [I64d k, I64d a] [tI, tB] (.ok [I64d (useK k a), .bool (actP a)]) := by
  refine usd_ent _ _ ?_
  show vcusd.den _ _ _ _ _
  unfold vcusd
  refine den_cal [I64d (useC a), .bool (actP a)] rfl (uic_fn a) rfl rfl ?_
  refine den_ite (fun h1 => ?_) (fun h1 => ?_)
  · simp only [dF, dE, str_eq, emp_iff, ni_t, ni_f] at h1
    refine den_ret ?_
    simp only [dF, dE]
    rw [show useK k a = 154 from by unfold useK; rw [if_pos h1]]
  · simp only [dF, dE, str_eq, emp_iff, ni_t, ni_f] at h1
    refine den_ite (fun h2 => ?_) (fun h2 => ?_)
    · simp only [dF, dE, str_eq, emp_iff, ni_t, ni_f] at h2
      refine den_ret ?_
      simp only [dF, dE]
      rw [show useK k a = 2 from by unfold useK; rw [if_neg h1, if_pos h2]]
    · simp only [dF, dE, str_eq, emp_iff, ni_t, ni_f] at h2
      refine den_ret ?_
      simp only [dF, dE]
      rw [show useK k a = useC a from by unfold useK; rw [if_neg h1, if_neg h2]]
theorem bv_wrap (v : BitVec 64) : BitVec.ofInt 64 (IntKind.wrap .i64 (v.toNat : Int)) = v := by
  have h := v.isLt
  apply BitVec.eq_of_toNat_eq
  rw [BitVec.toNat_ofInt]
  simp [IntKind.wrap, IntKind.bits, IntKind.signed]
  omega
theorem wrap_zero (v : BitVec 64) : IntKind.wrap .i64 (v.toNat : Int) = 0 ↔ v = 0 := by
  constructor
  · intro h
    rw [← bv_wrap v, h]
    rfl
  · rintro rfl
    decide
theorem andNot_or (r s u : Int) : (arI .andNot .i64 (arI .or .i64 r s) u = 0) ↔ (arI .andNot .i64 r u = 0 ∧ arI .andNot .i64 s u = 0) := by
  show (IntKind.wrap .i64 ((BitVec.ofInt 64 (IntKind.wrap .i64 ((BitVec.ofInt 64 r ||| BitVec.ofInt 64 s).toNat : Int)) &&& ~~~ BitVec.ofInt 64 u).toNat : Int) = 0) ↔ (IntKind.wrap .i64 ((BitVec.ofInt 64 r &&& ~~~ BitVec.ofInt 64 u).toNat : Int) = 0) ∧ (IntKind.wrap .i64 ((BitVec.ofInt 64 s &&& ~~~ BitVec.ofInt 64 u).toNat : Int) = 0)
  rw [bv_wrap, wrap_zero, wrap_zero, wrap_zero, BitVec.and_comm (_ ||| _), BitVec.and_or_distrib_left]
  rw [BitVec.and_comm (BitVec.ofInt 64 r), BitVec.and_comm (BitVec.ofInt 64 s)]
  generalize ~~~ BitVec.ofInt 64 u &&& BitVec.ofInt 64 r = a
  generalize ~~~ BitVec.ofInt 64 u &&& BitVec.ofInt 64 s = b
  constructor
  · intro h
    have h1 : ∀ i : Nat, a.getLsbD i = false ∧ b.getLsbD i = false := fun i => by
      have := congrArg (fun v : BitVec 64 => v.getLsbD i) h
      simpa using this
    exact ⟨BitVec.eq_of_getLsbD_eq fun i _ => by rw [(h1 i).1]; simp, BitVec.eq_of_getLsbD_eq fun i _ => by rw [(h1 i).2]; simp⟩
  · rintro ⟨rfl, rfl⟩
    simp
def presR : Int → Nat → List Bool → Int
  | r, _, [] => r
  | r, i, b :: l => presR (if b = true then arI .or .i64 r (shI .shl .i64 1 i) else r) (i + 1) l
theorem presR_ext {u : Int} {L : List Int} (hb : ∀ i : Nat, i < 12 → ((arI .andNot .i64 (shI .shl .i64 1 i) u = 0) ↔ (mi L (i + 4) = 1))) : ∀ (l : List Bool) (r : Int) (i : Nat), i + l.length ≤ 12 → ((arI .andNot .i64 (presR r i l) u = 0) ↔ (arI .andNot .i64 r u = 0 ∧ extS L i l = false))
  | [], r, i, _ => by simp [presR, extS]
  | b :: l, r, i, h => by
    simp only [List.length_cons] at h
    rw [presR, presR_ext hb l _ (i + 1) (by omega), extS]
    have hm := mi_rng L (i + 4)
    have hbi := hb i (by omega)
    cases b with
    | false => simp
    | true =>
      simp only [if_true, true_and]
      rw [andNot_or, hbi]
      by_cases hc : mi L (i + 4) = 0
      · simp [hc]
      · simp [show mi L (i + 4) = 1 by omega]
def useT (k a : Int) : Bool := (List.range 12).all fun (i : Nat) => ((arI .andNot .i64 (shI .shl .i64 1 i) (useK k a) == 0) == (mi (useL k a) (i + 4) == 1)) && ((arI .and .i64 (useK k a) (2 ^ i) == 0) == (mi (useL k a) (i + 4) == 0))
theorem use_tab : (([1, 2, 3] : List Int).all fun k => ([1, 2, 3, 4, 5, 6, 7, 8, 11, 12, 13, 14, 15, 16, 17, 18, 19, 20] : List Int).all fun a => useT k a) = true := by kernel_rfl
theorem use_T {k a : Int} (hk : 1 ≤ k ∧ k ≤ 3) (ha : actP a = true) : useT k a = true := by
  have h1 := List.all_eq_true.1 use_tab k (by simp only [List.mem_cons, List.not_mem_nil, or_false]; omega)
  exact List.all_eq_true.1 h1 a (by have := act_cases ha; simp only [List.mem_cons, List.not_mem_nil, or_false]; omega)
theorem use_not {k a : Int} (hk : 1 ≤ k ∧ k ≤ 3) (ha : actP a = true) : ∀ i : Nat, i < 12 → ((arI .andNot .i64 (shI .shl .i64 1 i) (useK k a) = 0) ↔ (mi (useL k a) (i + 4) = 1)) := fun i hi => by
  have h := List.all_eq_true.1 (use_T hk ha) i (List.mem_range.2 hi)
  rw [Bool.and_eq_true] at h
  have h1 := h.1
  rw [beq_iff_eq, Bool.eq_iff_iff, beq_iff_eq, beq_iff_eq] at h1
  exact h1
theorem use_and {k a : Int} (hk : 1 ≤ k ∧ k ≤ 3) (ha : actP a = true) (i : Nat) (hi : i < 12) : (arI .and .i64 (useK k a) (2 ^ i) = 0) = (mi (useL k a) (i + 4) = 0) := by
  have h := List.all_eq_true.1 (use_T hk ha) i (List.mem_range.2 hi)
  rw [Bool.and_eq_true] at h
  have h1 := h.2
  rw [beq_iff_eq, Bool.eq_iff_iff, beq_iff_eq, beq_iff_eq] at h1
  exact propext h1
def fulD (m : Msg) (b : Bool) : List Bool := [m.co != 0, m.st != 0, m.sq != 0, m.at' != 0, m.va != 0, !(m.tx.toList == (⟨List.toArray []⟩ : ByteArray).toList), !(m.tk.toList == (⟨List.toArray []⟩ : ByteArray).toList), !(m.te.toList == (⟨List.toArray []⟩ : ByteArray).toList), m.off, decide (((m.rd.map rD).length : Int) > 0), b, decide (((m.tks.map tkD).length : Int) > 0)]
theorem str_emp (s : ByteArray) : (!(s.toList == (⟨List.toArray []⟩ : ByteArray).toList)) = decide (s.size ≠ 0) := by
  rw [str_eq, Bool.eq_iff_iff]
  simp only [Bool.not_eq_true', decide_eq_false_iff_not, decide_eq_true_eq]
  rw [show (⟨List.toArray []⟩ : ByteArray) = ⟨#[]⟩ from rfl, emp_iff]
theorem nat_pos (n : Nat) : decide ((n : Int) > 0) = decide (n ≠ 0) := by rw [decide_eq_decide]; omega
theorem int_ne (n : Int) : (n != 0) = decide (n ≠ 0) := by rw [Bool.eq_iff_iff]; simp
theorem fulD_eq (m : Msg) : fulD m (decide (m.p ≠ prof0)) = fulL m := by unfold fulD fulL; rw [List.length_map, List.length_map, str_emp, str_emp, str_emp, nat_pos, nat_pos, int_ne, int_ne, int_ne, int_ne, int_ne]
theorem pr_iff (p : Prof) : (¬ (p.id = 0 ∧ p.lv = 0 ∧ p.pu = 0 ∧ p.ki = 0 ∧ p.co = 0 ∧ p.tx.size = 0 ∧ p.fr = 0 ∧ p.to = 0 ∧ p.st = 0 ∧ p.du = 0 ∧ (p.pe.length : Int) = 0)) ↔ p ≠ prof0 := by
  refine not_congr ⟨?_, ?_⟩
  · rintro ⟨h1, h2, h3, h4, h5, h6, h7, h8, h9, h10, h11⟩
    have h12 : p.pe = [] := List.length_eq_zero_iff.1 (by omega)
    rw [← emp_iff] at h6
    cases p
    simp only at *
    subst h1 h2 h3 h4 h5 h6 h7 h8 h9 h10 h12
    rfl
  · rintro rfl
    exact ⟨rfl, rfl, rfl, rfl, rfl, rfl, rfl, rfl, rfl, rfl, rfl⟩
theorem pres_fn (m : Msg) : Fun Try.prog [] 31 [tM] [msD m] [tI] (.ok [I64d (presR 0 0 (fulL m))]) := by
  refine pres_ent _ _ ?_
  show vcpres.den _ _ _ _ _
  unfold vcpres
  refine den_join (fun xs => xs = [.bool (decide (m.p ≠ prof0))]) ?_ ?_
  · skip
    refine den_ite (fun h1 => ?_) (fun h1 => ?_)
    · simp only [dF, dE, str_eq, emp_iff, ni_t, ni_f] at h1
      have hne : m.p ≠ prof0 := (pr_iff m.p).1 (by omega)
      refine den_back rfl ?_ (by simp only []; omega)
      simp only [dF, dE]
      rw [decide_eq_true hne]
    · simp only [dF, dE, str_eq, emp_iff, ni_t, ni_f] at h1
      refine den_ite (fun h2 => ?_) (fun h2 => ?_)
      · simp only [dF, dE, str_eq, emp_iff, ni_t, ni_f] at h2
        have hne : m.p ≠ prof0 := (pr_iff m.p).1 (by omega)
        refine den_back rfl ?_ (by simp only []; omega)
        simp only [dF, dE]
        rw [decide_eq_true hne]
      · simp only [dF, dE, str_eq, emp_iff, ni_t, ni_f] at h2
        refine den_ite (fun h3 => ?_) (fun h3 => ?_)
        · simp only [dF, dE, str_eq, emp_iff, ni_t, ni_f] at h3
          have hne : m.p ≠ prof0 := (pr_iff m.p).1 (by omega)
          refine den_back rfl ?_ (by simp only []; omega)
          simp only [dF, dE]
          rw [decide_eq_true hne]
        · simp only [dF, dE, str_eq, emp_iff, ni_t, ni_f] at h3
          refine den_ite (fun h4 => ?_) (fun h4 => ?_)
          · simp only [dF, dE, str_eq, emp_iff, ni_t, ni_f] at h4
            have hne : m.p ≠ prof0 := (pr_iff m.p).1 (by omega)
            refine den_back rfl ?_ (by simp only []; omega)
            simp only [dF, dE]
            rw [decide_eq_true hne]
          · simp only [dF, dE, str_eq, emp_iff, ni_t, ni_f] at h4
            refine den_ite (fun h5 => ?_) (fun h5 => ?_)
            · simp only [dF, dE, str_eq, emp_iff, ni_t, ni_f] at h5
              have hne : m.p ≠ prof0 := (pr_iff m.p).1 (by omega)
              refine den_back rfl ?_ (by simp only []; omega)
              simp only [dF, dE]
              rw [decide_eq_true hne]
            · simp only [dF, dE, str_eq, emp_iff, ni_t, ni_f] at h5
              refine den_ite (fun h6 => ?_) (fun h6 => ?_)
              · simp only [dF, dE, str_eq, emp_iff, ni_t, ni_f] at h6
                refine den_ite (fun h7 => ?_) (fun h7 => ?_)
                · simp only [dF, dE, str_eq, emp_iff, ni_t, ni_f, eq_self, true_and, and_true] at h7
                  refine den_ite (fun h8 => ?_) (fun h8 => ?_)
                  · simp only [dF, dE, str_eq, emp_iff, ni_t, ni_f] at h8
                    have hne : m.p ≠ prof0 := (pr_iff m.p).1 (by omega)
                    refine den_back rfl ?_ (by simp only []; omega)
                    simp only [dF, dE]
                    rw [decide_eq_true hne]
                  · simp only [dF, dE, str_eq, emp_iff, ni_t, ni_f] at h8
                    refine den_ite (fun h9 => ?_) (fun h9 => ?_)
                    · simp only [dF, dE, str_eq, emp_iff, ni_t, ni_f] at h9
                      have hne : m.p ≠ prof0 := (pr_iff m.p).1 (by omega)
                      refine den_back rfl ?_ (by simp only []; omega)
                      simp only [dF, dE]
                      rw [decide_eq_true hne]
                    · simp only [dF, dE, str_eq, emp_iff, ni_t, ni_f] at h9
                      have hne : (m.p ≠ prof0) ↔ ((m.p.pe.length : Int) > 0) := by (rw [← pr_iff m.p]; omega)
                      refine den_back rfl ?_ (by simp only []; omega)
                      simp only [dF, dE]
                      simp only [hne]
                      (try rfl)
                · rw [← Bool.not_eq_true] at h7; simp only [dF, dE, str_eq, emp_iff, ni_t, ni_f, eq_self, true_and, and_true] at h7
                  have hne : m.p ≠ prof0 := (pr_iff m.p).1 (by omega)
                  refine den_back rfl ?_ (by simp only []; omega)
                  simp only [dF, dE]
                  rw [decide_eq_true hne]
              · simp only [dF, dE, str_eq, emp_iff, ni_t, ni_f] at h6
                have hne : m.p ≠ prof0 := (pr_iff m.p).1 (by omega)
                refine den_back rfl ?_ (by simp only []; omega)
                simp only [dF, dE]
                rw [decide_eq_true hne]
  rintro _ rfl
  (try simp only [List.cons_append, List.nil_append])
  have hfl : (fulL m).length = 12 := rfl
  refine den_loopI (fun xs => ∃ (r : Int) (i : Nat), xs = [I64d r, I64d i] ∧ i ≤ 12 ∧ presR 0 0 (fulL m) = presR r i ((fulL m).drop i)) (fun xs => 12 - (xs.getD 1 default).toI.toNat) ⟨0, 0, rfl, Nat.zero_le _, rfl⟩ ?_
  rintro _ ⟨r, i, rfl, hi, hv⟩
  (try simp only [List.cons_append, List.nil_append])
  refine den_ite (fun h => ?_) (fun h => den_ret ?_)
  rotate_left
  · simp only [dF, dE] at h
    have : i = 12 := by omega
    subst this
    simp only [dF, dE]
    rw [hv]
    rfl
  simp only [dF, dE] at h
  have hw : IntKind.wrap .i64 ((i : Int) + 1) = ((i + 1 : Nat) : Int) := by rw [wrap_i64 (by omega) (by omega)]; omega
  have hi' : i < (fulL m).length := by rw [hfl]; omega
  rw [drop_get false hi', presR] at hv
  have hg : ((fulD m (decide (m.p ≠ prof0))).map D.bool).getD i default = D.bool ((fulL m).getD i false) := by
    rw [fulD_eq]
    simp [List.getD_eq_getElem?_getD, hi']
  refine den_ev (evs_ob (by simp only [dF, dE]; omega) (evs_ob (by simp only [dF, dE]; omega) (evs_nil ?_)))
  refine den_ite (fun h2 => ?_) (fun h2 => ?_)
  · have h2' : (((fulD m (decide (m.p ≠ prof0))).map D.bool).getD ((i : Int)).toNat default).toB = true := h2
    rw [Int.toNat_natCast, hg] at h2'
    have h2' : (fulL m).getD i false = true := h2'
    refine den_ev (evs_ob (by simp only [dF, dE]; omega) (evs_nil ?_))
    rw [h2', if_pos rfl] at hv
    exact den_back rfl ⟨_, i + 1, (by simp only [dF, dE]; rw [hw]), by omega, hv⟩ (by simp only []; simp only [dF, dE]; rw [hw]; omega)
  · have h2' : (((fulD m (decide (m.p ≠ prof0))).map D.bool).getD ((i : Int)).toNat default).toB = false := h2
    rw [Int.toNat_natCast, hg] at h2'
    have h2' : (fulL m).getD i false = false := h2'
    rw [h2', if_neg (by decide)] at hv
    exact den_back rfl ⟨r, i + 1, (by simp only [dF, dE]; rw [hw]), by omega, hv⟩ (by simp only []; simp only [dF, dE]; rw [hw]; omega)
end Go.Proofs.Ytindphofgojfbaa.V26
