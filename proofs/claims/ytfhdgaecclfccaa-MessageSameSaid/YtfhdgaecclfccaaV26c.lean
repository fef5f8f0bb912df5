/-
  The errors of profiles, tokens and messages: conditions. No conditions stand ahead of what is proved.
-/
import Derived.Test.YtfhdgaecclfccaaR26
import Derived.Test.YtfhdgaecclfccaaSyXd
set_option maxRecDepth 100000
set_option linter.unusedSimpArgs false
set_option linter.unusedVariables false
namespace Go.Proofs.Ytfhdgaecclfccaa.V26
open Go.Proofs.Ytfhdgaecclfccaa Go.Proofs.Ytfhdgaecclfccaa.Sy Go.Proofs.Ytfhdgaecclfccaa.L7 Go.Proofs.Ytfhdgaecclfccaa.Id Go.Proofs.Ytfhdgaecclfccaa.R26 Go.RowKit Go.WideShapes Go.ChangeShapes Go.ChangeAt
theorem hP : NoNum Try.prog := by unfold NoNum; kernel_rfl
def an (n : Nat) : List AV := List.replicate n (.v (.c .any))
abbrev shM : List Sh := [(.int .i64), (.int .i64), (.int .i64), (.int .i64), (.int .i64), (.int .i64), (.int .i64), (.int .i64), .str, .str, .str, .bool, (.lst [(.int .i64), (.int .i64)]), (.int .i64), (.int .i64), (.int .i64), (.int .i64), (.int .i64), .str, (.int .i64), (.int .i64), (.int .i64), (.int .i64), (.lst [(.int .i64), (.int .i64)]), (.lst [.str, .str, .str, (.int .i64), (.int .i64), (.int .i64)])]
def sgs : Nat → Option (List TS × List TS) := fun f => none
def vctval : VC := (.cal 46 [(.c .str)] [(.v 0)] [(.c .bool)] 6
 (.ite (.v 6)
  (.join []
   (.ite (.seq (.v 1) (.ks ⟨List.toArray []⟩))
    (.ite (.seq (.v 2) (.ks ⟨List.toArray []⟩))
     (.back 0 [])
     (.cal 46 [(.c .str)] [(.v 2)] [(.c .bool)] 7
      (.ite (.v 7)
       (.back 0 [])
       (.ret [(.ki .i64 4)]))))
    (.cal 46 [(.c .str)] [(.v 1)] [(.c .bool)] 7
     (.ite (.v 7)
      (.ite (.seq (.v 2) (.ks ⟨List.toArray []⟩))
       (.back 0 [])
       (.cal 46 [(.c .str)] [(.v 2)] [(.c .bool)] 8
        (.ite (.v 8)
         (.back 0 [])
         (.ret [(.ki .i64 4)]))))
      (.ret [(.ki .i64 4)]))))
   (.ite (.cmp .lss (.v 3) (.ki .i64 1))
    (.ret [(.ki .i64 2)])
    (.ite (.cmp .gtr (.v 3) (.ki .i64 3))
     (.ret [(.ki .i64 2)])
     (.ite (.cmp .lss (.v 4) (.ki .i64 1))
      (.ret [(.ki .i64 2)])
      (.ite (.cmp .gtr (.v 4) (.ki .i64 3))
       (.ret [(.ki .i64 2)])
       (.ite (.cmp .lss (.v 5) (.ki .i64 (-1)))
        (.ret [(.ki .i64 2)])
        (.ite (.cmp .gtr (.v 5) (.ki .i64 268435456))
         (.ret [(.ki .i64 2)])
         (.ret [(.ki .i64 0)]))))))))
  (.ret [(.ki .i64 4)])))
def hdtval : List HdL := [{ kind := false, id := 5, nv := 7, tmps := [(.v (.g [(.d .str (.v 0)), (.d .str (.v 1)), (.d .str (.v 2)), (.d (.int .i64) (.v 3)), (.d (.int .i64) (.v 4)), (.d (.int .i64) (.v 5))])), (.v (.c (.ptr 0 0))), (.v (.c .any)), (.v (.c (.ptr 0 0))), (.v (.c (.d .str (.v 0)))), (.v (.c (.d .bool (.v 6)))), (.v (.c (.d .bool (.not (.v 6))))) ] ++ an 44, blks := [(.cells [(.d .str (.v 0)), (.d .str (.v 1)), (.d .str (.v 2)), (.d (.int .i64) (.v 3)), (.d (.int .i64) (.v 4)), (.d (.int .i64) (.v 5))])], shs := [], rs := [], bs := [], fz := [] }]
theorem tval_ent : EntOK Try.prog [] ⟨81, [(.g [.str, .str, .str, (.int .i64), (.int .i64), (.int .i64)])], [(.c (.int .i64))], vctval⟩ :=
  ent_of_genH hP Try.func81 rfl (by decide) (jn := [(5,[1000000])]) (hd := hdtval) (sg := sgs) (by kernel_rfl)
def vcentry : VC := (.ite (.cmp .neq (.v 4) (.ki .i64 0))
 (.cal 81 [(.g [.str, .str, .str, (.int .i64), (.int .i64), (.int .i64)])] [(.rc (.cons (.v 0) (.cons (.v 1) (.cons (.v 2) (.cons (.v 3) (.cons (.v 4) (.cons (.v 5) .nil)))))))] [(.c (.int .i64))] 6
  (.ret [(.v 6)]))
 (.cal 46 [(.c .str)] [(.v 0)] [(.c .bool)] 6
  (.ite (.v 6)
   (.ite (.and (.seq (.v 0) (.v 0)) (.and (.seq (.v 1) (.ks ⟨List.toArray []⟩)) (.and (.seq (.v 2) (.ks ⟨List.toArray []⟩)) (.and (.cmp .eql (.v 3) (.ki .i64 0)) (.and (.cmp .eql (.v 4) (.ki .i64 0)) (.and (.cmp .eql (.v 5) (.ki .i64 0)) (.kb true)))))))
    (.ret [(.ki .i64 0)])
    (.ret [(.ki .i64 1)]))
   (.ret [(.ki .i64 4)]))))
theorem entry_ent : EntOK Try.prog [] ⟨48, [(.g [.str, .str, .str, (.int .i64), (.int .i64), (.int .i64)])], [(.c (.int .i64))], vcentry⟩ :=
  ent_of_gen hP Try.func48 rfl (by decide) (sg := sgs) (by kernel_rfl)
def vcuic : VC := (.ite (.cmp .eql (.v 0) (.ki .i64 1))
 (.ret [(.ki .i64 128), (.kb true)])
 (.ite (.cmp .eql (.v 0) (.ki .i64 2))
  (.ret [(.ki .i64 0), (.kb true)])
  (.ite (.cmp .eql (.v 0) (.ki .i64 3))
   (.ret [(.ki .i64 3), (.kb true)])
   (.ite (.cmp .eql (.v 0) (.ki .i64 4))
    (.ret [(.ki .i64 65), (.kb true)])
    (.ite (.cmp .eql (.v 0) (.ki .i64 16))
     (.ret [(.ki .i64 65), (.kb true)])
     (.ite (.cmp .eql (.v 0) (.ki .i64 5))
      (.ret [(.ki .i64 895), (.kb true)])
      (.ite (.cmp .eql (.v 0) (.ki .i64 6))
       (.ret [(.ki .i64 2), (.kb true)])
       (.ite (.cmp .eql (.v 0) (.ki .i64 7))
        (.ret [(.ki .i64 2), (.kb true)])
        (.ite (.cmp .eql (.v 0) (.ki .i64 8))
         (.ret [(.ki .i64 17), (.kb true)])
         (.ite (.cmp .eql (.v 0) (.ki .i64 20))
          (.ret [(.ki .i64 17), (.kb true)])
          (.ite (.cmp .eql (.v 0) (.ki .i64 11))
           (.ret [(.ki .i64 217), (.kb true)])
           (.ite (.cmp .eql (.v 0) (.ki .i64 12))
            (.ret [(.ki .i64 16), (.kb true)])
            (.ite (.cmp .eql (.v 0) (.ki .i64 14))
             (.ret [(.ki .i64 16), (.kb true)])
             (.ite (.cmp .eql (.v 0) (.ki .i64 13))
              (.ret [(.ki .i64 1024), (.kb true)])
              (.ite (.cmp .eql (.v 0) (.ki .i64 15))
               (.ret [(.ki .i64 2068), (.kb true)])
               (.ite (.cmp .eql (.v 0) (.ki .i64 17))
                (.ret [(.ki .i64 32), (.kb true)])
                (.ite (.cmp .eql (.v 0) (.ki .i64 18))
                 (.ret [(.ki .i64 28), (.kb true)])
                 (.ite (.cmp .eql (.v 0) (.ki .i64 19))
                  (.ret [(.ki .i64 8), (.kb true)])
                  (.ret [(.ki .i64 0), (.kb false)])))))))))))))))))))
theorem uic_ent : EntOK Try.prog [] ⟨45, [(.c (.int .i64))], [(.c (.int .i64)), (.c .bool)], vcuic⟩ :=
  ent_of_gen hP Try.func45 rfl (by decide) (sg := sgs) (by kernel_rfl)
def vcusd : VC := (.cal 45 [(.c (.int .i64))] [(.v 1)] [(.c (.int .i64)), (.c .bool)] 2
 (.ite (.cmp .eql (.v 0) (.ki .i64 2))
  (.ret [(.ki .i64 154), (.v 3)])
  (.ite (.cmp .eql (.v 0) (.ki .i64 3))
   (.ret [(.ki .i64 2), (.v 3)])
   (.ret [(.v 2), (.v 3)]))))
theorem usd_ent : EntOK Try.prog [] ⟨19, [(.c (.int .i64)), (.c (.int .i64))], [(.c (.int .i64)), (.c .bool)], vcusd⟩ :=
  ent_of_gen hP Try.func19 rfl (by decide) (sg := sgs) (by kernel_rfl)
def vcpres : VC := (.join [.bool]
 (.ite (.cmp .neq (.v 13) (.ki .i64 0))
  (.back 0 [(.kb true)])
  (.ite (.cmp .neq (.v 14) (.ki .i64 0))
   (.back 0 [(.kb true)])
   (.ite (.cmp .neq (.v 15) (.ki .i64 0))
    (.back 0 [(.kb true)])
    (.ite (.cmp .neq (.v 16) (.ki .i64 0))
     (.back 0 [(.kb true)])
     (.ite (.cmp .neq (.v 17) (.ki .i64 0))
      (.back 0 [(.kb true)])
      (.ite (.seq (.v 18) (.ks ⟨List.toArray []⟩))
       (.ite (.and (.cmp .eql (.v 19) (.ki .i64 0)) (.and (.cmp .eql (.v 20) (.ki .i64 0)) (.kb true)))
        (.ite (.cmp .neq (.v 21) (.ki .i64 0))
         (.back 0 [(.kb true)])
         (.ite (.cmp .neq (.v 22) (.ki .i64 0))
          (.back 0 [(.kb true)])
          (.back 0 [(.cmp .gtr (.len (.v 23)) (.ki .i64 0))])))
        (.back 0 [(.kb true)]))
       (.back 0 [(.kb true)])))))))
 (.loop [(.int .i64), (.int .i64)] [(.ki .i64 0), (.ki .i64 0)]
  (.ite (.cmp .lss (.v 27) (.ki .i64 12))
   (.ev [(.ob (.cmp .geq (.v 27) (.ki .i64 0))), (.ob (.cmp .lss (.v 27) (.ki .i64 12)))]
    (.ite (.get (.cons (.cmp .neq (.v 3) (.ki .i64 0)) (.cons (.cmp .neq (.v 4) (.ki .i64 0)) (.cons (.cmp .neq (.v 5) (.ki .i64 0)) (.cons (.cmp .neq (.v 6) (.ki .i64 0)) (.cons (.cmp .neq (.v 7) (.ki .i64 0)) (.cons (.not (.seq (.v 8) (.ks ⟨List.toArray []⟩))) (.cons (.not (.seq (.v 9) (.ks ⟨List.toArray []⟩))) (.cons (.not (.seq (.v 10) (.ks ⟨List.toArray []⟩))) (.cons (.v 11) (.cons (.cmp .gtr (.len (.v 12)) (.ki .i64 0)) (.cons (.v 25) (.cons (.cmp .gtr (.len (.v 24)) (.ki .i64 0)) .nil)))))))))))) (.v 27))
     (.ev [(.ob (.cmp .geq (.v 27) (.ki .i64 0)))]
      (.back 1 [(.ar .or .i64 (.v 26) (.shf .shl .i64 (.ki .i64 1) (.v 27))), (.ar .add .i64 (.v 27) (.ki .i64 1))]))
     (.back 1 [(.v 26), (.ar .add .i64 (.v 27) (.ki .i64 1))])))
   (.ret [(.v 26)]))))
def hdpres : List HdL := [{ kind := false, id := 3, nv := 25, tmps := [(.v (.g [(.d (.int .i64) (.v 0)), (.d (.int .i64) (.v 1)), (.d (.int .i64) (.v 2)), (.d (.int .i64) (.v 3)), (.d (.int .i64) (.v 4)), (.d (.int .i64) (.v 5)), (.d (.int .i64) (.v 6)), (.d (.int .i64) (.v 7)), (.d .str (.v 8)), (.d .str (.v 9)), (.d .str (.v 10)), (.d .bool (.v 11)), (.d (.lst [(.int .i64), (.int .i64)]) (.v 12)), (.d (.int .i64) (.v 13)), (.d (.int .i64) (.v 14)), (.d (.int .i64) (.v 15)), (.d (.int .i64) (.v 16)), (.d (.int .i64) (.v 17)), (.d .str (.v 18)), (.d (.int .i64) (.v 19)), (.d (.int .i64) (.v 20)), (.d (.int .i64) (.v 21)), (.d (.int .i64) (.v 22)), (.d (.lst [(.int .i64), (.int .i64)]) (.v 23)), (.d (.lst [.str, .str, .str, (.int .i64), (.int .i64), (.int .i64)]) (.v 24))])), (.v (.c (.ptr 0 0))), (.v (.c (.d (.int .i64) (.ki .i64 0)))), (.v (.c (.ptr 1 0))), (.v (.c (.d .bool (.v 25)))), (.v (.c .any)), (.v (.c .any)), (.v (.c .any)), (.v (.c (.ptr 0 13))), (.v (.g [(.d (.int .i64) (.v 13)), (.d (.int .i64) (.v 14)), (.d (.int .i64) (.v 15)), (.d (.int .i64) (.v 16)), (.d (.int .i64) (.v 17)), (.d .str (.v 18)), (.d (.int .i64) (.v 19)), (.d (.int .i64) (.v 20)), (.d (.int .i64) (.v 21)), (.d (.int .i64) (.v 22)), (.d (.lst [(.int .i64), (.int .i64)]) (.v 23))])) ] ++ an 97, blks := [(.cells [(.d (.int .i64) (.v 0)), (.d (.int .i64) (.v 1)), (.d (.int .i64) (.v 2)), (.d (.int .i64) (.v 3)), (.d (.int .i64) (.v 4)), (.d (.int .i64) (.v 5)), (.d (.int .i64) (.v 6)), (.d (.int .i64) (.v 7)), (.d .str (.v 8)), (.d .str (.v 9)), (.d .str (.v 10)), (.d .bool (.v 11)), (.d (.lst [(.int .i64), (.int .i64)]) (.v 12)), (.d (.int .i64) (.v 13)), (.d (.int .i64) (.v 14)), (.d (.int .i64) (.v 15)), (.d (.int .i64) (.v 16)), (.d (.int .i64) (.v 17)), (.d .str (.v 18)), (.d (.int .i64) (.v 19)), (.d (.int .i64) (.v 20)), (.d (.int .i64) (.v 21)), (.d (.int .i64) (.v 22)), (.d (.lst [(.int .i64), (.int .i64)]) (.v 23)), (.d (.lst [.str, .str, .str, (.int .i64), (.int .i64), (.int .i64)]) (.v 24))]), (.cells [(.d (.int .i64) (.v 13)), (.d (.int .i64) (.v 14)), (.d (.int .i64) (.v 15)), (.d (.int .i64) (.v 16)), (.d (.int .i64) (.v 17)), (.d .str (.v 18)), (.d (.int .i64) (.v 19)), (.d (.int .i64) (.v 20)), (.d (.int .i64) (.v 21)), (.d (.int .i64) (.v 22)), (.d (.lst [(.int .i64), (.int .i64)]) (.v 23))])], shs := [.bool], rs := [], bs := [], fz := [] },
{ kind := true, id := 5, nv := 26, tmps := [(.v (.g [(.d (.int .i64) (.v 0)), (.d (.int .i64) (.v 1)), (.d (.int .i64) (.v 2)), (.d (.int .i64) (.v 3)), (.d (.int .i64) (.v 4)), (.d (.int .i64) (.v 5)), (.d (.int .i64) (.v 6)), (.d (.int .i64) (.v 7)), (.d .str (.v 8)), (.d .str (.v 9)), (.d .str (.v 10)), (.d .bool (.v 11)), (.d (.lst [(.int .i64), (.int .i64)]) (.v 12)), (.d (.int .i64) (.v 13)), (.d (.int .i64) (.v 14)), (.d (.int .i64) (.v 15)), (.d (.int .i64) (.v 16)), (.d (.int .i64) (.v 17)), (.d .str (.v 18)), (.d (.int .i64) (.v 19)), (.d (.int .i64) (.v 20)), (.d (.int .i64) (.v 21)), (.d (.int .i64) (.v 22)), (.d (.lst [(.int .i64), (.int .i64)]) (.v 23)), (.d (.lst [.str, .str, .str, (.int .i64), (.int .i64), (.int .i64)]) (.v 24))])), (.v (.c (.ptr 0 0))), (.v (.c (.d (.int .i64) (.ki .i64 0)))), (.v (.c (.ptr 1 0))), (.v (.c (.d .bool (.v 25)))), (.v (.c (.d (.int .i64) (.v 26)))), (.v (.c .any)), (.v (.c .any)), (.v (.c (.ptr 0 13))), (.v (.g [(.d (.int .i64) (.v 13)), (.d (.int .i64) (.v 14)), (.d (.int .i64) (.v 15)), (.d (.int .i64) (.v 16)), (.d (.int .i64) (.v 17)), (.d .str (.v 18)), (.d (.int .i64) (.v 19)), (.d (.int .i64) (.v 20)), (.d (.int .i64) (.v 21)), (.d (.int .i64) (.v 22)), (.d (.lst [(.int .i64), (.int .i64)]) (.v 23))])) ] ++ an 50 ++ [(.v (.c (.ptr 0 3))), (.v (.c (.d (.int .i64) (.v 3)))), (.v (.c (.d .bool (.cmp .neq (.v 3) (.ki .i64 0))))), (.v (.c (.ptr 0 4))), (.v (.c (.d (.int .i64) (.v 4)))), (.v (.c (.d .bool (.cmp .neq (.v 4) (.ki .i64 0))))), (.v (.c (.ptr 0 5))), (.v (.c (.d (.int .i64) (.v 5)))), (.v (.c (.d .bool (.cmp .neq (.v 5) (.ki .i64 0))))), (.v (.c (.ptr 0 6))), (.v (.c (.d (.int .i64) (.v 6)))), (.v (.c (.d .bool (.cmp .neq (.v 6) (.ki .i64 0))))), (.v (.c (.ptr 0 7))), (.v (.c (.d (.int .i64) (.v 7)))), (.v (.c (.d .bool (.cmp .neq (.v 7) (.ki .i64 0))))), (.v (.c (.ptr 0 8))), (.v (.c (.d .str (.v 8)))), (.v (.c (.d .bool (.not (.seq (.v 8) (.ks ⟨List.toArray []⟩)))))), (.v (.c (.ptr 0 9))), (.v (.c (.d .str (.v 9)))), (.v (.c (.d .bool (.not (.seq (.v 9) (.ks ⟨List.toArray []⟩)))))), (.v (.c (.ptr 0 10))), (.v (.c (.d .str (.v 10)))), (.v (.c (.d .bool (.not (.seq (.v 10) (.ks ⟨List.toArray []⟩)))))), (.v (.c (.ptr 0 11))), (.v (.c (.d .bool (.v 11)))), (.v (.c (.ptr 0 12))), (.v (.c (.d (.lst [(.int .i64), (.int .i64)]) (.v 12)))), (.v (.c (.d (.int .i64) (.len (.v 12))))), (.v (.c (.d .bool (.cmp .gtr (.len (.v 12)) (.ki .i64 0))))), (.v (.c (.d .bool (.v 25)))), (.v (.c (.ptr 0 24))), (.v (.c (.d (.lst [.str, .str, .str, (.int .i64), (.int .i64), (.int .i64)]) (.v 24)))), (.v (.c (.d (.int .i64) (.len (.v 24))))), (.v (.c (.d .bool (.cmp .gtr (.len (.v 24)) (.ki .i64 0))))), (.v (.g [(.d .bool (.cmp .neq (.v 3) (.ki .i64 0))), (.d .bool (.cmp .neq (.v 4) (.ki .i64 0))), (.d .bool (.cmp .neq (.v 5) (.ki .i64 0))), (.d .bool (.cmp .neq (.v 6) (.ki .i64 0))), (.d .bool (.cmp .neq (.v 7) (.ki .i64 0))), (.d .bool (.not (.seq (.v 8) (.ks ⟨List.toArray []⟩)))), (.d .bool (.not (.seq (.v 9) (.ks ⟨List.toArray []⟩)))), (.d .bool (.not (.seq (.v 10) (.ks ⟨List.toArray []⟩)))), (.d .bool (.v 11)), (.d .bool (.cmp .gtr (.len (.v 12)) (.ki .i64 0))), (.d .bool (.v 25)), (.d .bool (.cmp .gtr (.len (.v 24)) (.ki .i64 0)))])), (.v (.c (.d (.int .i64) (.v 27)))) ] ++ an 10, blks := [(.cells [(.d (.int .i64) (.v 0)), (.d (.int .i64) (.v 1)), (.d (.int .i64) (.v 2)), (.d (.int .i64) (.v 3)), (.d (.int .i64) (.v 4)), (.d (.int .i64) (.v 5)), (.d (.int .i64) (.v 6)), (.d (.int .i64) (.v 7)), (.d .str (.v 8)), (.d .str (.v 9)), (.d .str (.v 10)), (.d .bool (.v 11)), (.d (.lst [(.int .i64), (.int .i64)]) (.v 12)), (.d (.int .i64) (.v 13)), (.d (.int .i64) (.v 14)), (.d (.int .i64) (.v 15)), (.d (.int .i64) (.v 16)), (.d (.int .i64) (.v 17)), (.d .str (.v 18)), (.d (.int .i64) (.v 19)), (.d (.int .i64) (.v 20)), (.d (.int .i64) (.v 21)), (.d (.int .i64) (.v 22)), (.d (.lst [(.int .i64), (.int .i64)]) (.v 23)), (.d (.lst [.str, .str, .str, (.int .i64), (.int .i64), (.int .i64)]) (.v 24))]), (.cells [(.d (.int .i64) (.v 13)), (.d (.int .i64) (.v 14)), (.d (.int .i64) (.v 15)), (.d (.int .i64) (.v 16)), (.d (.int .i64) (.v 17)), (.d .str (.v 18)), (.d (.int .i64) (.v 19)), (.d (.int .i64) (.v 20)), (.d (.int .i64) (.v 21)), (.d (.int .i64) (.v 22)), (.d (.lst [(.int .i64), (.int .i64)]) (.v 23))])], shs := [(.int .i64), (.int .i64)], rs := [], bs := [], fz := [] }]
theorem pres_ent : EntOK Try.prog [] ⟨20, [(.g shM)], [(.c (.int .i64))], vcpres⟩ :=
  ent_of_genH hP Try.func20 rfl (by decide) (jn := [(3,[4])]) (hd := hdpres) (sg := sgs) (by kernel_rfl)
def vcmnum : VC := (.join []
 (.ite (.cmp .neq (.ar .and .i64 (.v 25) (.ki .i64 1)) (.ki .i64 0))
  (.ite (.cmp .lss (.v 3) (.ki .i64 1))
   (.ret [(.kb false)])
   (.ite (.cmp .gtr (.v 3) (.ki .i64 32))
    (.ret [(.kb false)])
    (.back 0 [])))
  (.back 0 []))
 (.join []
  (.ite (.cmp .neq (.ar .and .i64 (.v 25) (.ki .i64 2)) (.ki .i64 0))
   (.join [(.int .i64), (.int .i64)]
    (.ite (.cmp .eql (.v 0) (.ki .i64 3))
     (.back 2 [(.ki .i64 1), (.ki .i64 25)])
     (.back 2 [(.ki .i64 0), (.ki .i64 100)]))
    (.ite (.cmp .lss (.v 4) (.v 26))
     (.ret [(.kb false)])
     (.ite (.cmp .gtr (.v 4) (.v 27))
      (.ret [(.kb false)])
      (.back 1 []))))
   (.back 1 []))
  (.ite (.cmp .geq (.v 5) (.ki .i64 0))
   (.ite (.cmp .leq (.v 5) (.ki .i64 2147483647))
    (.ite (.cmp .geq (.v 6) (.ki .i64 0))
     (.ite (.cmp .leq (.v 6) (.ki .i64 268435456))
      (.ite (.cmp .geq (.v 7) (.ki .i64 0))
       (.ret [(.cmp .leq (.v 7) (.ki .i64 2147483647))])
       (.ret [(.kb false)]))
      (.ret [(.kb false)]))
     (.ret [(.kb false)]))
    (.ret [(.kb false)]))
   (.ret [(.kb false)]))))
def hdmnum : List HdL := [{ kind := false, id := 3, nv := 26, tmps := [(.v (.g [(.d (.int .i64) (.v 0)), (.d (.int .i64) (.v 1)), (.d (.int .i64) (.v 2)), (.d (.int .i64) (.v 3)), (.d (.int .i64) (.v 4)), (.d (.int .i64) (.v 5)), (.d (.int .i64) (.v 6)), (.d (.int .i64) (.v 7)), (.d .str (.v 8)), (.d .str (.v 9)), (.d .str (.v 10)), (.d .bool (.v 11)), (.d (.lst [(.int .i64), (.int .i64)]) (.v 12)), (.d (.int .i64) (.v 13)), (.d (.int .i64) (.v 14)), (.d (.int .i64) (.v 15)), (.d (.int .i64) (.v 16)), (.d (.int .i64) (.v 17)), (.d .str (.v 18)), (.d (.int .i64) (.v 19)), (.d (.int .i64) (.v 20)), (.d (.int .i64) (.v 21)), (.d (.int .i64) (.v 22)), (.d (.lst [(.int .i64), (.int .i64)]) (.v 23)), (.d (.lst [.str, .str, .str, (.int .i64), (.int .i64), (.int .i64)]) (.v 24))])), (.v (.c (.d (.int .i64) (.v 25)))), (.v (.c (.ptr 0 0))) ] ++ an 61, blks := [(.cells [(.d (.int .i64) (.v 0)), (.d (.int .i64) (.v 1)), (.d (.int .i64) (.v 2)), (.d (.int .i64) (.v 3)), (.d (.int .i64) (.v 4)), (.d (.int .i64) (.v 5)), (.d (.int .i64) (.v 6)), (.d (.int .i64) (.v 7)), (.d .str (.v 8)), (.d .str (.v 9)), (.d .str (.v 10)), (.d .bool (.v 11)), (.d (.lst [(.int .i64), (.int .i64)]) (.v 12)), (.d (.int .i64) (.v 13)), (.d (.int .i64) (.v 14)), (.d (.int .i64) (.v 15)), (.d (.int .i64) (.v 16)), (.d (.int .i64) (.v 17)), (.d .str (.v 18)), (.d (.int .i64) (.v 19)), (.d (.int .i64) (.v 20)), (.d (.int .i64) (.v 21)), (.d (.int .i64) (.v 22)), (.d (.lst [(.int .i64), (.int .i64)]) (.v 23)), (.d (.lst [.str, .str, .str, (.int .i64), (.int .i64), (.int .i64)]) (.v 24))])], shs := [], rs := [], bs := [], fz := [] },
{ kind := false, id := 9, nv := 26, tmps := [(.v (.g [(.d (.int .i64) (.v 0)), (.d (.int .i64) (.v 1)), (.d (.int .i64) (.v 2)), (.d (.int .i64) (.v 3)), (.d (.int .i64) (.v 4)), (.d (.int .i64) (.v 5)), (.d (.int .i64) (.v 6)), (.d (.int .i64) (.v 7)), (.d .str (.v 8)), (.d .str (.v 9)), (.d .str (.v 10)), (.d .bool (.v 11)), (.d (.lst [(.int .i64), (.int .i64)]) (.v 12)), (.d (.int .i64) (.v 13)), (.d (.int .i64) (.v 14)), (.d (.int .i64) (.v 15)), (.d (.int .i64) (.v 16)), (.d (.int .i64) (.v 17)), (.d .str (.v 18)), (.d (.int .i64) (.v 19)), (.d (.int .i64) (.v 20)), (.d (.int .i64) (.v 21)), (.d (.int .i64) (.v 22)), (.d (.lst [(.int .i64), (.int .i64)]) (.v 23)), (.d (.lst [.str, .str, .str, (.int .i64), (.int .i64), (.int .i64)]) (.v 24))])), (.v (.c (.d (.int .i64) (.v 25)))), (.v (.c (.ptr 0 0))) ] ++ an 61, blks := [(.cells [(.d (.int .i64) (.v 0)), (.d (.int .i64) (.v 1)), (.d (.int .i64) (.v 2)), (.d (.int .i64) (.v 3)), (.d (.int .i64) (.v 4)), (.d (.int .i64) (.v 5)), (.d (.int .i64) (.v 6)), (.d (.int .i64) (.v 7)), (.d .str (.v 8)), (.d .str (.v 9)), (.d .str (.v 10)), (.d .bool (.v 11)), (.d (.lst [(.int .i64), (.int .i64)]) (.v 12)), (.d (.int .i64) (.v 13)), (.d (.int .i64) (.v 14)), (.d (.int .i64) (.v 15)), (.d (.int .i64) (.v 16)), (.d (.int .i64) (.v 17)), (.d .str (.v 18)), (.d (.int .i64) (.v 19)), (.d (.int .i64) (.v 20)), (.d (.int .i64) (.v 21)), (.d (.int .i64) (.v 22)), (.d (.lst [(.int .i64), (.int .i64)]) (.v 23)), (.d (.lst [.str, .str, .str, (.int .i64), (.int .i64), (.int .i64)]) (.v 24))])], shs := [], rs := [], bs := [], fz := [] },
{ kind := false, id := 7, nv := 26, tmps := [(.v (.g [(.d (.int .i64) (.v 0)), (.d (.int .i64) (.v 1)), (.d (.int .i64) (.v 2)), (.d (.int .i64) (.v 3)), (.d (.int .i64) (.v 4)), (.d (.int .i64) (.v 5)), (.d (.int .i64) (.v 6)), (.d (.int .i64) (.v 7)), (.d .str (.v 8)), (.d .str (.v 9)), (.d .str (.v 10)), (.d .bool (.v 11)), (.d (.lst [(.int .i64), (.int .i64)]) (.v 12)), (.d (.int .i64) (.v 13)), (.d (.int .i64) (.v 14)), (.d (.int .i64) (.v 15)), (.d (.int .i64) (.v 16)), (.d (.int .i64) (.v 17)), (.d .str (.v 18)), (.d (.int .i64) (.v 19)), (.d (.int .i64) (.v 20)), (.d (.int .i64) (.v 21)), (.d (.int .i64) (.v 22)), (.d (.lst [(.int .i64), (.int .i64)]) (.v 23)), (.d (.lst [.str, .str, .str, (.int .i64), (.int .i64), (.int .i64)]) (.v 24))])), (.v (.c (.d (.int .i64) (.v 25)))), (.v (.c (.ptr 0 0))), (.v (.c .any)), (.v (.c .any)), (.v (.c (.d (.int .i64) (.v 26)))), (.v (.c (.d (.int .i64) (.v 27)))) ] ++ an 13 ++ [(.v (.c (.d (.int .i64) (.v 25)))), (.v (.c (.d (.int .i64) (.ar .and .i64 (.v 25) (.ki .i64 2))))), (.v (.c (.d .bool (.cmp .neq (.ar .and .i64 (.v 25) (.ki .i64 2)) (.ki .i64 0))))) ] ++ an 41, blks := [(.cells [(.d (.int .i64) (.v 0)), (.d (.int .i64) (.v 1)), (.d (.int .i64) (.v 2)), (.d (.int .i64) (.v 3)), (.d (.int .i64) (.v 4)), (.d (.int .i64) (.v 5)), (.d (.int .i64) (.v 6)), (.d (.int .i64) (.v 7)), (.d .str (.v 8)), (.d .str (.v 9)), (.d .str (.v 10)), (.d .bool (.v 11)), (.d (.lst [(.int .i64), (.int .i64)]) (.v 12)), (.d (.int .i64) (.v 13)), (.d (.int .i64) (.v 14)), (.d (.int .i64) (.v 15)), (.d (.int .i64) (.v 16)), (.d (.int .i64) (.v 17)), (.d .str (.v 18)), (.d (.int .i64) (.v 19)), (.d (.int .i64) (.v 20)), (.d (.int .i64) (.v 21)), (.d (.int .i64) (.v 22)), (.d (.lst [(.int .i64), (.int .i64)]) (.v 23)), (.d (.lst [.str, .str, .str, (.int .i64), (.int .i64), (.int .i64)]) (.v 24))])], shs := [(.int .i64), (.int .i64)], rs := [], bs := [], fz := [] }]
theorem mnum_ent : EntOK Try.prog [] ⟨21, [(.g shM), (.c (.int .i64))], [(.c .bool)], vcmnum⟩ :=
  ent_of_genH hP Try.func21 rfl (by decide) (jn := [(3,[1000000]),(7,[5,6]),(9,[1000000])]) (hd := hdmnum) (sg := sgs) (by kernel_rfl)
def vcmnam : VC := (.join []
 (.ite (.cmp .neq (.ar .and .i64 (.v 25) (.ki .i64 32)) (.ki .i64 0))
  (.cal 46 [(.c .str)] [(.v 8)] [(.c .bool)] 26
   (.ite (.v 26)
    (.back 0 [])
    (.ret [(.kb false)])))
  (.back 0 []))
 (.join []
  (.ite (.cmp .neq (.ar .and .i64 (.v 25) (.ki .i64 64)) (.ki .i64 0))
   (.cal 46 [(.c .str)] [(.v 9)] [(.c .bool)] 26
    (.ite (.v 26)
     (.back 1 [])
     (.ite (.seq (.v 9) (.ks ⟨List.toArray []⟩))
      (.ite (.cmp .neq (.v 2) (.ki .i64 5))
       (.ret [(.kb false)])
       (.back 1 []))
      (.ret [(.kb false)]))))
   (.back 1 []))
  (.ite (.cmp .eql (.ar .and .i64 (.v 25) (.ki .i64 128)) (.ki .i64 0))
   (.ret [(.kb true)])
   (.cal 46 [(.c .str)] [(.v 10)] [(.c .bool)] 26
    (.ite (.v 26)
     (.ret [(.kb true)])
     (.ite (.seq (.v 10) (.ks ⟨List.toArray []⟩))
      (.ite (.cmp .neq (.v 0) (.ki .i64 1))
       (.ret [(.kb true)])
       (.ret [(.cmp .neq (.v 2) (.ki .i64 1))]))
      (.ret [(.kb false)])))))))
def hdmnam : List HdL := [{ kind := false, id := 3, nv := 26, tmps := [(.v (.g [(.d (.int .i64) (.v 0)), (.d (.int .i64) (.v 1)), (.d (.int .i64) (.v 2)), (.d (.int .i64) (.v 3)), (.d (.int .i64) (.v 4)), (.d (.int .i64) (.v 5)), (.d (.int .i64) (.v 6)), (.d (.int .i64) (.v 7)), (.d .str (.v 8)), (.d .str (.v 9)), (.d .str (.v 10)), (.d .bool (.v 11)), (.d (.lst [(.int .i64), (.int .i64)]) (.v 12)), (.d (.int .i64) (.v 13)), (.d (.int .i64) (.v 14)), (.d (.int .i64) (.v 15)), (.d (.int .i64) (.v 16)), (.d (.int .i64) (.v 17)), (.d .str (.v 18)), (.d (.int .i64) (.v 19)), (.d (.int .i64) (.v 20)), (.d (.int .i64) (.v 21)), (.d (.int .i64) (.v 22)), (.d (.lst [(.int .i64), (.int .i64)]) (.v 23)), (.d (.lst [.str, .str, .str, (.int .i64), (.int .i64), (.int .i64)]) (.v 24))])), (.v (.c (.d (.int .i64) (.v 25)))), (.v (.c (.ptr 0 0))) ] ++ an 51, blks := [(.cells [(.d (.int .i64) (.v 0)), (.d (.int .i64) (.v 1)), (.d (.int .i64) (.v 2)), (.d (.int .i64) (.v 3)), (.d (.int .i64) (.v 4)), (.d (.int .i64) (.v 5)), (.d (.int .i64) (.v 6)), (.d (.int .i64) (.v 7)), (.d .str (.v 8)), (.d .str (.v 9)), (.d .str (.v 10)), (.d .bool (.v 11)), (.d (.lst [(.int .i64), (.int .i64)]) (.v 12)), (.d (.int .i64) (.v 13)), (.d (.int .i64) (.v 14)), (.d (.int .i64) (.v 15)), (.d (.int .i64) (.v 16)), (.d (.int .i64) (.v 17)), (.d .str (.v 18)), (.d (.int .i64) (.v 19)), (.d (.int .i64) (.v 20)), (.d (.int .i64) (.v 21)), (.d (.int .i64) (.v 22)), (.d (.lst [(.int .i64), (.int .i64)]) (.v 23)), (.d (.lst [.str, .str, .str, (.int .i64), (.int .i64), (.int .i64)]) (.v 24))])], shs := [], rs := [], bs := [], fz := [] },
{ kind := false, id := 5, nv := 26, tmps := [(.v (.g [(.d (.int .i64) (.v 0)), (.d (.int .i64) (.v 1)), (.d (.int .i64) (.v 2)), (.d (.int .i64) (.v 3)), (.d (.int .i64) (.v 4)), (.d (.int .i64) (.v 5)), (.d (.int .i64) (.v 6)), (.d (.int .i64) (.v 7)), (.d .str (.v 8)), (.d .str (.v 9)), (.d .str (.v 10)), (.d .bool (.v 11)), (.d (.lst [(.int .i64), (.int .i64)]) (.v 12)), (.d (.int .i64) (.v 13)), (.d (.int .i64) (.v 14)), (.d (.int .i64) (.v 15)), (.d (.int .i64) (.v 16)), (.d (.int .i64) (.v 17)), (.d .str (.v 18)), (.d (.int .i64) (.v 19)), (.d (.int .i64) (.v 20)), (.d (.int .i64) (.v 21)), (.d (.int .i64) (.v 22)), (.d (.lst [(.int .i64), (.int .i64)]) (.v 23)), (.d (.lst [.str, .str, .str, (.int .i64), (.int .i64), (.int .i64)]) (.v 24))])), (.v (.c (.d (.int .i64) (.v 25)))), (.v (.c (.ptr 0 0))) ] ++ an 51, blks := [(.cells [(.d (.int .i64) (.v 0)), (.d (.int .i64) (.v 1)), (.d (.int .i64) (.v 2)), (.d (.int .i64) (.v 3)), (.d (.int .i64) (.v 4)), (.d (.int .i64) (.v 5)), (.d (.int .i64) (.v 6)), (.d (.int .i64) (.v 7)), (.d .str (.v 8)), (.d .str (.v 9)), (.d .str (.v 10)), (.d .bool (.v 11)), (.d (.lst [(.int .i64), (.int .i64)]) (.v 12)), (.d (.int .i64) (.v 13)), (.d (.int .i64) (.v 14)), (.d (.int .i64) (.v 15)), (.d (.int .i64) (.v 16)), (.d (.int .i64) (.v 17)), (.d .str (.v 18)), (.d (.int .i64) (.v 19)), (.d (.int .i64) (.v 20)), (.d (.int .i64) (.v 21)), (.d (.int .i64) (.v 22)), (.d (.lst [(.int .i64), (.int .i64)]) (.v 23)), (.d (.lst [.str, .str, .str, (.int .i64), (.int .i64), (.int .i64)]) (.v 24))])], shs := [], rs := [], bs := [], fz := [] }]
theorem mnam_ent : EntOK Try.prog [] ⟨22, [(.g shM), (.c (.int .i64))], [(.c .bool)], vcmnam⟩ :=
  ent_of_genH hP Try.func22 rfl (by decide) (jn := [(3,[1000000]),(5,[1000000])]) (hd := hdmnam) (sg := sgs) (by kernel_rfl)
def vcmlis : VC := (.loop [(.int .i64), (.int .i64)] [(.ki .i64 0), (.ki .i64 0)]
 (.ite (.cmp .lss (.v 27) (.len (.v 12)))
  (.ev [(.ob (.cmp .geq (.v 27) (.ki .i64 0))), (.ob (.cmp .lss (.v 27) (.len (.v 12))))]
   (.ite (.cmp .lss (.cell (.get (.v 12) (.v 27)) 0) (.ki .i64 0))
    (.ret [(.ki .i64 2)])
    (.ite (.cmp .gtr (.cell (.get (.v 12) (.v 27)) 0) (.ki .i64 268435456))
     (.ret [(.ki .i64 2)])
     (.ite (.cmp .lss (.cell (.get (.v 12) (.v 27)) 1) (.ki .i64 0))
      (.ret [(.ki .i64 2)])
      (.ite (.cmp .gtr (.cell (.get (.v 12) (.v 27)) 1) (.ki .i64 1099511627775))
       (.ret [(.ki .i64 2)])
       (.back 0 [(.v 26), (.ar .add .i64 (.v 27) (.ki .i64 1))]))))))
  (.ite (.cmp .neq (.ar .and .i64 (.v 25) (.ki .i64 1024)) (.ki .i64 0))
   (.cal 47 [(.g [(.int .i64), (.int .i64), (.int .i64), (.int .i64), (.int .i64), .str, (.int .i64), (.int .i64), (.int .i64), (.int .i64), (.lst [(.int .i64), (.int .i64)])])] [(.rc (.cons (.v 13) (.cons (.v 14) (.cons (.v 15) (.cons (.v 16) (.cons (.v 17) (.cons (.v 18) (.cons (.v 19) (.cons (.v 20) (.cons (.v 21) (.cons (.v 22) (.cons (.v 23) .nil))))))))))))] [(.c (.int .i64))] 28
    (.ite (.cmp .neq (.v 28) (.ki .i64 0))
     (.ret [(.v 28)])
     (.loop [(.int .i64), (.int .i64)] [(.v 26), (.ki .i64 0)]
      (.ite (.cmp .lss (.v 30) (.len (.v 24)))
       (.ev [(.ob (.cmp .geq (.v 30) (.ki .i64 0))), (.ob (.cmp .lss (.v 30) (.len (.v 24))))]
        (.cal 48 [(.g [.str, .str, .str, (.int .i64), (.int .i64), (.int .i64)])] [(.rc (.cons (.cell (.get (.v 24) (.v 30)) 0) (.cons (.cell (.get (.v 24) (.v 30)) 1) (.cons (.cell (.get (.v 24) (.v 30)) 2) (.cons (.cell (.get (.v 24) (.v 30)) 3) (.cons (.cell (.get (.v 24) (.v 30)) 4) (.cons (.cell (.get (.v 24) (.v 30)) 5) .nil)))))))] [(.c (.int .i64))] 31
         (.ite (.cmp .neq (.v 31) (.ki .i64 0))
          (.ret [(.v 31)])
          (.back 1 [(.v 29), (.ar .add .i64 (.v 30) (.ki .i64 1))]))))
       (.ret [(.ki .i64 0)])))))
   (.loop [(.int .i64), (.int .i64)] [(.v 26), (.ki .i64 0)]
    (.ite (.cmp .lss (.v 29) (.len (.v 24)))
     (.ev [(.ob (.cmp .geq (.v 29) (.ki .i64 0))), (.ob (.cmp .lss (.v 29) (.len (.v 24))))]
      (.cal 48 [(.g [.str, .str, .str, (.int .i64), (.int .i64), (.int .i64)])] [(.rc (.cons (.cell (.get (.v 24) (.v 29)) 0) (.cons (.cell (.get (.v 24) (.v 29)) 1) (.cons (.cell (.get (.v 24) (.v 29)) 2) (.cons (.cell (.get (.v 24) (.v 29)) 3) (.cons (.cell (.get (.v 24) (.v 29)) 4) (.cons (.cell (.get (.v 24) (.v 29)) 5) .nil)))))))] [(.c (.int .i64))] 30
       (.ite (.cmp .neq (.v 30) (.ki .i64 0))
        (.ret [(.v 30)])
        (.back 1 [(.v 28), (.ar .add .i64 (.v 29) (.ki .i64 1))]))))
     (.ret [(.ki .i64 0)]))))))
def hdmlis : List HdL := [{ kind := true, id := 2, nv := 26, tmps := [(.v (.g [(.d (.int .i64) (.v 0)), (.d (.int .i64) (.v 1)), (.d (.int .i64) (.v 2)), (.d (.int .i64) (.v 3)), (.d (.int .i64) (.v 4)), (.d (.int .i64) (.v 5)), (.d (.int .i64) (.v 6)), (.d (.int .i64) (.v 7)), (.d .str (.v 8)), (.d .str (.v 9)), (.d .str (.v 10)), (.d .bool (.v 11)), (.d (.lst [(.int .i64), (.int .i64)]) (.v 12)), (.d (.int .i64) (.v 13)), (.d (.int .i64) (.v 14)), (.d (.int .i64) (.v 15)), (.d (.int .i64) (.v 16)), (.d (.int .i64) (.v 17)), (.d .str (.v 18)), (.d (.int .i64) (.v 19)), (.d (.int .i64) (.v 20)), (.d (.int .i64) (.v 21)), (.d (.int .i64) (.v 22)), (.d (.lst [(.int .i64), (.int .i64)]) (.v 23)), (.d (.lst [.str, .str, .str, (.int .i64), (.int .i64), (.int .i64)]) (.v 24))])), (.v (.c (.d (.int .i64) (.v 25)))), (.v (.c (.ptr 0 0))), (.v (.c .any)), (.v (.c (.d (.int .i64) (.v 26)))) ] ++ an 6 ++ [(.v (.c (.ptr 0 12))), (.v (.c (.d (.lst [(.int .i64), (.int .i64)]) (.v 12)))), (.v (.c (.d (.int .i64) (.len (.v 12))))), (.v (.c (.d (.int .i64) (.v 27)))) ] ++ an 44, blks := [(.cells [(.d (.int .i64) (.v 0)), (.d (.int .i64) (.v 1)), (.d (.int .i64) (.v 2)), (.d (.int .i64) (.v 3)), (.d (.int .i64) (.v 4)), (.d (.int .i64) (.v 5)), (.d (.int .i64) (.v 6)), (.d (.int .i64) (.v 7)), (.d .str (.v 8)), (.d .str (.v 9)), (.d .str (.v 10)), (.d .bool (.v 11)), (.d (.lst [(.int .i64), (.int .i64)]) (.v 12)), (.d (.int .i64) (.v 13)), (.d (.int .i64) (.v 14)), (.d (.int .i64) (.v 15)), (.d (.int .i64) (.v 16)), (.d (.int .i64) (.v 17)), (.d .str (.v 18)), (.d (.int .i64) (.v 19)), (.d (.int .i64) (.v 20)), (.d (.int .i64) (.v 21)), (.d (.int .i64) (.v 22)), (.d (.lst [(.int .i64), (.int .i64)]) (.v 23)), (.d (.lst [.str, .str, .str, (.int .i64), (.int .i64), (.int .i64)]) (.v 24))])], shs := [(.int .i64), (.int .i64)], rs := [], bs := [], fz := [] },
{ kind := true, id := 12, nv := 29, tmps := [(.v (.g [(.d (.int .i64) (.v 0)), (.d (.int .i64) (.v 1)), (.d (.int .i64) (.v 2)), (.d (.int .i64) (.v 3)), (.d (.int .i64) (.v 4)), (.d (.int .i64) (.v 5)), (.d (.int .i64) (.v 6)), (.d (.int .i64) (.v 7)), (.d .str (.v 8)), (.d .str (.v 9)), (.d .str (.v 10)), (.d .bool (.v 11)), (.d (.lst [(.int .i64), (.int .i64)]) (.v 12)), (.d (.int .i64) (.v 13)), (.d (.int .i64) (.v 14)), (.d (.int .i64) (.v 15)), (.d (.int .i64) (.v 16)), (.d (.int .i64) (.v 17)), (.d .str (.v 18)), (.d (.int .i64) (.v 19)), (.d (.int .i64) (.v 20)), (.d (.int .i64) (.v 21)), (.d (.int .i64) (.v 22)), (.d (.lst [(.int .i64), (.int .i64)]) (.v 23)), (.d (.lst [.str, .str, .str, (.int .i64), (.int .i64), (.int .i64)]) (.v 24))])), (.v (.c (.d (.int .i64) (.v 25)))), (.v (.c (.ptr 0 0))), (.v (.c .any)), (.v (.c (.d (.int .i64) (.v 29)))), (.v (.c .any)), (.v (.c .any)), (.v (.c (.d (.int .i64) (.v 28)))), (.v (.c .any)), (.v (.c .any)), (.v (.c .any)), (.v (.c (.ptr 0 12))), (.v (.c (.d (.lst [(.int .i64), (.int .i64)]) (.v 12)))), (.v (.c (.d (.int .i64) (.len (.v 12))))), (.v (.c (.d (.int .i64) (.v 27)))), (.v (.c (.d .bool (.cmp .lss (.v 27) (.len (.v 12)))))) ] ++ an 21 ++ [(.v (.c (.d (.int .i64) (.v 25)))), (.v (.c (.d (.int .i64) (.ar .and .i64 (.v 25) (.ki .i64 1024))))), (.v (.c (.d .bool (.cmp .neq (.ar .and .i64 (.v 25) (.ki .i64 1024)) (.ki .i64 0))))), (.v (.c (.ptr 0 13))), (.v (.g [(.d (.int .i64) (.v 13)), (.d (.int .i64) (.v 14)), (.d (.int .i64) (.v 15)), (.d (.int .i64) (.v 16)), (.d (.int .i64) (.v 17)), (.d .str (.v 18)), (.d (.int .i64) (.v 19)), (.d (.int .i64) (.v 20)), (.d (.int .i64) (.v 21)), (.d (.int .i64) (.v 22)), (.d (.lst [(.int .i64), (.int .i64)]) (.v 23))])), (.v (.c (.d (.int .i64) (.v 28)))), (.v (.c (.d (.int .i64) (.v 28)))), (.v (.c (.d .bool (.cmp .neq (.v 28) (.ki .i64 0))))), (.v (.c .any)), (.v (.c (.ptr 0 24))), (.v (.c (.d (.lst [.str, .str, .str, (.int .i64), (.int .i64), (.int .i64)]) (.v 24)))), (.v (.c (.d (.int .i64) (.len (.v 24))))), (.v (.c (.d (.int .i64) (.v 30)))) ] ++ an 9, blks := [(.cells [(.d (.int .i64) (.v 0)), (.d (.int .i64) (.v 1)), (.d (.int .i64) (.v 2)), (.d (.int .i64) (.v 3)), (.d (.int .i64) (.v 4)), (.d (.int .i64) (.v 5)), (.d (.int .i64) (.v 6)), (.d (.int .i64) (.v 7)), (.d .str (.v 8)), (.d .str (.v 9)), (.d .str (.v 10)), (.d .bool (.v 11)), (.d (.lst [(.int .i64), (.int .i64)]) (.v 12)), (.d (.int .i64) (.v 13)), (.d (.int .i64) (.v 14)), (.d (.int .i64) (.v 15)), (.d (.int .i64) (.v 16)), (.d (.int .i64) (.v 17)), (.d .str (.v 18)), (.d (.int .i64) (.v 19)), (.d (.int .i64) (.v 20)), (.d (.int .i64) (.v 21)), (.d (.int .i64) (.v 22)), (.d (.lst [(.int .i64), (.int .i64)]) (.v 23)), (.d (.lst [.str, .str, .str, (.int .i64), (.int .i64), (.int .i64)]) (.v 24))])], shs := [(.int .i64), (.int .i64)], rs := [], bs := [], fz := [] },
{ kind := true, id := 12, nv := 28, tmps := [(.v (.g [(.d (.int .i64) (.v 0)), (.d (.int .i64) (.v 1)), (.d (.int .i64) (.v 2)), (.d (.int .i64) (.v 3)), (.d (.int .i64) (.v 4)), (.d (.int .i64) (.v 5)), (.d (.int .i64) (.v 6)), (.d (.int .i64) (.v 7)), (.d .str (.v 8)), (.d .str (.v 9)), (.d .str (.v 10)), (.d .bool (.v 11)), (.d (.lst [(.int .i64), (.int .i64)]) (.v 12)), (.d (.int .i64) (.v 13)), (.d (.int .i64) (.v 14)), (.d (.int .i64) (.v 15)), (.d (.int .i64) (.v 16)), (.d (.int .i64) (.v 17)), (.d .str (.v 18)), (.d (.int .i64) (.v 19)), (.d (.int .i64) (.v 20)), (.d (.int .i64) (.v 21)), (.d (.int .i64) (.v 22)), (.d (.lst [(.int .i64), (.int .i64)]) (.v 23)), (.d (.lst [.str, .str, .str, (.int .i64), (.int .i64), (.int .i64)]) (.v 24))])), (.v (.c (.d (.int .i64) (.v 25)))), (.v (.c (.ptr 0 0))), (.v (.c .any)), (.v (.c (.d (.int .i64) (.v 28)))) ] ++ an 6 ++ [(.v (.c (.ptr 0 12))), (.v (.c (.d (.lst [(.int .i64), (.int .i64)]) (.v 12)))), (.v (.c (.d (.int .i64) (.len (.v 12))))), (.v (.c (.d (.int .i64) (.v 27)))), (.v (.c (.d .bool (.cmp .lss (.v 27) (.len (.v 12)))))) ] ++ an 21 ++ [(.v (.c (.d (.int .i64) (.v 25)))), (.v (.c (.d (.int .i64) (.ar .and .i64 (.v 25) (.ki .i64 1024))))), (.v (.c (.d .bool (.cmp .neq (.ar .and .i64 (.v 25) (.ki .i64 1024)) (.ki .i64 0))))) ] ++ an 6 ++ [(.v (.c (.ptr 0 24))), (.v (.c (.d (.lst [.str, .str, .str, (.int .i64), (.int .i64), (.int .i64)]) (.v 24)))), (.v (.c (.d (.int .i64) (.len (.v 24))))), (.v (.c (.d (.int .i64) (.v 29)))) ] ++ an 9, blks := [(.cells [(.d (.int .i64) (.v 0)), (.d (.int .i64) (.v 1)), (.d (.int .i64) (.v 2)), (.d (.int .i64) (.v 3)), (.d (.int .i64) (.v 4)), (.d (.int .i64) (.v 5)), (.d (.int .i64) (.v 6)), (.d (.int .i64) (.v 7)), (.d .str (.v 8)), (.d .str (.v 9)), (.d .str (.v 10)), (.d .bool (.v 11)), (.d (.lst [(.int .i64), (.int .i64)]) (.v 12)), (.d (.int .i64) (.v 13)), (.d (.int .i64) (.v 14)), (.d (.int .i64) (.v 15)), (.d (.int .i64) (.v 16)), (.d (.int .i64) (.v 17)), (.d .str (.v 18)), (.d (.int .i64) (.v 19)), (.d (.int .i64) (.v 20)), (.d (.int .i64) (.v 21)), (.d (.int .i64) (.v 22)), (.d (.lst [(.int .i64), (.int .i64)]) (.v 23)), (.d (.lst [.str, .str, .str, (.int .i64), (.int .i64), (.int .i64)]) (.v 24))])], shs := [(.int .i64), (.int .i64)], rs := [], bs := [], fz := [] }]
theorem mlis_ent : EntOK Try.prog [] ⟨23, [(.g shM), (.c (.int .i64))], [(.c (.int .i64))], vcmlis⟩ :=
  ent_of_genH hP Try.func23 rfl (by decide) (jn := []) (hd := hdmlis) (sg := sgs) (by kernel_rfl)
def vcrnum : VC := (.join [(.int .i64), (.int .i64)]
 (.ite (.cmp .eql (.v 0) (.ki .i64 3))
  (.back 0 [(.ki .i64 1), (.ki .i64 25)])
  (.back 0 [(.ki .i64 0), (.ki .i64 100)]))
 (.cal 27 [(.c (.lst [(.int .i64)])), (.c (.int .i64))] [(.v 25), (.ki .i64 4)] [(.c .bool)] 28
  (.ite (.v 28)
   (.cal 24 [(.c (.int .i64)), (.c (.int .i64)), (.c (.int .i64))] [(.v 3), (.ki .i64 1), (.ki .i64 32)] [(.c .bool)] 29
    (.ite (.v 29)
     (.cal 27 [(.c (.lst [(.int .i64)])), (.c (.int .i64))] [(.v 25), (.ki .i64 5)] [(.c .bool)] 30
      (.ite (.v 30)
       (.cal 24 [(.c (.int .i64)), (.c (.int .i64)), (.c (.int .i64))] [(.v 4), (.v 26), (.v 27)] [(.c .bool)] 31
        (.ite (.v 31)
         (.cal 27 [(.c (.lst [(.int .i64)])), (.c (.int .i64))] [(.v 25), (.ki .i64 6)] [(.c .bool)] 32
          (.ite (.v 32)
           (.cal 24 [(.c (.int .i64)), (.c (.int .i64)), (.c (.int .i64))] [(.v 5), (.ki .i64 0), (.ki .i64 2147483647)] [(.c .bool)] 33
            (.ite (.v 33)
             (.cal 27 [(.c (.lst [(.int .i64)])), (.c (.int .i64))] [(.v 25), (.ki .i64 7)] [(.c .bool)] 34
              (.ite (.v 34)
               (.cal 50 [(.c (.int .i64))] [(.v 6)] [(.c .bool)] 35
                (.ite (.v 35)
                 (.cal 27 [(.c (.lst [(.int .i64)])), (.c (.int .i64))] [(.v 25), (.ki .i64 8)] [(.c .bool)] 36
                  (.ite (.v 36)
                   (.cal 24 [(.c (.int .i64)), (.c (.int .i64)), (.c (.int .i64))] [(.v 7), (.ki .i64 0), (.ki .i64 2147483647)] [(.c .bool)] 37
                    (.ite (.v 37)
                     (.ret [(.ki .i64 0)])
                     (.ret [(.ki .i64 2)])))
                   (.ret [(.ki .i64 0)])))
                 (.ret [(.ki .i64 2)])))
               (.cal 27 [(.c (.lst [(.int .i64)])), (.c (.int .i64))] [(.v 25), (.ki .i64 8)] [(.c .bool)] 35
                (.ite (.v 35)
                 (.cal 24 [(.c (.int .i64)), (.c (.int .i64)), (.c (.int .i64))] [(.v 7), (.ki .i64 0), (.ki .i64 2147483647)] [(.c .bool)] 36
                  (.ite (.v 36)
                   (.ret [(.ki .i64 0)])
                   (.ret [(.ki .i64 2)])))
                 (.ret [(.ki .i64 0)])))))
             (.ret [(.ki .i64 2)])))
           (.cal 27 [(.c (.lst [(.int .i64)])), (.c (.int .i64))] [(.v 25), (.ki .i64 7)] [(.c .bool)] 33
            (.ite (.v 33)
             (.cal 50 [(.c (.int .i64))] [(.v 6)] [(.c .bool)] 34
              (.ite (.v 34)
               (.cal 27 [(.c (.lst [(.int .i64)])), (.c (.int .i64))] [(.v 25), (.ki .i64 8)] [(.c .bool)] 35
                (.ite (.v 35)
                 (.cal 24 [(.c (.int .i64)), (.c (.int .i64)), (.c (.int .i64))] [(.v 7), (.ki .i64 0), (.ki .i64 2147483647)] [(.c .bool)] 36
                  (.ite (.v 36)
                   (.ret [(.ki .i64 0)])
                   (.ret [(.ki .i64 2)])))
                 (.ret [(.ki .i64 0)])))
               (.ret [(.ki .i64 2)])))
             (.cal 27 [(.c (.lst [(.int .i64)])), (.c (.int .i64))] [(.v 25), (.ki .i64 8)] [(.c .bool)] 34
              (.ite (.v 34)
               (.cal 24 [(.c (.int .i64)), (.c (.int .i64)), (.c (.int .i64))] [(.v 7), (.ki .i64 0), (.ki .i64 2147483647)] [(.c .bool)] 35
                (.ite (.v 35)
                 (.ret [(.ki .i64 0)])
                 (.ret [(.ki .i64 2)])))
               (.ret [(.ki .i64 0)])))))))
         (.ret [(.ki .i64 2)])))
       (.cal 27 [(.c (.lst [(.int .i64)])), (.c (.int .i64))] [(.v 25), (.ki .i64 6)] [(.c .bool)] 31
        (.ite (.v 31)
         (.cal 24 [(.c (.int .i64)), (.c (.int .i64)), (.c (.int .i64))] [(.v 5), (.ki .i64 0), (.ki .i64 2147483647)] [(.c .bool)] 32
          (.ite (.v 32)
           (.cal 27 [(.c (.lst [(.int .i64)])), (.c (.int .i64))] [(.v 25), (.ki .i64 7)] [(.c .bool)] 33
            (.ite (.v 33)
             (.cal 50 [(.c (.int .i64))] [(.v 6)] [(.c .bool)] 34
              (.ite (.v 34)
               (.cal 27 [(.c (.lst [(.int .i64)])), (.c (.int .i64))] [(.v 25), (.ki .i64 8)] [(.c .bool)] 35
                (.ite (.v 35)
                 (.cal 24 [(.c (.int .i64)), (.c (.int .i64)), (.c (.int .i64))] [(.v 7), (.ki .i64 0), (.ki .i64 2147483647)] [(.c .bool)] 36
                  (.ite (.v 36)
                   (.ret [(.ki .i64 0)])
                   (.ret [(.ki .i64 2)])))
                 (.ret [(.ki .i64 0)])))
               (.ret [(.ki .i64 2)])))
             (.cal 27 [(.c (.lst [(.int .i64)])), (.c (.int .i64))] [(.v 25), (.ki .i64 8)] [(.c .bool)] 34
              (.ite (.v 34)
               (.cal 24 [(.c (.int .i64)), (.c (.int .i64)), (.c (.int .i64))] [(.v 7), (.ki .i64 0), (.ki .i64 2147483647)] [(.c .bool)] 35
                (.ite (.v 35)
                 (.ret [(.ki .i64 0)])
                 (.ret [(.ki .i64 2)])))
               (.ret [(.ki .i64 0)])))))
           (.ret [(.ki .i64 2)])))
         (.cal 27 [(.c (.lst [(.int .i64)])), (.c (.int .i64))] [(.v 25), (.ki .i64 7)] [(.c .bool)] 32
          (.ite (.v 32)
           (.cal 50 [(.c (.int .i64))] [(.v 6)] [(.c .bool)] 33
            (.ite (.v 33)
             (.cal 27 [(.c (.lst [(.int .i64)])), (.c (.int .i64))] [(.v 25), (.ki .i64 8)] [(.c .bool)] 34
              (.ite (.v 34)
               (.cal 24 [(.c (.int .i64)), (.c (.int .i64)), (.c (.int .i64))] [(.v 7), (.ki .i64 0), (.ki .i64 2147483647)] [(.c .bool)] 35
                (.ite (.v 35)
                 (.ret [(.ki .i64 0)])
                 (.ret [(.ki .i64 2)])))
               (.ret [(.ki .i64 0)])))
             (.ret [(.ki .i64 2)])))
           (.cal 27 [(.c (.lst [(.int .i64)])), (.c (.int .i64))] [(.v 25), (.ki .i64 8)] [(.c .bool)] 33
            (.ite (.v 33)
             (.cal 24 [(.c (.int .i64)), (.c (.int .i64)), (.c (.int .i64))] [(.v 7), (.ki .i64 0), (.ki .i64 2147483647)] [(.c .bool)] 34
              (.ite (.v 34)
               (.ret [(.ki .i64 0)])
               (.ret [(.ki .i64 2)])))
             (.ret [(.ki .i64 0)])))))))))
     (.ret [(.ki .i64 2)])))
   (.cal 27 [(.c (.lst [(.int .i64)])), (.c (.int .i64))] [(.v 25), (.ki .i64 5)] [(.c .bool)] 29
    (.ite (.v 29)
     (.cal 24 [(.c (.int .i64)), (.c (.int .i64)), (.c (.int .i64))] [(.v 4), (.v 26), (.v 27)] [(.c .bool)] 30
      (.ite (.v 30)
       (.cal 27 [(.c (.lst [(.int .i64)])), (.c (.int .i64))] [(.v 25), (.ki .i64 6)] [(.c .bool)] 31
        (.ite (.v 31)
         (.cal 24 [(.c (.int .i64)), (.c (.int .i64)), (.c (.int .i64))] [(.v 5), (.ki .i64 0), (.ki .i64 2147483647)] [(.c .bool)] 32
          (.ite (.v 32)
           (.cal 27 [(.c (.lst [(.int .i64)])), (.c (.int .i64))] [(.v 25), (.ki .i64 7)] [(.c .bool)] 33
            (.ite (.v 33)
             (.cal 50 [(.c (.int .i64))] [(.v 6)] [(.c .bool)] 34
              (.ite (.v 34)
               (.cal 27 [(.c (.lst [(.int .i64)])), (.c (.int .i64))] [(.v 25), (.ki .i64 8)] [(.c .bool)] 35
                (.ite (.v 35)
                 (.cal 24 [(.c (.int .i64)), (.c (.int .i64)), (.c (.int .i64))] [(.v 7), (.ki .i64 0), (.ki .i64 2147483647)] [(.c .bool)] 36
                  (.ite (.v 36)
                   (.ret [(.ki .i64 0)])
                   (.ret [(.ki .i64 2)])))
                 (.ret [(.ki .i64 0)])))
               (.ret [(.ki .i64 2)])))
             (.cal 27 [(.c (.lst [(.int .i64)])), (.c (.int .i64))] [(.v 25), (.ki .i64 8)] [(.c .bool)] 34
              (.ite (.v 34)
               (.cal 24 [(.c (.int .i64)), (.c (.int .i64)), (.c (.int .i64))] [(.v 7), (.ki .i64 0), (.ki .i64 2147483647)] [(.c .bool)] 35
                (.ite (.v 35)
                 (.ret [(.ki .i64 0)])
                 (.ret [(.ki .i64 2)])))
               (.ret [(.ki .i64 0)])))))
           (.ret [(.ki .i64 2)])))
         (.cal 27 [(.c (.lst [(.int .i64)])), (.c (.int .i64))] [(.v 25), (.ki .i64 7)] [(.c .bool)] 32
          (.ite (.v 32)
           (.cal 50 [(.c (.int .i64))] [(.v 6)] [(.c .bool)] 33
            (.ite (.v 33)
             (.cal 27 [(.c (.lst [(.int .i64)])), (.c (.int .i64))] [(.v 25), (.ki .i64 8)] [(.c .bool)] 34
              (.ite (.v 34)
               (.cal 24 [(.c (.int .i64)), (.c (.int .i64)), (.c (.int .i64))] [(.v 7), (.ki .i64 0), (.ki .i64 2147483647)] [(.c .bool)] 35
                (.ite (.v 35)
                 (.ret [(.ki .i64 0)])
                 (.ret [(.ki .i64 2)])))
               (.ret [(.ki .i64 0)])))
             (.ret [(.ki .i64 2)])))
           (.cal 27 [(.c (.lst [(.int .i64)])), (.c (.int .i64))] [(.v 25), (.ki .i64 8)] [(.c .bool)] 33
            (.ite (.v 33)
             (.cal 24 [(.c (.int .i64)), (.c (.int .i64)), (.c (.int .i64))] [(.v 7), (.ki .i64 0), (.ki .i64 2147483647)] [(.c .bool)] 34
              (.ite (.v 34)
               (.ret [(.ki .i64 0)])
               (.ret [(.ki .i64 2)])))
             (.ret [(.ki .i64 0)])))))))
       (.ret [(.ki .i64 2)])))
     (.cal 27 [(.c (.lst [(.int .i64)])), (.c (.int .i64))] [(.v 25), (.ki .i64 6)] [(.c .bool)] 30
      (.ite (.v 30)
       (.cal 24 [(.c (.int .i64)), (.c (.int .i64)), (.c (.int .i64))] [(.v 5), (.ki .i64 0), (.ki .i64 2147483647)] [(.c .bool)] 31
        (.ite (.v 31)
         (.cal 27 [(.c (.lst [(.int .i64)])), (.c (.int .i64))] [(.v 25), (.ki .i64 7)] [(.c .bool)] 32
          (.ite (.v 32)
           (.cal 50 [(.c (.int .i64))] [(.v 6)] [(.c .bool)] 33
            (.ite (.v 33)
             (.cal 27 [(.c (.lst [(.int .i64)])), (.c (.int .i64))] [(.v 25), (.ki .i64 8)] [(.c .bool)] 34
              (.ite (.v 34)
               (.cal 24 [(.c (.int .i64)), (.c (.int .i64)), (.c (.int .i64))] [(.v 7), (.ki .i64 0), (.ki .i64 2147483647)] [(.c .bool)] 35
                (.ite (.v 35)
                 (.ret [(.ki .i64 0)])
                 (.ret [(.ki .i64 2)])))
               (.ret [(.ki .i64 0)])))
             (.ret [(.ki .i64 2)])))
           (.cal 27 [(.c (.lst [(.int .i64)])), (.c (.int .i64))] [(.v 25), (.ki .i64 8)] [(.c .bool)] 33
            (.ite (.v 33)
             (.cal 24 [(.c (.int .i64)), (.c (.int .i64)), (.c (.int .i64))] [(.v 7), (.ki .i64 0), (.ki .i64 2147483647)] [(.c .bool)] 34
              (.ite (.v 34)
               (.ret [(.ki .i64 0)])
               (.ret [(.ki .i64 2)])))
             (.ret [(.ki .i64 0)])))))
         (.ret [(.ki .i64 2)])))
       (.cal 27 [(.c (.lst [(.int .i64)])), (.c (.int .i64))] [(.v 25), (.ki .i64 7)] [(.c .bool)] 31
        (.ite (.v 31)
         (.cal 50 [(.c (.int .i64))] [(.v 6)] [(.c .bool)] 32
          (.ite (.v 32)
           (.cal 27 [(.c (.lst [(.int .i64)])), (.c (.int .i64))] [(.v 25), (.ki .i64 8)] [(.c .bool)] 33
            (.ite (.v 33)
             (.cal 24 [(.c (.int .i64)), (.c (.int .i64)), (.c (.int .i64))] [(.v 7), (.ki .i64 0), (.ki .i64 2147483647)] [(.c .bool)] 34
              (.ite (.v 34)
               (.ret [(.ki .i64 0)])
               (.ret [(.ki .i64 2)])))
             (.ret [(.ki .i64 0)])))
           (.ret [(.ki .i64 2)])))
         (.cal 27 [(.c (.lst [(.int .i64)])), (.c (.int .i64))] [(.v 25), (.ki .i64 8)] [(.c .bool)] 32
          (.ite (.v 32)
           (.cal 24 [(.c (.int .i64)), (.c (.int .i64)), (.c (.int .i64))] [(.v 7), (.ki .i64 0), (.ki .i64 2147483647)] [(.c .bool)] 33
            (.ite (.v 33)
             (.ret [(.ki .i64 0)])
             (.ret [(.ki .i64 2)])))
           (.ret [(.ki .i64 0)]))))))))))))
def hdrnum : List HdL := [{ kind := false, id := 4, nv := 26, tmps := [(.v (.g [(.d (.int .i64) (.v 0)), (.d (.int .i64) (.v 1)), (.d (.int .i64) (.v 2)), (.d (.int .i64) (.v 3)), (.d (.int .i64) (.v 4)), (.d (.int .i64) (.v 5)), (.d (.int .i64) (.v 6)), (.d (.int .i64) (.v 7)), (.d .str (.v 8)), (.d .str (.v 9)), (.d .str (.v 10)), (.d .bool (.v 11)), (.d (.lst [(.int .i64), (.int .i64)]) (.v 12)), (.d (.int .i64) (.v 13)), (.d (.int .i64) (.v 14)), (.d (.int .i64) (.v 15)), (.d (.int .i64) (.v 16)), (.d (.int .i64) (.v 17)), (.d .str (.v 18)), (.d (.int .i64) (.v 19)), (.d (.int .i64) (.v 20)), (.d (.int .i64) (.v 21)), (.d (.int .i64) (.v 22)), (.d (.lst [(.int .i64), (.int .i64)]) (.v 23)), (.d (.lst [.str, .str, .str, (.int .i64), (.int .i64), (.int .i64)]) (.v 24))])), (.v (.c (.d (.lst [(.int .i64)]) (.v 25)))), (.v (.c (.ptr 0 0))), (.v (.c .any)), (.v (.c (.d (.int .i64) (.ki .i64 0)))), (.v (.c (.d (.int .i64) (.v 26)))), (.v (.c (.d (.int .i64) (.v 27)))) ] ++ an 53, blks := [(.cells [(.d (.int .i64) (.v 0)), (.d (.int .i64) (.v 1)), (.d (.int .i64) (.v 2)), (.d (.int .i64) (.v 3)), (.d (.int .i64) (.v 4)), (.d (.int .i64) (.v 5)), (.d (.int .i64) (.v 6)), (.d (.int .i64) (.v 7)), (.d .str (.v 8)), (.d .str (.v 9)), (.d .str (.v 10)), (.d .bool (.v 11)), (.d (.lst [(.int .i64), (.int .i64)]) (.v 12)), (.d (.int .i64) (.v 13)), (.d (.int .i64) (.v 14)), (.d (.int .i64) (.v 15)), (.d (.int .i64) (.v 16)), (.d (.int .i64) (.v 17)), (.d .str (.v 18)), (.d (.int .i64) (.v 19)), (.d (.int .i64) (.v 20)), (.d (.int .i64) (.v 21)), (.d (.int .i64) (.v 22)), (.d (.lst [(.int .i64), (.int .i64)]) (.v 23)), (.d (.lst [.str, .str, .str, (.int .i64), (.int .i64), (.int .i64)]) (.v 24))])], shs := [(.int .i64), (.int .i64)], rs := [], bs := [], fz := [] }]
theorem rnum_ent : EntOK Try.prog [] ⟨29, [(.g shM), (.c (.lst [(.int .i64)]))], [(.c (.int .i64))], vcrnum⟩ :=
  ent_of_genH hP Try.func29 rfl (by decide) (jn := [(4,[5,6])]) (hd := hdrnum) (sg := sgs) (by kernel_rfl)
def vcmval : VC := (.ite (.cmp .lss (.v 0) (.ki .i64 1))
 (.ret [(.ki .i64 1)])
 (.ite (.cmp .gtr (.v 0) (.ki .i64 3))
  (.ret [(.ki .i64 1)])
  (.ite (.cmp .lss (.v 1) (.ki .i64 1))
   (.ret [(.ki .i64 2)])
   (.ite (.cmp .gtr (.v 1) (.ki .i64 2147483647))
    (.ret [(.ki .i64 2)])
    (.cal 19 [(.c (.int .i64)), (.c (.int .i64))] [(.v 0), (.v 2)] [(.c (.int .i64)), (.c .bool)] 25
     (.ite (.v 26)
      (.ite (.cmp .gtr (.len (.v 12)) (.ki .i64 64))
       (.ret [(.ki .i64 3)])
       (.ite (.cmp .gtr (.len (.v 24)) (.ki .i64 64))
        (.ret [(.ki .i64 3)])
        (.cal 20 [(.g shM)] [(.rc (.cons (.v 0) (.cons (.v 1) (.cons (.v 2) (.cons (.v 3) (.cons (.v 4) (.cons (.v 5) (.cons (.v 6) (.cons (.v 7) (.cons (.v 8) (.cons (.v 9) (.cons (.v 10) (.cons (.v 11) (.cons (.v 12) (.cons (.v 13) (.cons (.v 14) (.cons (.v 15) (.cons (.v 16) (.cons (.v 17) (.cons (.v 18) (.cons (.v 19) (.cons (.v 20) (.cons (.v 21) (.cons (.v 22) (.cons (.v 23) (.cons (.v 24) .nil))))))))))))))))))))))))))] [(.c (.int .i64))] 27
         (.ite (.cmp .neq (.ar .andNot .i64 (.v 27) (.v 25)) (.ki .i64 0))
          (.ret [(.ki .i64 1)])
          (.cal 21 [(.g shM), (.c (.int .i64))] [(.rc (.cons (.v 0) (.cons (.v 1) (.cons (.v 2) (.cons (.v 3) (.cons (.v 4) (.cons (.v 5) (.cons (.v 6) (.cons (.v 7) (.cons (.v 8) (.cons (.v 9) (.cons (.v 10) (.cons (.v 11) (.cons (.v 12) (.cons (.v 13) (.cons (.v 14) (.cons (.v 15) (.cons (.v 16) (.cons (.v 17) (.cons (.v 18) (.cons (.v 19) (.cons (.v 20) (.cons (.v 21) (.cons (.v 22) (.cons (.v 23) (.cons (.v 24) .nil)))))))))))))))))))))))))), (.v 25)] [(.c .bool)] 28
           (.ite (.v 28)
            (.cal 22 [(.g shM), (.c (.int .i64))] [(.rc (.cons (.v 0) (.cons (.v 1) (.cons (.v 2) (.cons (.v 3) (.cons (.v 4) (.cons (.v 5) (.cons (.v 6) (.cons (.v 7) (.cons (.v 8) (.cons (.v 9) (.cons (.v 10) (.cons (.v 11) (.cons (.v 12) (.cons (.v 13) (.cons (.v 14) (.cons (.v 15) (.cons (.v 16) (.cons (.v 17) (.cons (.v 18) (.cons (.v 19) (.cons (.v 20) (.cons (.v 21) (.cons (.v 22) (.cons (.v 23) (.cons (.v 24) .nil)))))))))))))))))))))))))), (.v 25)] [(.c .bool)] 29
             (.ite (.v 29)
              (.cal 23 [(.g shM), (.c (.int .i64))] [(.rc (.cons (.v 0) (.cons (.v 1) (.cons (.v 2) (.cons (.v 3) (.cons (.v 4) (.cons (.v 5) (.cons (.v 6) (.cons (.v 7) (.cons (.v 8) (.cons (.v 9) (.cons (.v 10) (.cons (.v 11) (.cons (.v 12) (.cons (.v 13) (.cons (.v 14) (.cons (.v 15) (.cons (.v 16) (.cons (.v 17) (.cons (.v 18) (.cons (.v 19) (.cons (.v 20) (.cons (.v 21) (.cons (.v 22) (.cons (.v 23) (.cons (.v 24) .nil)))))))))))))))))))))))))), (.v 25)] [(.c (.int .i64))] 30
               (.ret [(.v 30)]))
              (.ret [(.ki .i64 4)])))
            (.ret [(.ki .i64 2)])))))))
      (.ret [(.ki .i64 1)])))))))
theorem mval_ent : EntOK Try.prog [] ⟨9, [(.g shM)], [(.c (.int .i64))], vcmval⟩ :=
  ent_of_gen hP Try.func9 rfl (by decide) (sg := sgs) (by kernel_rfl)
end Go.Proofs.Ytfhdgaecclfccaa.V26
set_option maxRecDepth 100000
set_option linter.unusedSimpArgs false
set_option linter.unusedVariables false
namespace Go.Proofs.Ytfhdgaecclfccaa.V26
open Go.Proofs.Ytfhdgaecclfccaa Go.Proofs.Ytfhdgaecclfccaa.Sy Go.Proofs.Ytfhdgaecclfccaa.L7 Go.Proofs.Ytfhdgaecclfccaa.Id Go.Proofs.Ytfhdgaecclfccaa.R26 Go.RowKit Go.WideShapes Go.ChangeShapes Go.ChangeAt

end Go.Proofs.Ytfhdgaecclfccaa.V26
