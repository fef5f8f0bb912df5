/-
  Layers 19 and 20: the conditions of the functions. No conditions stand ahead of what is proved.
-/
import Derived.Test.YtighdhddeidmcaaSyRk
import Derived.Test.YtighdhddeidmcaaN10
import Derived.Test.YtighdhddeidmcaaDE
import Derived.Test.YtighdhddeidmcaaProg
set_option maxRecDepth 100000
set_option linter.unusedSimpArgs false
set_option linter.unusedVariables false
namespace Go.Proofs.Ytighdhddeidmcaa.V10
open Go.Proofs.Ytighdhddeidmcaa Go.Proofs.Ytighdhddeidmcaa.Sy Go.RowKit
theorem hP : NoNum Try.prog := by unfold NoNum; kernel_rfl
def sgs : Nat → Option (List TS × List TS) := fun _ => none
def an (n : Nat) : List AV := List.replicate n (.v (.c .any))
def vcvalid : VC := (.ite (.cmp .lss (.v 1) (.ki .i64 1000))
 (.ret [(.ki .i64 1)])
 (.ite (.cmp .gtr (.v 1) (.ki .i64 1099511627776))
  (.ret [(.ki .i64 1)])
  (.ite (.cmp .lss (.v 0) (.ki .i64 0))
   (.ret [(.ki .i64 1)])
   (.ite (.cmp .geq (.v 0) (.v 1))
    (.ret [(.ki .i64 1)])
    (.ite (.cmp .lss (.v 2) (.ki .i64 0))
     (.ret [(.ki .i64 1)])
     (.ite (.cmp .geq (.v 2) (.ki .i64 1000000))
      (.ret [(.ki .i64 1)])
      (.ite (.cmp .lss (.v 3) (.ki .i64 (-100000)))
       (.ret [(.ki .i64 1)])
       (.ite (.cmp .gtr (.v 3) (.ki .i64 100000))
        (.ret [(.ki .i64 1)])
        (.ret [(.ki .i64 0)])))))))))
theorem valid_ent : EntOK Try.prog [] ⟨4, [(.g [(.int .i64), (.int .i64), (.int .i64), (.int .i64)])], [(.c (.int .i64))], vcvalid⟩ :=
  ent_of_gen hP Try.func4 rfl (by decide) (sg := sgs) (by kernel_rfl)
def vccount : VC := (.cal 9 [(.g [(.int .i64), (.int .i64), (.int .i64), (.int .i64)]), (.c (.int .i64))] [(.rc (.cons (.v 0) (.cons (.v 1) (.cons (.v 2) (.cons (.v 3) .nil))))), (.v 4)] [(.c (.int .i64))] 5
 (.ite (.cmp .neq (.v 5) (.ki .i64 0))
  (.ret [(.rc (.cons (.v 0) (.cons (.v 1) (.cons (.v 2) (.cons (.v 3) .nil))))), (.v 5)])
  (.cal 10 [(.g [(.int .i64), (.int .i64), (.int .i64), (.int .i64)]), (.c (.int .i64)), (.c (.int .i64))] [(.rc (.cons (.v 0) (.cons (.v 1) (.cons (.v 2) (.cons (.v 3) .nil))))), (.v 4), (.v 2)] [(.c (.int .i64))] 6
   (.ev [(.ob (.cmp .neq (.v 1) (.ki .i64 0)))]
    (.ret [(.rc (.cons (.ar .rem .i64 (.ar .add .i64 (.v 0) (.ar .quo .i64 (.v 6) (.ki .i64 1000000))) (.v 1)) (.cons (.v 1) (.cons (.ar .rem .i64 (.v 6) (.ki .i64 1000000)) (.cons (.v 3) .nil))))), (.ki .i64 0)])))))
theorem count_ent : EntOK Try.prog [] ⟨5, [(.g [(.int .i64), (.int .i64), (.int .i64), (.int .i64)]), (.c (.int .i64))], [(.g [(.int .i64), (.int .i64), (.int .i64), (.int .i64)]), (.c (.int .i64))], vccount⟩ :=
  ent_of_gen hP Try.func5 rfl (by decide) (sg := sgs) (by kernel_rfl)
def vcbounds : VC := (.cal 9 [(.g [(.int .i64), (.int .i64), (.int .i64), (.int .i64)]), (.c (.int .i64))] [(.rc (.cons (.v 0) (.cons (.v 1) (.cons (.v 2) (.cons (.v 3) .nil))))), (.v 4)] [(.c (.int .i64))] 5
 (.ite (.cmp .neq (.v 5) (.ki .i64 0))
  (.ret [(.ki .i64 0), (.ki .i64 0), (.v 5)])
  (.ev [(.call 10 [(.g [(.int .i64), (.int .i64), (.int .i64), (.int .i64)]), (.c (.int .i64)), (.c (.int .i64))] [(.rc (.cons (.v 0) (.cons (.v 1) (.cons (.v 2) (.cons (.v 3) .nil))))), (.v 4), (.ki .i64 0)] [(.c (.int .i64))] 6), (.call 10 [(.g [(.int .i64), (.int .i64), (.int .i64), (.int .i64)]), (.c (.int .i64)), (.c (.int .i64))] [(.rc (.cons (.v 0) (.cons (.v 1) (.cons (.v 2) (.cons (.v 3) .nil))))), (.v 4), (.ki .i64 999999)] [(.c (.int .i64))] 7), (.call 14 [(.c (.int .i64)), (.c (.lst [(.int .i64)]))] [(.ar .quo .i64 (.v 6) (.ki .i64 1000000)), (.cons (.ar .quo .i64 (.v 7) (.ki .i64 1000000)) .nil)] [(.c (.int .i64)), (.c (.int .i64))] 8)]
   (.ret [(.v 8), (.v 9), (.ki .i64 0)]))))
theorem bounds_ent : EntOK Try.prog [] ⟨7, [(.g [(.int .i64), (.int .i64), (.int .i64), (.int .i64)]), (.c (.int .i64))], [(.c (.int .i64)), (.c (.int .i64)), (.c (.int .i64))], vcbounds⟩ :=
  ent_of_gen hP Try.func7 rfl (by decide) (sg := sgs) (by kernel_rfl)
def vccheck : VC := (.cal 4 [(.g [(.int .i64), (.int .i64), (.int .i64), (.int .i64)])] [(.rc (.cons (.v 0) (.cons (.v 1) (.cons (.v 2) (.cons (.v 3) .nil)))))] [(.c (.int .i64))] 5
 (.ite (.cmp .neq (.v 5) (.ki .i64 0))
  (.ret [(.v 5)])
  (.ite (.cmp .lss (.v 4) (.ki .i64 0))
   (.ret [(.ki .i64 2)])
   (.ite (.cmp .gtr (.v 4) (.ki .i64 1099511627776))
    (.ret [(.ki .i64 2)])
    (.ret [(.ki .i64 0)])))))
theorem check_ent : EntOK Try.prog [] ⟨9, [(.g [(.int .i64), (.int .i64), (.int .i64), (.int .i64)]), (.c (.int .i64))], [(.c (.int .i64))], vccheck⟩ :=
  ent_of_gen hP Try.func9 rfl (by decide) (sg := sgs) (by kernel_rfl)
def vcmsr : VC := (.ret [(.ar .add .i64 (.ar .mul .i64 (.v 4) (.ar .add .i64 (.ki .i64 1000000) (.v 3))) (.v 5))])
theorem msr_ent : EntOK Try.prog [] ⟨10, [(.g [(.int .i64), (.int .i64), (.int .i64), (.int .i64)]), (.c (.int .i64)), (.c (.int .i64))], [(.c (.int .i64))], vcmsr⟩ :=
  ent_of_gen hP Try.func10 rfl (by decide) (sg := sgs) (by kernel_rfl)
def vcuvalid : VC := (.ite (.cmp .lss (.v 1) (.ki .i64 1000))
 (.ret [(.ki .i64 2)])
 (.ite (.cmp .gtr (.v 1) (.ki .i64 1099511627776))
  (.ret [(.ki .i64 2)])
  (.ite (.cmp .eql (.len (.v 0)) (.ki .i64 0))
   (.ret [(.ki .i64 1)])
   (.ite (.cmp .gtr (.len (.v 0)) (.ki .i64 1024))
    (.ret [(.ki .i64 3)])
    (.loop [(.int .i64), (.int .i64)] [(.ki .i64 0), (.ki .i64 0)]
     (.ite (.cmp .lss (.v 3) (.len (.v 0)))
      (.ev [(.ob (.cmp .geq (.v 3) (.ki .i64 0))), (.ob (.cmp .lss (.v 3) (.len (.v 0))))]
       (.ite (.cmp .lss (.cell (.get (.v 0) (.v 3)) 0) (.ki .i64 0))
        (.ret [(.ki .i64 2)])
        (.ite (.cmp .gtr (.cell (.get (.v 0) (.v 3)) 0) (.ki .i64 268435456))
         (.ret [(.ki .i64 2)])
         (.ite (.cmp .lss (.cell (.get (.v 0) (.v 3)) 1) (.ki .i64 0))
          (.ret [(.ki .i64 2)])
          (.ite (.cmp .geq (.cell (.get (.v 0) (.v 3)) 1) (.v 1))
           (.ret [(.ki .i64 2)])
           (.ite (.cmp .gtr (.v 3) (.ki .i64 0))
            (.ev [(.ob (.cmp .geq (.ar .sub .i64 (.v 3) (.ki .i64 1)) (.ki .i64 0))), (.ob (.cmp .lss (.ar .sub .i64 (.v 3) (.ki .i64 1)) (.len (.v 0))))]
             (.ite (.cmp .leq (.cell (.get (.v 0) (.v 3)) 0) (.cell (.get (.v 0) (.ar .sub .i64 (.v 3) (.ki .i64 1))) 0))
              (.ret [(.ki .i64 1)])
              (.back 0 [(.v 2), (.ar .add .i64 (.v 3) (.ki .i64 1))])))
            (.back 0 [(.v 2), (.ar .add .i64 (.v 3) (.ki .i64 1))])))))))
      (.ret [(.ki .i64 0)])))))))
def hduvalid : List HdL := [{ kind := true, id := 8, nv := 2, tmps := [(.v (.c (.d (.lst [(.int .i64), (.int .i64)]) (.v 0)))), (.v (.c (.d (.int .i64) (.v 1)))), (.v (.c .any)), (.v (.c .any)), (.v (.c (.d (.int .i64) (.v 2)))), (.v (.c .any)), (.v (.c .any)), (.v (.c (.d (.int .i64) (.v 1)))), (.v (.c (.d .bool (.cmp .lss (.v 1) (.ki .i64 1000))))), (.v (.c (.d .bool (.cmp .lss (.v 1) (.ki .i64 1000))))), (.v (.c (.d (.int .i64) (.v 1)))), (.v (.c (.d .bool (.cmp .gtr (.v 1) (.ki .i64 1099511627776))))), (.v (.c (.d .bool (.cmp .gtr (.v 1) (.ki .i64 1099511627776))))), (.v (.c (.d (.lst [(.int .i64), (.int .i64)]) (.v 0)))), (.v (.c (.d (.int .i64) (.len (.v 0))))), (.v (.c (.d .bool (.cmp .eql (.len (.v 0)) (.ki .i64 0))))), (.v (.c (.d (.lst [(.int .i64), (.int .i64)]) (.v 0)))), (.v (.c (.d (.int .i64) (.len (.v 0))))), (.v (.c (.d .bool (.cmp .gtr (.len (.v 0)) (.ki .i64 1024))))), (.v (.c (.d (.lst [(.int .i64), (.int .i64)]) (.v 0)))), (.v (.c (.d (.int .i64) (.len (.v 0))))), (.v (.c (.d (.int .i64) (.v 3)))) ] ++ an 37, blks := [], shs := [(.int .i64), (.int .i64)], rs := [], bs := [], fz := [] }]
theorem uvalid_ent : EntOK Try.prog [] ⟨11, [(.c (.lst [(.int .i64), (.int .i64)])), (.c (.int .i64))], [(.c (.int .i64))], vcuvalid⟩ :=
  ent_of_genH hP Try.func11 rfl (by decide) (jn := []) (hd := hduvalid) (sg := sgs) (by kernel_rfl)
def vcdelta : VC := (.ite (.cmp .lss (.v 2) (.ki .i64 1000))
 (.ret [(.ki .i64 0), (.ki .i64 1)])
 (.ite (.cmp .gtr (.v 2) (.ki .i64 1099511627776))
  (.ret [(.ki .i64 0), (.ki .i64 1)])
  (.ite (.cmp .lss (.v 0) (.ki .i64 0))
   (.ret [(.ki .i64 0), (.ki .i64 2)])
   (.ite (.cmp .geq (.v 0) (.v 2))
    (.ret [(.ki .i64 0), (.ki .i64 2)])
    (.ite (.cmp .lss (.v 1) (.ki .i64 0))
     (.ret [(.ki .i64 0), (.ki .i64 2)])
     (.ite (.cmp .geq (.v 1) (.v 2))
      (.ret [(.ki .i64 0), (.ki .i64 2)])
      (.ev [(.ob (.cmp .neq (.v 2) (.ki .i64 0)))]
       (.ret [(.ar .rem .i64 (.ar .add .i64 (.ar .sub .i64 (.v 1) (.v 0)) (.v 2)) (.v 2)), (.ki .i64 0)]))))))))
theorem delta_ent : EntOK Try.prog [] ⟨13, [(.c (.int .i64)), (.c (.int .i64)), (.c (.int .i64))], [(.c (.int .i64)), (.c (.int .i64))], vcdelta⟩ :=
  ent_of_gen hP Try.func13 rfl (by decide) (sg := sgs) (by kernel_rfl)
def vcbnds : VC := (.loop [(.int .i64), (.int .i64), (.int .i64)] [(.v 0), (.v 0), (.ki .i64 0)]
 (.ite (.cmp .lss (.v 4) (.len (.v 1)))
  (.ev [(.ob (.cmp .geq (.v 4) (.ki .i64 0))), (.ob (.cmp .lss (.v 4) (.len (.v 1))))]
   (.back 0 [(.mn .i64 (.v 2) (.get (.v 1) (.v 4))), (.mx .i64 (.v 3) (.get (.v 1) (.v 4))), (.ar .add .i64 (.v 4) (.ki .i64 1))]))
  (.ret [(.v 2), (.v 3)])))
def hdbnds : List HdL := [{ kind := true, id := 3, nv := 2, tmps := [(.v (.c (.d (.int .i64) (.v 0)))), (.v (.c (.d (.lst [(.int .i64)]) (.v 1)))), (.v (.c .any)), (.v (.c .any)), (.v (.c (.d (.int .i64) (.ki .i64 0)))), (.v (.c (.d (.int .i64) (.ki .i64 0)))), (.v (.c (.d (.int .i64) (.v 2)))), (.v (.c (.d (.int .i64) (.v 3)))), (.v (.c .any)), (.v (.c .any)), (.v (.c (.d (.int .i64) (.v 0)))), (.v (.c (.d (.int .i64) (.v 0)))), (.v (.c (.d (.lst [(.int .i64)]) (.v 1)))), (.v (.c (.d (.int .i64) (.len (.v 1))))), (.v (.c (.d (.int .i64) (.v 4)))) ] ++ an 12, blks := [], shs := [(.int .i64), (.int .i64), (.int .i64)], rs := [], bs := [], fz := [] }]
theorem bnds_ent : EntOK Try.prog [] ⟨14, [(.c (.int .i64)), (.c (.lst [(.int .i64)]))], [(.c (.int .i64)), (.c (.int .i64))], vcbnds⟩ :=
  ent_of_genH hP Try.func14 rfl (by decide) (jn := []) (hd := hdbnds) (sg := sgs) (by kernel_rfl)
def vclaw : VC := (.ite (.cmp .gtr (.len (.v 4)) (.ki .i64 300))
 (.ret [(.kb true)])
 (.ite (.cmp .lss (.v 1) (.ki .i64 1000000))
  (.ret [(.kb true)])
  (.cal 4 [(.g [(.int .i64), (.int .i64), (.int .i64), (.int .i64)])] [(.rc (.cons (.v 0) (.cons (.v 1) (.cons (.v 2) (.cons (.v 3) .nil)))))] [(.c (.int .i64))] 6
   (.ite (.cmp .neq (.v 6) (.ki .i64 0))
    (.ret [(.kb true)])
    (.loop [(.int .i64), (.int .i64), (.int .i64), (.int .i64), (.lst [(.int .i64), (.int .i64)]), .bool, (.int .i64), (.int .i64)] [(.v 0), (.v 1), (.v 2), (.v 3), (.cons (.rc (.cons (.ki .i64 0) (.cons (.v 0) .nil))) .nil), (.kb false), (.ki .i64 0), (.ki .i64 0)]
     (.ite (.cmp .lss (.v 14) (.len (.v 4)))
      (.ev [(.ob (.cmp .geq (.v 14) (.ki .i64 0))), (.ob (.cmp .lss (.v 14) (.len (.v 4))))]
       (.ite (.cmp .lss (.get (.v 4) (.v 14)) (.ki .i64 0))
        (.ret [(.kb true)])
        (.ite (.cmp .gtr (.get (.v 4) (.v 14)) (.ki .i64 100000))
         (.ret [(.kb true)])
         (.cal 5 [(.g [(.int .i64), (.int .i64), (.int .i64), (.int .i64)]), (.c (.int .i64))] [(.rc (.cons (.v 7) (.cons (.v 8) (.cons (.v 9) (.cons (.v 10) .nil))))), (.get (.v 4) (.v 14))] [(.g [(.int .i64), (.int .i64), (.int .i64), (.int .i64)]), (.c (.int .i64))] 15
          (.ite (.cmp .neq (.v 19) (.ki .i64 0))
           (.ret [(.kb false)])
           (.ev [(.ob (.cmp .neq (.ar .add .i64 (.ar .rem .i64 (.conv .i64 (.v 5)) (.ki .i64 9)) (.ki .i64 1)) (.ki .i64 0)))]
            (.ite (.cmp .eql (.ar .rem .i64 (.ar .add .i64 (.v 14) (.ki .i64 1)) (.ar .add .i64 (.ar .rem .i64 (.conv .i64 (.v 5)) (.ki .i64 9)) (.ki .i64 1))) (.ki .i64 0))
             (.ev [(.ob (.cmp .leq (.len (.app (.v 11) (.cons (.rc (.cons (.ar .add .i64 (.v 14) (.ki .i64 1)) (.cons (.v 15) .nil))) .nil))) (.ki .i64 4294967296)))]
              (.back 0 [(.v 15), (.v 16), (.v 17), (.v 18), (.app (.v 11) (.cons (.rc (.cons (.ar .add .i64 (.v 14) (.ki .i64 1)) (.cons (.v 15) .nil))) .nil)), (.v 12), (.ar .add .i64 (.v 13) (.get (.v 4) (.v 14))), (.ar .add .i64 (.v 14) (.ki .i64 1))]))
             (.ite (.cmp .eql (.v 14) (.ar .sub .i64 (.len (.v 4)) (.ki .i64 1)))
              (.ev [(.ob (.cmp .leq (.len (.app (.v 11) (.cons (.rc (.cons (.ar .add .i64 (.v 14) (.ki .i64 1)) (.cons (.v 15) .nil))) .nil))) (.ki .i64 4294967296)))]
               (.back 0 [(.v 15), (.v 16), (.v 17), (.v 18), (.app (.v 11) (.cons (.rc (.cons (.ar .add .i64 (.v 14) (.ki .i64 1)) (.cons (.v 15) .nil))) .nil)), (.v 12), (.ar .add .i64 (.v 13) (.get (.v 4) (.v 14))), (.ar .add .i64 (.v 14) (.ki .i64 1))]))
              (.back 0 [(.v 15), (.v 16), (.v 17), (.v 18), (.v 11), (.v 12), (.ar .add .i64 (.v 13) (.get (.v 4) (.v 14))), (.ar .add .i64 (.v 14) (.ki .i64 1))])))))))))
      (.cal 6 [(.c (.lst [(.int .i64), (.int .i64)])), (.c (.int .i64))] [(.v 11), (.v 8)] [(.c (.int .i64)), (.c (.int .i64))] 15
       (.ite (.cmp .neq (.v 16) (.ki .i64 0))
        (.ret [(.kb false)])
        (.cal 7 [(.g [(.int .i64), (.int .i64), (.int .i64), (.int .i64)]), (.c (.int .i64))] [(.rc (.cons (.v 0) (.cons (.v 1) (.cons (.v 2) (.cons (.v 3) .nil))))), (.v 13)] [(.c (.int .i64)), (.c (.int .i64)), (.c (.int .i64))] 17
         (.ite (.cmp .neq (.v 19) (.ki .i64 0))
          (.ret [(.kb false)])
          (.ite (.cmp .lss (.v 15) (.v 17))
           (.ret [(.kb false)])
           (.ite (.cmp .gtr (.v 15) (.v 18))
            (.ret [(.kb false)])
            (.cal 8 [(.c (.lst [(.int .i64), (.int .i64)])), (.c (.int .i64))] [(.v 11), (.v 8)] [(.c (.lst [(.int .i64)])), (.c (.int .i64))] 20
             (.ite (.cmp .neq (.v 21) (.ki .i64 0))
              (.ret [(.kb false)])
              (.ite (.cmp .neq (.len (.v 20)) (.len (.v 4)))
               (.ret [(.kb false)])
               (.loop [(.int .i64), (.int .i64)] [(.v 15), (.ki .i64 0)]
                (.ite (.cmp .lss (.v 23) (.len (.v 20)))
                 (.ev [(.ob (.cmp .geq (.v 23) (.ki .i64 0))), (.ob (.cmp .lss (.v 23) (.len (.v 20))))]
                  (.back 1 [(.ar .sub .i64 (.v 22) (.get (.v 20) (.v 23))), (.ar .add .i64 (.v 23) (.ki .i64 1))]))
                 (.ret [(.cmp .eql (.v 22) (.ki .i64 0))]))))))))))))))))))
def hdlaw : List HdL := [{ kind := true, id := 7, nv := 7, tmps := [(.v (.g [(.d (.int .i64) (.v 0)), (.d (.int .i64) (.v 1)), (.d (.int .i64) (.v 2)), (.d (.int .i64) (.v 3))])), (.v (.c (.d (.lst [(.int .i64)]) (.v 4)))), (.v (.c (.d (.int .u8) (.v 5)))), (.v (.c (.ptr 0 0))), (.v (.c .any)), (.v (.c .any)), (.v (.c (.d .bool (.v 12)))), (.v (.c (.ptr 1 0))), (.v (.c (.row 2 [(.int .i64), (.int .i64)] (.len (.v 11))))), (.v (.c (.d (.int .i64) (.v 13)))) ] ++ an 10 ++ [(.v (.c (.d (.lst [(.int .i64)]) (.v 4)))), (.v (.c (.d (.int .i64) (.len (.v 4))))), (.v (.c (.d .bool (.cmp .gtr (.len (.v 4)) (.ki .i64 300))))), (.v (.c (.d .bool (.cmp .gtr (.len (.v 4)) (.ki .i64 300))))), (.v (.c (.ptr 0 1))), (.v (.c (.d (.int .i64) (.v 1)))), (.v (.c (.d .bool (.cmp .lss (.v 1) (.ki .i64 1000000))))), (.v (.c (.d .bool (.cmp .lss (.v 1) (.ki .i64 1000000))))), (.v (.c (.d .bool (.cmp .lss (.v 1) (.ki .i64 1000000))))), (.v (.g [(.d (.int .i64) (.v 0)), (.d (.int .i64) (.v 1)), (.d (.int .i64) (.v 2)), (.d (.int .i64) (.v 3))])), (.v (.c (.d (.int .i64) (.v 6)))), (.v (.c (.d .bool (.cmp .neq (.v 6) (.ki .i64 0))))), (.v (.c (.d .bool (.cmp .neq (.v 6) (.ki .i64 0))))), (.v (.g [(.d (.int .i64) (.v 0)), (.d (.int .i64) (.v 1)), (.d (.int .i64) (.v 2)), (.d (.int .i64) (.v 3))])), (.v (.c (.ptr 0 0))), (.v (.c (.d (.int .i64) (.v 0)))), (.v (.g [(.d (.int .i64) (.ki .i64 0)), (.d (.int .i64) (.v 0))])), (.v (.c .any)), (.v (.c (.d (.lst [(.int .i64)]) (.v 4)))), (.v (.c (.d (.int .i64) (.len (.v 4))))), (.v (.c (.d (.int .i64) (.v 14)))) ] ++ an 101, blks := [(.cells [(.d (.int .i64) (.v 7)), (.d (.int .i64) (.v 8)), (.d (.int .i64) (.v 9)), (.d (.int .i64) (.v 10))]), (.cells [(.d (.int .i64) (.v 0)), (.d (.int .i64) (.v 1)), (.d (.int .i64) (.v 2)), (.d (.int .i64) (.v 3))]), (.row [(.int .i64), (.int .i64)] (.v 11) false)], shs := [(.int .i64), (.int .i64), (.int .i64), (.int .i64), (.lst [(.int .i64), (.int .i64)]), .bool, (.int .i64), (.int .i64)], rs := [], bs := [], fz := [] },
{ kind := true, id := 29, nv := 22, tmps := [(.v (.g [(.d (.int .i64) (.v 0)), (.d (.int .i64) (.v 1)), (.d (.int .i64) (.v 2)), (.d (.int .i64) (.v 3))])), (.v (.c (.d (.lst [(.int .i64)]) (.v 4)))), (.v (.c (.d (.int .u8) (.v 5)))), (.v (.c (.ptr 0 0))), (.v (.c .any)), (.v (.c .any)), (.v (.c (.d .bool (.v 12)))), (.v (.c (.ptr 1 0))), (.v (.c (.row 2 [(.int .i64), (.int .i64)] (.len (.v 11))))), (.v (.c (.d (.int .i64) (.v 13)))), (.v (.c .any)), (.v (.c .any)), (.v (.c .any)), (.v (.c (.d (.int .i64) (.v 22)))), (.v (.c (.d (.int .i64) (.v 21)))), (.v (.c (.d (.int .i64) (.v 17)))), (.v (.c (.d (.int .i64) (.v 18)))), (.v (.c (.d (.lst [(.int .i64)]) (.v 20)))), (.v (.c .any)), (.v (.c .any)), (.v (.c (.d (.lst [(.int .i64)]) (.v 4)))), (.v (.c (.d (.int .i64) (.len (.v 4))))), (.v (.c (.d .bool (.cmp .gtr (.len (.v 4)) (.ki .i64 300))))), (.v (.c (.d .bool (.cmp .gtr (.len (.v 4)) (.ki .i64 300))))), (.v (.c (.ptr 0 1))), (.v (.c (.d (.int .i64) (.v 1)))), (.v (.c (.d .bool (.cmp .lss (.v 1) (.ki .i64 1000000))))), (.v (.c (.d .bool (.cmp .lss (.v 1) (.ki .i64 1000000))))), (.v (.c (.d .bool (.cmp .lss (.v 1) (.ki .i64 1000000))))), (.v (.g [(.d (.int .i64) (.v 0)), (.d (.int .i64) (.v 1)), (.d (.int .i64) (.v 2)), (.d (.int .i64) (.v 3))])), (.v (.c (.d (.int .i64) (.v 6)))), (.v (.c (.d .bool (.cmp .neq (.v 6) (.ki .i64 0))))), (.v (.c (.d .bool (.cmp .neq (.v 6) (.ki .i64 0))))), (.v (.g [(.d (.int .i64) (.v 0)), (.d (.int .i64) (.v 1)), (.d (.int .i64) (.v 2)), (.d (.int .i64) (.v 3))])), (.v (.c (.ptr 0 0))), (.v (.c (.d (.int .i64) (.v 0)))), (.v (.g [(.d (.int .i64) (.ki .i64 0)), (.d (.int .i64) (.v 0))])), (.v (.c .any)), (.v (.c (.d (.lst [(.int .i64)]) (.v 4)))), (.v (.c (.d (.int .i64) (.len (.v 4))))), (.v (.c (.d (.int .i64) (.v 14)))), (.v (.c (.d .bool (.cmp .lss (.v 14) (.len (.v 4)))))) ] ++ an 45 ++ [(.v (.c (.row 2 [(.int .i64), (.int .i64)] (.len (.v 11))))), (.v (.c (.ptr 0 1))), (.v (.c (.d (.int .i64) (.v 8)))), (.v (.c .any)), (.v (.c (.d (.int .i64) (.v 15)))), (.v (.c (.d (.int .i64) (.v 16)))), (.v (.c (.d (.int .i64) (.v 16)))), (.v (.c (.d .bool (.cmp .neq (.v 16) (.ki .i64 0))))), (.v (.c .any)), (.v (.g [(.d (.int .i64) (.v 0)), (.d (.int .i64) (.v 1)), (.d (.int .i64) (.v 2)), (.d (.int .i64) (.v 3))])), (.v (.c (.d (.int .i64) (.v 13)))), (.v (.c .any)), (.v (.c (.d (.int .i64) (.v 17)))), (.v (.c (.d (.int .i64) (.v 18)))), (.v (.c (.d (.int .i64) (.v 19)))), (.v (.c (.d (.int .i64) (.v 19)))), (.v (.c (.d .bool (.cmp .neq (.v 19) (.ki .i64 0))))), (.v (.c (.d .bool (.cmp .neq (.v 19) (.ki .i64 0))))), (.v (.c (.d (.int .i64) (.v 15)))), (.v (.c (.d (.int .i64) (.v 17)))), (.v (.c (.d .bool (.cmp .lss (.v 15) (.v 17))))), (.v (.c (.d .bool (.cmp .lss (.v 15) (.v 17))))), (.v (.c (.d .bool (.cmp .lss (.v 15) (.v 17))))), (.v (.c (.d (.int .i64) (.v 15)))), (.v (.c (.d (.int .i64) (.v 18)))), (.v (.c (.d .bool (.cmp .gtr (.v 15) (.v 18))))), (.v (.c (.d .bool (.cmp .gtr (.v 15) (.v 18))))), (.v (.c .any)), (.v (.c (.row 2 [(.int .i64), (.int .i64)] (.len (.v 11))))), (.v (.c (.ptr 0 1))), (.v (.c (.d (.int .i64) (.v 8)))), (.v (.c .any)), (.v (.c (.d (.lst [(.int .i64)]) (.v 20)))), (.v (.c (.d (.int .i64) (.v 21)))), (.v (.c (.d (.int .i64) (.v 21)))), (.v (.c (.d .bool (.cmp .neq (.v 21) (.ki .i64 0))))), (.v (.c (.d .bool (.cmp .neq (.v 21) (.ki .i64 0))))), (.v (.c (.d (.lst [(.int .i64)]) (.v 20)))), (.v (.c (.d (.int .i64) (.len (.v 20))))), (.v (.c (.d (.lst [(.int .i64)]) (.v 4)))), (.v (.c (.d (.int .i64) (.len (.v 4))))), (.v (.c (.d .bool (.cmp .neq (.len (.v 20)) (.len (.v 4)))))), (.v (.c (.d .bool (.cmp .neq (.len (.v 20)) (.len (.v 4)))))), (.v (.c (.d (.lst [(.int .i64)]) (.v 20)))), (.v (.c (.d (.int .i64) (.len (.v 20))))), (.v (.c (.d (.int .i64) (.v 23)))) ] ++ an 9, blks := [(.cells [(.d (.int .i64) (.v 7)), (.d (.int .i64) (.v 8)), (.d (.int .i64) (.v 9)), (.d (.int .i64) (.v 10))]), (.cells [(.d (.int .i64) (.v 0)), (.d (.int .i64) (.v 1)), (.d (.int .i64) (.v 2)), (.d (.int .i64) (.v 3))]), (.row [(.int .i64), (.int .i64)] (.v 11) true)], shs := [(.int .i64), (.int .i64)], rs := [], bs := [], fz := [] }]
theorem law_ent : EntOK Try.prog [] ⟨3, [(.g [(.int .i64), (.int .i64), (.int .i64), (.int .i64)]), (.c (.lst [(.int .i64)])), (.c (.int .u8))], [(.c .bool)], vclaw⟩ :=
  ent_of_genH hP Try.func3 rfl (by decide) (jn := []) (hd := hdlaw) (sg := sgs) (by kernel_rfl)
def utotal : VC := (.cal 11 [(.c (.lst [(.int .i64), (.int .i64)])), (.c (.int .i64))] [(.v 0), (.v 1)] [(.c (.int .i64))] 2
 (.ite (.cmp .neq (.v 2) (.ki .i64 0))
  (.ret [(.ki .i64 0), (.v 2)])
  (.back 0 [(.v 0), (.v 1), (.v 2), (.ki .i64 0)])))
def btotal : VC := (.cal 13 [(.c (.int .i64)), (.c (.int .i64)), (.c (.int .i64))] [(.v 5), (.v 7), (.v 1)] [(.c (.int .i64)), (.c (.int .i64))] 8
 (.ite (.cmp .neq (.v 9) (.ki .i64 0))
  (.bad 900060)
  (.back 0 [(.ar .add .i64 (.v 3) (.v 8))])))
def rtotal : VC := (.ret [(.v 3), (.ki .i64 0)])
def hstotal : List HdL := []
def hdtotal : HdL := { kind := true, id := 0, nv := 3, tmps := [(.v (.c (.d (.lst [(.int .i64), (.int .i64)]) (.v 0)))), (.v (.c .any)), (.v (.c .any)), (.v (.c (.ptr 0 0))), (.v (.c (.ptr 1 0))), (.v (.c (.ptr 2 0))), (.v (.c .any)), (.v (.c (.ptr 3 0))) ] ++ an 30, blks := [(.cells [(.d (.int .i64) (.v 1))]), (.cells [(.d (.int .i64) (.ki .i64 0))]), (.cells [(.d (.int .i64) (.ki .i64 0))]), (.cells [(.d (.int .i64) (.v 3))])], shs := [(.int .i64)], rs := [], bs := [], fz := [] }
theorem total_rf {ds rs : List D} (h : utotal.den Try.prog [] (fun r' => r' = .ok rs) [⟨Oblig Try.prog [] (fun r' => r' = .ok rs) btotal rtotal 3 0, fun _ => 0, 1⟩] (flatD [.c lstR, tI] ds)) : Fun Try.prog [] 6 [.c lstR, tI] ds [tI, tI] (.ok rs) :=
  fun_of_rf hP N10.nbok Try.func6 rfl (n := 3) (tl := 0) (t1 := 18) (tg := 19) (p1 := 20) (p2 := 21) (tb := 7) (kl := 0) (base := 3) (s := .int .i64) rfl rfl rfl rfl rfl rfl rfl (sg := sgs) (by kernel_rfl) (by decide) (h := mkHd hdtotal [0, 1, 2, 3] sgs [] [] hstotal) rfl (by kernel_rfl) (by kernel_rfl) (by kernel_rfl) (by kernel_rfl) (by kernel_rfl) h
def uminutes : VC := (.cal 11 [(.c (.lst [(.int .i64), (.int .i64)])), (.c (.int .i64))] [(.v 0), (.v 1)] [(.c (.int .i64))] 2
 (.ite (.cmp .neq (.v 2) (.ki .i64 0))
  (.ret [.nil, (.v 2)])
  (.ev [(.ob (.cmp .geq (.ar .sub .i64 (.len (.v 0)) (.ki .i64 1)) (.ki .i64 0))), (.ob (.cmp .lss (.ar .sub .i64 (.len (.v 0)) (.ki .i64 1)) (.len (.v 0)))), (.ob (.cmp .lss (.ki .i64 0) (.len (.v 0))))]
   (.ite (.cmp .gtr (.ar .sub .i64 (.cell (.get (.v 0) (.ar .sub .i64 (.len (.v 0)) (.ki .i64 1))) 0) (.cell (.get (.v 0) (.ki .i64 0)) 0)) (.ki .i64 20160))
    (.ret [.nil, (.ki .i64 3)])
    (.ev [(.ob (.cmp .leq (.ki .i64 0) (.ar .sub .i64 (.cell (.get (.v 0) (.ar .sub .i64 (.len (.v 0)) (.ki .i64 1))) 0) (.cell (.get (.v 0) (.ki .i64 0)) 0)))), (.ob (.cmp .leq (.ar .sub .i64 (.cell (.get (.v 0) (.ar .sub .i64 (.len (.v 0)) (.ki .i64 1))) 0) (.cell (.get (.v 0) (.ki .i64 0)) 0)) (.ki .i64 4294967296)))]
     (.back 0 [(.v 0), (.v 1), (.v 2), (.rep (.ki .i64 0) (.ki .i64 0))]))))))
def bminutes : VC := (.cal 13 [(.c (.int .i64)), (.c (.int .i64)), (.c (.int .i64))] [(.v 5), (.v 7), (.v 1)] [(.c (.int .i64)), (.c (.int .i64))] 8
 (.ite (.cmp .neq (.v 9) (.ki .i64 0))
  (.bad 900060)
  (.loop [(.lst [(.int .i64)]), (.int .i64)] [(.v 3), (.ki .i64 0)]
   (.ite (.cmp .lss (.v 11) (.ar .sub .i64 (.v 6) (.v 4)))
    (.ev [(.ob (.cmp .neq (.ar .sub .i64 (.v 6) (.v 4)) (.ki .i64 0))), (.ob (.cmp .neq (.ar .sub .i64 (.v 6) (.v 4)) (.ki .i64 0))), (.ob (.cmp .leq (.len (.app (.v 10) (.cons (.ar .sub .i64 (.ar .quo .i64 (.ar .mul .i64 (.v 8) (.ar .add .i64 (.v 11) (.ki .i64 1))) (.ar .sub .i64 (.v 6) (.v 4))) (.ar .quo .i64 (.ar .mul .i64 (.v 8) (.v 11)) (.ar .sub .i64 (.v 6) (.v 4)))) .nil))) (.ki .i64 4294967296)))]
     (.back 1 [(.app (.v 10) (.cons (.ar .sub .i64 (.ar .quo .i64 (.ar .mul .i64 (.v 8) (.ar .add .i64 (.v 11) (.ki .i64 1))) (.ar .sub .i64 (.v 6) (.v 4))) (.ar .quo .i64 (.ar .mul .i64 (.v 8) (.v 11)) (.ar .sub .i64 (.v 6) (.v 4)))) .nil)), (.ar .add .i64 (.v 11) (.ki .i64 1))]))
    (.back 0 [(.v 10)])))))
def rminutes : VC := (.ret [(.v 3), (.ki .i64 0)])
def hsminutes : List HdL := [{ kind := true, id := 16, nv := 10, tmps := [(.v (.c (.d (.lst [(.int .i64), (.int .i64)]) (.v 0)))), (.v (.c .any)), (.v (.c .any)), (.v (.c (.ptr 0 0))), (.v (.c (.ptr 1 0))), (.v (.c (.ptr 2 0))), (.v (.c .any)), (.v (.c .any)), (.v (.c (.ptr 4 0))), (.v (.c (.ptr 5 0))), (.v (.c (.ptr 6 0))), (.v (.c (.d (.int .i64) (.v 8)))), (.v (.c (.d (.int .i64) (.v 9)))), (.v (.c (.d (.int .i64) (.ar .sub .i64 (.v 6) (.v 4))))) ] ++ an 25 ++ [(.v (.g [(.d (.int .i64) (.v 4)), (.d (.int .i64) (.v 5))])), (.v (.g [(.d (.int .i64) (.v 6)), (.d (.int .i64) (.v 7))])), (.v (.c .any)), (.v (.c (.ptr 5 1))), (.v (.c (.d (.int .i64) (.v 5)))), (.v (.c (.ptr 6 1))), (.v (.c (.d (.int .i64) (.v 7)))), (.v (.c (.d (.int .i64) (.v 1)))), (.v (.c .any)), (.v (.c (.d (.int .i64) (.v 8)))), (.v (.c (.d (.int .i64) (.v 9)))), (.v (.c (.d (.int .i64) (.v 9)))), (.v (.c (.d .bool (.cmp .neq (.v 9) (.ki .i64 0))))), (.v (.c .any)), (.v (.c (.ptr 6 0))), (.v (.c (.d (.int .i64) (.v 6)))), (.v (.c (.ptr 5 0))), (.v (.c (.d (.int .i64) (.v 4)))), (.v (.c (.d (.int .i64) (.ar .sub .i64 (.v 6) (.v 4))))), (.v (.c (.d (.int .i64) (.ar .sub .i64 (.v 6) (.v 4))))), (.v (.c (.d (.int .i64) (.v 11)))) ] ++ an 19, blks := [(.cells [(.d (.int .i64) (.v 1))]), (.cells [(.nilS [(.int .i64)])]), (.cells [(.d (.int .i64) (.ki .i64 0))]), (.row [(.int .i64)] (.v 10) false), (.cells [(.row 3 [(.int .i64)] (.len (.v 10)))]), (.cells [(.d (.int .i64) (.v 4)), (.d (.int .i64) (.v 5))]), (.cells [(.d (.int .i64) (.v 6)), (.d (.int .i64) (.v 7))])], shs := [(.lst [(.int .i64)]), (.int .i64)], rs := [], bs := [], fz := [] }]
def hdminutes : HdL := { kind := true, id := 0, nv := 3, tmps := [(.v (.c (.d (.lst [(.int .i64), (.int .i64)]) (.v 0)))), (.v (.c .any)), (.v (.c .any)), (.v (.c (.ptr 0 0))), (.v (.c (.ptr 1 0))), (.v (.c (.ptr 2 0))), (.v (.c .any)), (.v (.c .any)), (.v (.c (.ptr 4 0))) ] ++ an 70, blks := [(.cells [(.d (.int .i64) (.v 1))]), (.cells [(.nilS [(.int .i64)])]), (.cells [(.d (.int .i64) (.ki .i64 0))]), (.row [(.int .i64)] (.v 3) false), (.cells [(.row 3 [(.int .i64)] (.len (.v 3)))])], shs := [(.lst [(.int .i64)])], rs := [], bs := [], fz := [] }
theorem minutes_rf {ds rs : List D} (h : uminutes.den Try.prog [] (fun r' => r' = .ok rs) [⟨Oblig Try.prog [] (fun r' => r' = .ok rs) bminutes rminutes 3 0, fun _ => 0, 1⟩] (flatD [.c lstR, tI] ds)) : Fun Try.prog [] 8 [.c lstR, tI] ds [.c (.lst [.int .i64]), tI] (.ok rs) :=
  fun_of_rf hP N10.nbok Try.func8 rfl (n := 5) (tl := 0) (t1 := 37) (tg := 38) (p1 := 39) (p2 := 40) (tb := 8) (kl := 0) (base := 3) (s := .lst [.int .i64]) rfl rfl rfl rfl rfl rfl rfl (sg := sgs) (by kernel_rfl) (by decide) (h := mkHd hdminutes [0, 1, 2, 4] sgs [] [] hsminutes) rfl (by kernel_rfl) (by kernel_rfl) (by kernel_rfl) (by kernel_rfl) (by kernel_rfl) h
end Go.Proofs.Ytighdhddeidmcaa.V10
