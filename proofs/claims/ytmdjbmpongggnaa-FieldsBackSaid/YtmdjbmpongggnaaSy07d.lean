/-
  The functions of layer 7: their conditions (printed by a program).
-/
import Derived.Test.YtmdjbmpongggnaaFrame
import Derived.Test.YtmdjbmpongggnaaSyO3
import Derived.Test.YtmdjbmpongggnaaSy07a
import Derived.Test.YtmdjbmpongggnaaSy07x
set_option maxRecDepth 100000
set_option linter.unusedSimpArgs false
set_option linter.unusedVariables false
namespace Go.Proofs.Ytmdjbmpongggnaa
open Go.Proofs.Ytmdjbmpongggnaa.Sy
def vctakeint : VC := (.cal 35 [(.p [(.s (.lst [(.int .u8)]))])] [(.rc (.cons (.v 0) .nil))] [(.c (.int .i64))] 1
 (.cal 36 [(.c .bool), (.c (.int .i64))] [(.cmp .eql (.len (.v 2)) (.ki .i64 0)), (.ki .i64 5)] [] 3
  (.ret [(.v 1), (.ki .i64 0)])))
theorem takeint_ent (ds : List D) (r : FR) (h : vctakeint.den Try.prog [] (KD 66 (I64d 0) r) [] (flatD [(.c (.lst [(.int .u8)]))] ds)) : Fun Try.prog [] 13 [(.c (.lst [(.int .u8)]))] ds [(.c (.int .i64)), (.c (.int .i64))] r := by
  exact fun_of_def hP Try.func13 rfl (g := 33) (a := 2) (b := 3) (t := 5) rfl rfl rfl rfl rfl rfl (sg := sgs) rfl rec_TakeInt (az := (.d (.int .i64) (.ki .i64 0))) (fun η M => by show Rep M (.int .i64) (.int .i64 0) (I64d 0); rw [Rep_int]; exact ⟨0, rfl, rfl, by decide, by decide⟩) rfl rfl (by decide) (by decide) (by decide) (e0 := (.ki .i64 0)) (fun ρ => rfl) (by kernel_rfl) (by decide) (by kernel_rfl) h
def vctake_0 : VC := (.cal 39 [(.p [(.s (.lst [(.int .u8)]))])] [(.rc (.cons (.v 5) .nil))] [(.c (.lst [(.int .u8)]))] 6 (.ev [(.ob (.cmp .leq (.len (.app (.v 2) (.cons (.rc (.cons (.v 4) (.cons (.v 6) .nil))) .nil))) (.ki .i64 4294967296)))] (.back 0 [(.v 7), (.app (.v 2) (.cons (.rc (.cons (.v 4) (.cons (.v 6) .nil))) .nil)), (.v 4)])))
def vctake : VC := (.loop [(.lst [(.int .u8)]), (.lst [(.int .i64), (.lst [(.int .u8)])]), (.int .i64)] [(.v 0), .nil, (.ki .i64 0)] (.ite (.cmp .gtr (.len (.v 1)) (.ki .i64 0)) (.cal 36 [(.c .bool), (.c (.int .i64))] [(.cmp .lss (.len (.v 2)) (.ki .i64 256)), (.ki .i64 3)] [] 4 (.cal 35 [(.p [(.s (.lst [(.int .u8)]))])] [(.rc (.cons (.v 1) .nil))] [(.c (.int .i64))] 4 (.ite (.cmp .gtr (.v 4) (.v 3)) (.cal 36 [(.c .bool), (.c (.int .i64))] [(.cmp .leq (.v 4) (.ki .i64 1000)), (.ki .i64 5)] [] 6 vctake_0) (.cal 36 [(.c .bool), (.c (.int .i64))] [(.kb false), (.ki .i64 5)] [] 6 vctake_0)))) (.ret [(.v 2), (.ki .i64 0)])))
theorem take_ent (ds : List D) (r : FR) (h : vctake.den Try.prog [] (KD 66 (.lst []) r) [] (flatD [(.c (.lst [(.int .u8)]))] ds)) : Fun Try.prog [] 22 [(.c (.lst [(.int .u8)]))] ds [(.c (.lst [(.int .i64), (.lst [(.int .u8)])])), (.c (.int .i64))] r := by
  exact fun_of_def hP Try.func22 rfl (g := 38) (a := 2) (b := 3) (t := 7) rfl rfl rfl rfl rfl rfl (sg := sgs) rfl rec_Take (az := (.nilS [.int .i64, .lst [.int .u8]])) (fun η M => ⟨none, rfl⟩) rfl rfl (by decide) (by decide) (by decide) (e0 := .nil) (fun ρ => rfl) (by kernel_rfl) (by decide) (by kernel_rfl) h
def vctakel : VC := (.cal 35 [(.p [(.s (.lst [(.int .u8)]))])] [(.rc (.cons (.v 0) .nil))] [(.c (.int .i64))] 1
 (.cal 36 [(.c .bool), (.c (.int .i64))] [(.cmp .geq (.v 1) (.ki .i64 0)), (.ki .i64 5)] [] 3
  (.cal 36 [(.c .bool), (.c (.int .i64))] [(.cmp .leq (.v 1) (.ki .i64 256)), (.ki .i64 3)] [] 3
   (.loop [(.lst [(.int .u8)]), (.lst [(.lst [(.int .u8)])]), (.int .i64)] [(.v 2), .nil, (.ki .i64 0)]
    (.ite (.cmp .lss (.v 5) (.v 1))
     (.cal 39 [(.p [(.s (.lst [(.int .u8)]))])] [(.rc (.cons (.v 3) .nil))] [(.c (.lst [(.int .u8)]))] 6
      (.ev [(.ob (.cmp .leq (.len (.app (.v 4) (.cons (.v 6) .nil))) (.ki .i64 4294967296)))]
       (.back 0 [(.v 7), (.app (.v 4) (.cons (.v 6) .nil)), (.ar .add .i64 (.v 5) (.ki .i64 1))])))
     (.cal 36 [(.c .bool), (.c (.int .i64))] [(.cmp .eql (.len (.v 3)) (.ki .i64 0)), (.ki .i64 5)] [] 6
      (.ret [(.v 4), (.ki .i64 0)])))))))
theorem takel_ent (ds : List D) (r : FR) (h : vctakel.den Try.prog [] (KD 66 (.lst []) r) [] (flatD [(.c (.lst [(.int .u8)]))] ds)) : Fun Try.prog [] 29 [(.c (.lst [(.int .u8)]))] ds [(.c (.lst [(.lst [(.int .u8)])])), (.c (.int .i64))] r := by
  exact fun_of_def hP Try.func29 rfl (g := 42) (a := 2) (b := 3) (t := 6) rfl rfl rfl rfl rfl rfl (sg := sgs) rfl rec_TakeList (az := (.nilS [.lst [.int .u8]])) (fun η M => ⟨none, rfl⟩) rfl rfl (by decide) (by decide) (by decide) (e0 := .nil) (fun ρ => rfl) (by kernel_rfl) (by decide) (by kernel_rfl) h
def vcex : VC := (.cal 13 [(.c (.lst [(.int .u8)]))] [(.cons (.ki .u8 128) (.cons (.ki .u8 1) .nil))] [(.c (.int .i64)), (.c (.int .i64))] 0
 (.cal 13 [(.c (.lst [(.int .u8)]))] [(.cons (.ki .u8 128) .nil)] [(.c (.int .i64)), (.c (.int .i64))] 2
  (.cal 13 [(.c (.lst [(.int .u8)]))] [(.cons (.ki .u8 128) (.cons (.ki .u8 0) .nil))] [(.c (.int .i64)), (.c (.int .i64))] 4
   (.cal 20 [(.c (.lst [(.int .i64), (.lst [(.int .u8)])]))] [(.cons (.rc (.cons (.ki .i64 1) (.cons (.cons (.ki .u8 97) (.cons (.ki .u8 98) .nil)) .nil))) (.cons (.rc (.cons (.ki .i64 3) (.cons .nil .nil))) .nil))] [(.c (.lst [(.int .u8)])), (.c (.int .i64))] 6
    (.cal 22 [(.c (.lst [(.int .u8)]))] [(.v 6)] [(.c (.lst [(.int .i64), (.lst [(.int .u8)])])), (.c (.int .i64))] 8
     (.cal 22 [(.c (.lst [(.int .u8)]))] [(.cons (.ki .u8 2) (.cons (.ki .u8 4) (.cons (.ki .u8 97) .nil)))] [(.c (.lst [(.int .i64), (.lst [(.int .u8)])])), (.c (.int .i64))] 10
      (.cal 22 [(.c (.lst [(.int .u8)]))] [(.cons (.ki .u8 6) (.cons (.ki .u8 0) (.cons (.ki .u8 2) (.cons (.ki .u8 0) .nil))))] [(.c (.lst [(.int .i64), (.lst [(.int .u8)])])), (.c (.int .i64))] 12
       (.cal 25 [(.c (.lst [(.int .i64), (.lst [(.int .u8)])])), (.c (.int .i64))] [(.cons (.rc (.cons (.ki .i64 1) (.cons (.cons (.ki .u8 97) (.cons (.ki .u8 98) .nil)) .nil))) (.cons (.rc (.cons (.ki .i64 3) (.cons .nil .nil))) .nil)), (.ki .i64 3)] [(.r [(.int .u8)]), (.c .bool)] 14
        (.cal 27 [(.c (.lst [(.lst [(.int .u8)])]))] [(.cons (.cons (.ki .u8 97) .nil) (.cons .nil .nil))] [(.c (.lst [(.int .u8)])), (.c (.int .i64))] 16
         (.cal 29 [(.c (.lst [(.int .u8)]))] [(.cons (.ki .u8 0) (.cons (.ki .u8 0) .nil))] [(.c (.lst [(.lst [(.int .u8)])])), (.c (.int .i64))] 18
          (.cal 12 [(.c (.int .i64))] [(.ki .i64 64)] [(.c (.lst [(.int .u8)]))] 20
           (.cal 14 [(.c (.lst [(.int .u8)])), (.c (.lst [(.int .u8)]))] [(.v 20), (.cons (.ki .u8 128) (.cons (.ki .u8 1) .nil))] [(.c .bool)] 21
            (.ite (.v 21)
             (.cal 12 [(.c (.int .i64))] [(.ki .i64 (-1))] [(.c (.lst [(.int .u8)]))] 22
              (.cal 14 [(.c (.lst [(.int .u8)])), (.c (.lst [(.int .u8)]))] [(.v 22), (.cons (.ki .u8 1) .nil)] [(.c .bool)] 23
               (.ite (.v 23)
                (.ite (.cmp .eql (.v 0) (.ki .i64 64))
                 (.ite (.cmp .eql (.v 1) (.ki .i64 0))
                  (.ite (.cmp .eql (.v 3) (.ki .i64 6))
                   (.ite (.cmp .eql (.v 5) (.ki .i64 5))
                    (.ite (.cmp .eql (.v 7) (.ki .i64 0))
                     (.cal 14 [(.c (.lst [(.int .u8)])), (.c (.lst [(.int .u8)]))] [(.v 6), (.cons (.ki .u8 2) (.cons (.ki .u8 4) (.cons (.ki .u8 97) (.cons (.ki .u8 98) (.cons (.ki .u8 6) (.cons (.ki .u8 0) .nil))))))] [(.c .bool)] 24
                      (.ite (.v 24)
                       (.ite (.cmp .eql (.v 9) (.ki .i64 0))
                        (.cal 24 [(.c (.lst [(.int .i64), (.lst [(.int .u8)])])), (.c (.lst [(.int .i64), (.lst [(.int .u8)])]))] [(.cons (.rc (.cons (.ki .i64 1) (.cons (.cons (.ki .u8 97) (.cons (.ki .u8 98) .nil)) .nil))) (.cons (.rc (.cons (.ki .i64 3) (.cons .nil .nil))) .nil)), (.v 8)] [(.c .bool)] 25
                         (.ite (.v 25)
                          (.ite (.cmp .eql (.v 11) (.ki .i64 6))
                           (.ite (.cmp .eql (.v 13) (.ki .i64 5))
                            (.ite (.cmp .eql (.len (.v 14)) (.ki .i64 0))
                             (.ite (.v 15)
                              (.cal 14 [(.c (.lst [(.int .u8)])), (.c (.lst [(.int .u8)]))] [(.v 16), (.cons (.ki .u8 4) (.cons (.ki .u8 2) (.cons (.ki .u8 97) (.cons (.ki .u8 0) .nil))))] [(.c .bool)] 26
                               (.ite (.v 26)
                                (.ret [(.cmp .eql (.v 19) (.ki .i64 5))])
                                (.ret [(.kb false)])))
                              (.ret [(.kb false)]))
                             (.ret [(.kb false)]))
                            (.ret [(.kb false)]))
                           (.ret [(.kb false)]))
                          (.ret [(.kb false)])))
                        (.ret [(.kb false)]))
                       (.ret [(.kb false)])))
                     (.ret [(.kb false)]))
                    (.ret [(.kb false)]))
                   (.ret [(.kb false)]))
                  (.ret [(.kb false)]))
                 (.ret [(.kb false)]))
                (.ret [(.kb false)]))))
             (.ret [(.kb false)]))))))))))))))
theorem ex_ent : EntOK Try.prog [] ⟨16, [], [(.c .bool)], vcex⟩ :=
  ent_of_gen hP Try.func16 rfl (by decide) (sg := sgs) (by kernel_rfl)
def vclint : VC := (.cal 12 [(.c (.int .i64))] [(.v 0)] [(.c (.lst [(.int .u8)]))] 1
 (.cal 13 [(.c (.lst [(.int .u8)]))] [(.v 1)] [(.c (.int .i64)), (.c (.int .i64))] 2
  (.cal 15 [(.c (.int .i64))] [(.v 0)] [(.r [(.int .u8)])] 4
   (.cal 14 [(.c (.lst [(.int .u8)])), (.c (.lst [(.int .u8)]))] [(.v 1), (.v 4)] [(.c .bool)] 5
    (.ite (.v 5)
     (.ite (.cmp .eql (.v 2) (.v 0))
      (.ite (.cmp .eql (.v 3) (.ki .i64 0))
       (.cal 16 [] [] [(.c .bool)] 6
        (.ret [(.v 6)]))
       (.ret [(.kb false)]))
      (.ret [(.kb false)]))
     (.ret [(.kb false)]))))))
theorem lint_ent : EntOK Try.prog [] ⟨3, [(.c (.int .i64))], [(.c .bool)], vclint⟩ :=
  ent_of_gen hP Try.func3 rfl (by decide) (sg := sgs) (by kernel_rfl)
def vcltakeint : VC := (.ite (.cmp .gtr (.len (.v 0)) (.ki .i64 65536))
 (.cal 16 [] [] [(.c .bool)] 1
  (.ret [(.v 1)]))
 (.cal 13 [(.c (.lst [(.int .u8)]))] [(.v 0)] [(.c (.int .i64)), (.c (.int .i64))] 1
  (.cal 17 [(.c (.lst [(.int .u8)]))] [(.v 0)] [(.c (.int .i64)), (.c (.int .i64))] 3
   (.ite (.cmp .eql (.v 1) (.v 3))
    (.ite (.cmp .eql (.v 2) (.v 4))
     (.cal 16 [] [] [(.c .bool)] 5
      (.ret [(.v 5)]))
     (.ret [(.kb false)]))
    (.ret [(.kb false)])))))
theorem ltakeint_ent : EntOK Try.prog [] ⟨4, [(.c (.lst [(.int .u8)]))], [(.c .bool)], vcltakeint⟩ :=
  ent_of_gen hP Try.func4 rfl (by decide) (sg := sgs) (by kernel_rfl)
def vclput : VC := (.cal 19 [(.c (.lst [(.int .i64), (.lst [(.int .u8)])]))] [(.v 0)] [(.c (.lst [(.lst [(.int .u8)])]))] 1
 (.cal 18 [(.c (.lst [(.lst [(.int .u8)])]))] [(.v 1)] [(.c .bool)] 2
  (.ite (.v 2)
   (.cal 16 [] [] [(.c .bool)] 3
    (.ret [(.v 3)]))
   (.cal 20 [(.c (.lst [(.int .i64), (.lst [(.int .u8)])]))] [(.v 0)] [(.c (.lst [(.int .u8)])), (.c (.int .i64))] 3
    (.cal 21 [(.c (.lst [(.int .i64), (.lst [(.int .u8)])]))] [(.v 0)] [(.c (.lst [(.int .u8)])), (.c (.int .i64))] 5
     (.cal 14 [(.c (.lst [(.int .u8)])), (.c (.lst [(.int .u8)]))] [(.v 3), (.v 5)] [(.c .bool)] 7
      (.ite (.v 7)
       (.ite (.cmp .eql (.v 4) (.v 6))
        (.cal 16 [] [] [(.c .bool)] 8
         (.ret [(.v 8)]))
        (.ret [(.kb false)]))
       (.ret [(.kb false)]))))))))
theorem lput_ent : EntOK Try.prog [] ⟨5, [(.c (.lst [(.int .i64), (.lst [(.int .u8)])]))], [(.c .bool)], vclput⟩ :=
  ent_of_gen hP Try.func5 rfl (by decide) (sg := sgs) (by kernel_rfl)
def vcltake : VC := (.ite (.cmp .gtr (.len (.v 0)) (.ki .i64 65536))
 (.cal 16 [] [] [(.c .bool)] 1
  (.ret [(.v 1)]))
 (.cal 22 [(.c (.lst [(.int .u8)]))] [(.v 0)] [(.c (.lst [(.int .i64), (.lst [(.int .u8)])])), (.c (.int .i64))] 1
  (.cal 23 [(.c (.lst [(.int .u8)]))] [(.v 0)] [(.c (.lst [(.int .i64), (.lst [(.int .u8)])])), (.c (.int .i64))] 3
   (.cal 24 [(.c (.lst [(.int .i64), (.lst [(.int .u8)])])), (.c (.lst [(.int .i64), (.lst [(.int .u8)])]))] [(.v 1), (.v 3)] [(.c .bool)] 5
    (.ite (.v 5)
     (.ite (.cmp .eql (.v 2) (.v 4))
      (.cal 16 [] [] [(.c .bool)] 6
       (.ret [(.v 6)]))
      (.ret [(.kb false)]))
     (.ret [(.kb false)]))))))
theorem ltake_ent : EntOK Try.prog [] ⟨6, [(.c (.lst [(.int .u8)]))], [(.c .bool)], vcltake⟩ :=
  ent_of_gen hP Try.func6 rfl (by decide) (sg := sgs) (by kernel_rfl)
def vclget : VC := (.cal 19 [(.c (.lst [(.int .i64), (.lst [(.int .u8)])]))] [(.v 0)] [(.c (.lst [(.lst [(.int .u8)])]))] 2
 (.cal 18 [(.c (.lst [(.lst [(.int .u8)])]))] [(.v 2)] [(.c .bool)] 3
  (.ite (.v 3)
   (.cal 16 [] [] [(.c .bool)] 4
    (.ret [(.v 4)]))
   (.cal 25 [(.c (.lst [(.int .i64), (.lst [(.int .u8)])])), (.c (.int .i64))] [(.v 0), (.v 1)] [(.r [(.int .u8)]), (.c .bool)] 4
    (.cal 26 [(.c (.lst [(.int .i64), (.lst [(.int .u8)])])), (.c (.int .i64))] [(.v 0), (.v 1)] [(.c (.lst [(.int .u8)])), (.c .bool)] 6
     (.ite (.beq (.v 5) (.v 7))
      (.cal 14 [(.c (.lst [(.int .u8)])), (.c (.lst [(.int .u8)]))] [(.v 4), (.v 6)] [(.c .bool)] 8
       (.ite (.v 8)
        (.loop [(.lst [(.int .u8)]), (.int .i64)] [(.v 4), (.ki .i64 0)]
         (.ite (.cmp .lss (.v 10) (.len (.v 4)))
          (.ev [(.ob (.cmp .geq (.v 10) (.ki .i64 0))), (.ob (.cmp .lss (.v 10) (.len (.v 9))))]
           (.ev [(.ob (.cmp .lss (.v 10) (.len (.v 9))))]
            (.ev [(.ob (.cmp .geq (.v 10) (.ki .i64 0))), (.ob (.cmp .lss (.v 10) (.len (.v 9))))]
             (.ev [(.ob (.cmp .lss (.v 10) (.len (.v 9))))]
              (.back 0 [(.set (.v 9) (.v 10) (.ar .add .u8 (.get (.v 9) (.v 10)) (.ki .u8 1))), (.ar .add .i64 (.v 10) (.ki .i64 1))])))))
          (.cal 25 [(.c (.lst [(.int .i64), (.lst [(.int .u8)])])), (.c (.int .i64))] [(.v 0), (.v 1)] [(.r [(.int .u8)]), (.c .bool)] 11
           (.cal 14 [(.c (.lst [(.int .u8)])), (.c (.lst [(.int .u8)]))] [(.v 11), (.v 6)] [(.c .bool)] 13
            (.ite (.v 13)
             (.ite (.cmp .eql (.len (.v 9)) (.ki .i64 0))
              (.cal 16 [] [] [(.c .bool)] 14
               (.ret [(.v 14)]))
              (.cal 14 [(.c (.lst [(.int .u8)])), (.c (.lst [(.int .u8)]))] [(.v 11), (.v 9)] [(.c .bool)] 14
               (.ite (.v 14)
                (.ret [(.kb false)])
                (.cal 16 [] [] [(.c .bool)] 15
                 (.ret [(.v 15)])))))
             (.ret [(.kb false)]))))))
        (.ret [(.kb false)])))
      (.ret [(.kb false)])))))))
theorem lget_ent : EntOK Try.prog [] ⟨7, [(.c (.lst [(.int .i64), (.lst [(.int .u8)])])), (.c (.int .i64))], [(.c .bool)], vclget⟩ :=
  ent_of_gen hP Try.func7 rfl (by decide) (sg := sgs) (by kernel_rfl)
def vcllist : VC := (.cal 18 [(.c (.lst [(.lst [(.int .u8)])]))] [(.v 0)] [(.c .bool)] 1
 (.ite (.v 1)
  (.cal 16 [] [] [(.c .bool)] 2
   (.ret [(.v 2)]))
  (.cal 27 [(.c (.lst [(.lst [(.int .u8)])]))] [(.v 0)] [(.c (.lst [(.int .u8)])), (.c (.int .i64))] 2
   (.cal 28 [(.c (.lst [(.lst [(.int .u8)])]))] [(.v 0)] [(.c (.lst [(.int .u8)])), (.c (.int .i64))] 4
    (.cal 14 [(.c (.lst [(.int .u8)])), (.c (.lst [(.int .u8)]))] [(.v 2), (.v 4)] [(.c .bool)] 6
     (.ite (.v 6)
      (.ite (.cmp .eql (.v 3) (.v 5))
       (.cal 16 [] [] [(.c .bool)] 7
        (.ret [(.v 7)]))
       (.ret [(.kb false)]))
      (.ret [(.kb false)])))))))
theorem llist_ent : EntOK Try.prog [] ⟨8, [(.c (.lst [(.lst [(.int .u8)])]))], [(.c .bool)], vcllist⟩ :=
  ent_of_gen hP Try.func8 rfl (by decide) (sg := sgs) (by kernel_rfl)
def vcltakel : VC := (.ite (.cmp .gtr (.len (.v 0)) (.ki .i64 65536))
 (.cal 16 [] [] [(.c .bool)] 1
  (.ret [(.v 1)]))
 (.cal 29 [(.c (.lst [(.int .u8)]))] [(.v 0)] [(.c (.lst [(.lst [(.int .u8)])])), (.c (.int .i64))] 1
  (.cal 30 [(.c (.lst [(.int .u8)]))] [(.v 0)] [(.c (.lst [(.lst [(.int .u8)])])), (.c (.int .i64))] 3
   (.cal 31 [(.c (.lst [(.lst [(.int .u8)])])), (.c (.lst [(.lst [(.int .u8)])]))] [(.v 1), (.v 3)] [(.c .bool)] 5
    (.ite (.v 5)
     (.ite (.cmp .eql (.v 2) (.v 4))
      (.cal 16 [] [] [(.c .bool)] 6
       (.ret [(.v 6)]))
      (.ret [(.kb false)]))
     (.ret [(.kb false)]))))))
theorem ltakel_ent : EntOK Try.prog [] ⟨9, [(.c (.lst [(.int .u8)]))], [(.c .bool)], vcltakel⟩ :=
  ent_of_gen hP Try.func9 rfl (by decide) (sg := sgs) (by kernel_rfl)
def vclback : VC := (.cal 19 [(.c (.lst [(.int .i64), (.lst [(.int .u8)])]))] [(.v 0)] [(.c (.lst [(.lst [(.int .u8)])]))] 2 (.cal 18 [(.c (.lst [(.lst [(.int .u8)])]))] [(.v 2)] [(.c .bool)] 3 (.ite (.v 3) (.cal 16 [] [] [(.c .bool)] 4 (.ret [(.v 4)])) (.cal 18 [(.c (.lst [(.lst [(.int .u8)])]))] [(.v 1)] [(.c .bool)] 4 (.ite (.v 4) (.cal 16 [] [] [(.c .bool)] 5 (.ret [(.v 5)])) (.cal 20 [(.c (.lst [(.int .i64), (.lst [(.int .u8)])]))] [(.v 0)] [(.c (.lst [(.int .u8)])), (.c (.int .i64))] 5 (.ite (.cmp .eql (.v 6) (.ki .i64 0)) (.cal 22 [(.c (.lst [(.int .u8)]))] [(.v 5)] [(.c (.lst [(.int .i64), (.lst [(.int .u8)])])), (.c (.int .i64))] 7 (.ite (.cmp .neq (.v 8) (.ki .i64 0)) (.ret [(.kb false)]) (.cal 24 [(.c (.lst [(.int .i64), (.lst [(.int .u8)])])), (.c (.lst [(.int .i64), (.lst [(.int .u8)])]))] [(.v 7), (.v 0)] [(.c .bool)] 9 (.ite (.v 9) (.cal 27 [(.c (.lst [(.lst [(.int .u8)])]))] [(.v 1)] [(.c (.lst [(.int .u8)])), (.c (.int .i64))] 10 (.ite (.cmp .neq (.v 11) (.ki .i64 0)) (.ite (.cmp .eql (.v 11) (.ki .i64 3)) (.ret [(.cmp .gtr (.len (.v 1)) (.ki .i64 256))]) (.ret [(.kb false)])) (.cal 29 [(.c (.lst [(.int .u8)]))] [(.v 10)] [(.c (.lst [(.lst [(.int .u8)])])), (.c (.int .i64))] 12 (.ite (.cmp .eql (.v 13) (.ki .i64 0)) (.cal 31 [(.c (.lst [(.lst [(.int .u8)])])), (.c (.lst [(.lst [(.int .u8)])]))] [(.v 12), (.v 1)] [(.c .bool)] 14 (.ret [(.v 14)])) (.ret [(.kb false)]))))) (.ret [(.kb false)]))))) (.cal 27 [(.c (.lst [(.lst [(.int .u8)])]))] [(.v 1)] [(.c (.lst [(.int .u8)])), (.c (.int .i64))] 7 (.ite (.cmp .neq (.v 8) (.ki .i64 0)) (.ite (.cmp .eql (.v 8) (.ki .i64 3)) (.ret [(.cmp .gtr (.len (.v 1)) (.ki .i64 256))]) (.ret [(.kb false)])) (.cal 29 [(.c (.lst [(.int .u8)]))] [(.v 7)] [(.c (.lst [(.lst [(.int .u8)])])), (.c (.int .i64))] 9 (.ite (.cmp .eql (.v 10) (.ki .i64 0)) (.cal 31 [(.c (.lst [(.lst [(.int .u8)])])), (.c (.lst [(.lst [(.int .u8)])]))] [(.v 9), (.v 1)] [(.c .bool)] 11 (.ret [(.v 11)])) (.ret [(.kb false)]))))))))))))
theorem lback_ent : EntOK Try.prog [] ⟨10, [(.c (.lst [(.int .i64), (.lst [(.int .u8)])])), (.c (.lst [(.lst [(.int .u8)])]))], [(.c .bool)], vclback⟩ :=
  ent_of_gen hP Try.func10 rfl (by decide) (sg := sgs) (by kernel_rfl)
def vclonce : VC := (.ite (.cmp .gtr (.len (.v 0)) (.ki .i64 65536)) (.cal 16 [] [] [(.c .bool)] 1 (.ret [(.v 1)])) (.cal 13 [(.c (.lst [(.int .u8)]))] [(.v 0)] [(.c (.int .i64)), (.c (.int .i64))] 1 (.ite (.cmp .eql (.v 2) (.ki .i64 0)) (.cal 12 [(.c (.int .i64))] [(.v 1)] [(.c (.lst [(.int .u8)]))] 3 (.cal 14 [(.c (.lst [(.int .u8)])), (.c (.lst [(.int .u8)]))] [(.v 3), (.v 0)] [(.c .bool)] 4 (.ite (.v 4) (.cal 22 [(.c (.lst [(.int .u8)]))] [(.v 0)] [(.c (.lst [(.int .i64), (.lst [(.int .u8)])])), (.c (.int .i64))] 5 (.ite (.cmp .eql (.v 6) (.ki .i64 0)) (.cal 20 [(.c (.lst [(.int .i64), (.lst [(.int .u8)])]))] [(.v 5)] [(.c (.lst [(.int .u8)])), (.c (.int .i64))] 7 (.ite (.cmp .neq (.v 8) (.ki .i64 0)) (.ret [(.kb false)]) (.cal 14 [(.c (.lst [(.int .u8)])), (.c (.lst [(.int .u8)]))] [(.v 7), (.v 0)] [(.c .bool)] 9 (.ite (.v 9) (.cal 29 [(.c (.lst [(.int .u8)]))] [(.v 0)] [(.c (.lst [(.lst [(.int .u8)])])), (.c (.int .i64))] 10 (.ite (.cmp .eql (.v 11) (.ki .i64 0)) (.cal 27 [(.c (.lst [(.lst [(.int .u8)])]))] [(.v 10)] [(.c (.lst [(.int .u8)])), (.c (.int .i64))] 12 (.ite (.cmp .eql (.v 13) (.ki .i64 0)) (.cal 14 [(.c (.lst [(.int .u8)])), (.c (.lst [(.int .u8)]))] [(.v 12), (.v 0)] [(.c .bool)] 14 (.ret [(.v 14)])) (.ret [(.kb false)]))) (.ret [(.kb true)]))) (.ret [(.kb false)]))))) (.cal 29 [(.c (.lst [(.int .u8)]))] [(.v 0)] [(.c (.lst [(.lst [(.int .u8)])])), (.c (.int .i64))] 7 (.ite (.cmp .eql (.v 8) (.ki .i64 0)) (.cal 27 [(.c (.lst [(.lst [(.int .u8)])]))] [(.v 7)] [(.c (.lst [(.int .u8)])), (.c (.int .i64))] 9 (.ite (.cmp .eql (.v 10) (.ki .i64 0)) (.cal 14 [(.c (.lst [(.int .u8)])), (.c (.lst [(.int .u8)]))] [(.v 9), (.v 0)] [(.c .bool)] 11 (.ret [(.v 11)])) (.ret [(.kb false)]))) (.ret [(.kb true)]))))) (.ret [(.kb false)])))) (.cal 22 [(.c (.lst [(.int .u8)]))] [(.v 0)] [(.c (.lst [(.int .i64), (.lst [(.int .u8)])])), (.c (.int .i64))] 3 (.ite (.cmp .eql (.v 4) (.ki .i64 0)) (.cal 20 [(.c (.lst [(.int .i64), (.lst [(.int .u8)])]))] [(.v 3)] [(.c (.lst [(.int .u8)])), (.c (.int .i64))] 5 (.ite (.cmp .neq (.v 6) (.ki .i64 0)) (.ret [(.kb false)]) (.cal 14 [(.c (.lst [(.int .u8)])), (.c (.lst [(.int .u8)]))] [(.v 5), (.v 0)] [(.c .bool)] 7 (.ite (.v 7) (.cal 29 [(.c (.lst [(.int .u8)]))] [(.v 0)] [(.c (.lst [(.lst [(.int .u8)])])), (.c (.int .i64))] 8 (.ite (.cmp .eql (.v 9) (.ki .i64 0)) (.cal 27 [(.c (.lst [(.lst [(.int .u8)])]))] [(.v 8)] [(.c (.lst [(.int .u8)])), (.c (.int .i64))] 10 (.ite (.cmp .eql (.v 11) (.ki .i64 0)) (.cal 14 [(.c (.lst [(.int .u8)])), (.c (.lst [(.int .u8)]))] [(.v 10), (.v 0)] [(.c .bool)] 12 (.ret [(.v 12)])) (.ret [(.kb false)]))) (.ret [(.kb true)]))) (.ret [(.kb false)]))))) (.cal 29 [(.c (.lst [(.int .u8)]))] [(.v 0)] [(.c (.lst [(.lst [(.int .u8)])])), (.c (.int .i64))] 5 (.ite (.cmp .eql (.v 6) (.ki .i64 0)) (.cal 27 [(.c (.lst [(.lst [(.int .u8)])]))] [(.v 5)] [(.c (.lst [(.int .u8)])), (.c (.int .i64))] 7 (.ite (.cmp .eql (.v 8) (.ki .i64 0)) (.cal 14 [(.c (.lst [(.int .u8)])), (.c (.lst [(.int .u8)]))] [(.v 7), (.v 0)] [(.c .bool)] 9 (.ret [(.v 9)])) (.ret [(.kb false)]))) (.ret [(.kb true)]))))))))
theorem lonce_ent : EntOK Try.prog [] ⟨11, [(.c (.lst [(.int .u8)]))], [(.c .bool)], vclonce⟩ :=
  ent_of_gen hP Try.func11 rfl (by decide) (sg := sgs) (by kernel_rfl)
end Go.Proofs.Ytmdjbmpongggnaa
