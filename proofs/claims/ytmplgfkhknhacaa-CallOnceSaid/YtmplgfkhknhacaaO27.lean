/-
  CallOnce: its condition and plain facts.
-/
import Derived.Test.YtmplgfkhknhacaaC27x
set_option maxRecDepth 100000
set_option linter.unusedSimpArgs false
set_option linter.unusedVariables false
namespace Go.Proofs.Ytmplgfkhknhacaa
open Go.Proofs.Ytmplgfkhknhacaa.Sy Go.Proofs.Ytmplgfkhknhacaa.L7 Go.Proofs.Ytmplgfkhknhacaa.Id Go.Proofs.Ytmplgfkhknhacaa.R26 Go.Proofs.Ytmplgfkhknhacaa.V26 Go.Proofs.Ytmplgfkhknhacaa.N27 Go.Proofs.Ytmplgfkhknhacaa.C27 Go.RowKit Go.WideShapes Go.ChangeShapes Go.ChangeAt
theorem hPo : NoNum Try.prog := by unfold NoNum; kernel_rfl
def sgso : Nat → Option (List TS × List TS) := fun f => if Nat.beq f 29 then some ([.c (.lst [.bool]), .p [.s (.int .i64)]], [.c .bool]) else none
def vclost : VC := (.ite (.cmp .leq (.ar .add .i64 (.v 1) (.ki .i64 1)) (.len (.v 0)))
 (.ev [(.ob (.cmp .geq (.ar .sub .i64 (.ar .add .i64 (.v 1) (.ki .i64 1)) (.ki .i64 1)) (.ki .i64 0))), (.ob (.cmp .lss (.ar .sub .i64 (.ar .add .i64 (.v 1) (.ki .i64 1)) (.ki .i64 1)) (.len (.v 0))))]
  (.ret [(.get (.v 0) (.ar .sub .i64 (.ar .add .i64 (.v 1) (.ki .i64 1)) (.ki .i64 1))), (.rc (.cons (.ar .add .i64 (.v 1) (.ki .i64 1)) .nil))]))
 (.ret [(.kb false), (.rc (.cons (.ar .add .i64 (.v 1) (.ki .i64 1)) .nil))]))
theorem lost_ent : EntOK Try.prog [] ⟨29, [(.c (.lst [.bool])), (.p [(.s (.int .i64))])], [(.c .bool)], vclost⟩ :=
  ent_of_gen hPo Try.func29 rfl (by decide) (sg := sgso) (by kernel_rfl)
def vconce : VC := (.cal 15 [(.c (.int .i64)), (.c (.int .i64)), (.c (.int .i64))] [(.ar .add .i64 (.ki .i64 1) (.ar .rem .i64 (.conv .i64 (.v 0)) (.ki .i64 4))), (.ar .rem .i64 (.conv .i64 (.v 1)) (.ki .i64 4)), (.ki .i64 1)] [(.g [(.int .i64), (.int .i64), (.int .i64), (.lst shM), (.lst shM), (.int .i64), (.int .i64), (.lst shM)]), (.c (.int .i64))] 5
 (.cal 15 [(.c (.int .i64)), (.c (.int .i64)), (.c (.int .i64))] [(.ki .i64 3), (.ki .i64 2), (.ki .i64 1)] [(.g [(.int .i64), (.int .i64), (.int .i64), (.lst shM), (.lst shM), (.int .i64), (.int .i64), (.lst shM)]), (.c (.int .i64))] 14
  (.ite (.cmp .neq (.v 13) (.ki .i64 0))
   (.ret [(.kb false)])
   (.ite (.cmp .neq (.v 22) (.ki .i64 0))
    (.ret [(.kb false)])
    (.loop [(.int .i64), (.int .i64), (.int .i64), (.lst shM), (.lst shM), (.int .i64), (.int .i64), (.lst shM), .bool, (.int .i64)] [(.v 5), (.v 6), (.v 7), (.v 8), (.v 9), (.v 10), (.v 11), (.v 12), (.kb false), (.ki .i64 1)]
     (.ite (.cmp .leq (.v 32) (.ar .rem .i64 (.conv .i64 (.v 2)) (.ki .i64 7)))
      (.ev [(.call 28 [(.c (.int .i64))] [(.ki .i64 0)] [(.g shM)] 33), (.call 19 [(.g [(.int .i64), (.int .i64), (.int .i64), (.lst shM), (.lst shM), (.int .i64), (.int .i64), (.lst shM)]), (.g shM)] [(.rc (.cons (.v 23) (.cons (.v 24) (.cons (.v 25) (.cons (.v 26) (.cons (.v 27) (.cons (.v 28) (.cons (.v 29) (.cons (.v 30) .nil))))))))), (.rc (.cons (.v 33) (.cons (.v 34) (.cons (.v 35) (.cons (.v 36) (.cons (.v 37) (.cons (.v 38) (.cons (.v 39) (.cons (.v 40) (.cons (.v 41) (.cons (.v 42) (.cons (.v 43) (.cons (.v 44) (.cons (.v 45) (.cons (.v 46) (.cons (.v 47) (.cons (.v 48) (.cons (.v 49) (.cons (.v 50) (.cons (.v 51) (.cons (.v 52) (.cons (.v 53) (.cons (.v 54) (.cons (.v 55) (.cons (.v 56) (.cons (.v 57) .nil))))))))))))))))))))))))))] [(.g [(.int .i64), (.int .i64), (.int .i64), (.lst shM), (.lst shM), (.int .i64), (.int .i64), (.lst shM)]), (.c (.int .i64)), (.c (.int .i64))] 58)]
       (.ite (.cmp .neq (.v 67) (.ki .i64 0))
        (.ret [(.kb false)])
        (.ite (.cmp .neq (.v 66) (.v 32))
         (.ret [(.kb false)])
         (.back 0 [(.v 58), (.v 59), (.v 60), (.v 61), (.v 62), (.v 63), (.v 64), (.v 65), (.v 31), (.ar .add .i64 (.v 32) (.ki .i64 1))]))))
      (.ev [(.ob (.cmp .geq (.ar .add .i64 (.ar .rem .i64 (.conv .i64 (.v 2)) (.ki .i64 7)) (.ki .i64 1)) (.ki .i64 0))), (.ob (.cmp .leq (.ar .add .i64 (.ar .rem .i64 (.conv .i64 (.v 2)) (.ki .i64 7)) (.ki .i64 1)) (.ki .i64 4294967296)))]
       (.ev [(.ob (.cmp .geq (.ar .add .i64 (.ar .rem .i64 (.conv .i64 (.v 2)) (.ki .i64 7)) (.ki .i64 1)) (.ki .i64 0))), (.ob (.cmp .leq (.ar .add .i64 (.ar .rem .i64 (.conv .i64 (.v 2)) (.ki .i64 7)) (.ki .i64 1)) (.ki .i64 4294967296)))]
        (.loop [(.int .i64), (.int .i64), (.int .i64), (.lst shM), (.lst shM), (.int .i64), (.int .i64), (.lst shM), (.int .i64), (.int .i64), (.int .i64), (.lst shM), (.lst shM), (.int .i64), (.int .i64), (.lst shM), (.lst [(.int .i64)]), (.lst [.bool]), (.int .i64), (.lst shM), .bool, (.int .i64), (.int .i64), (.int .i64), (.int .i64)] [(.v 23), (.v 24), (.v 25), (.v 26), (.v 27), (.v 28), (.v 29), (.v 30), (.v 14), (.v 15), (.v 16), (.v 17), (.v 18), (.v 19), (.v 20), (.v 21), (.rep (.ar .add .i64 (.ar .rem .i64 (.conv .i64 (.v 2)) (.ki .i64 7)) (.ki .i64 1)) (.ki .i64 0)), (.rep (.ar .add .i64 (.ar .rem .i64 (.conv .i64 (.v 2)) (.ki .i64 7)) (.ki .i64 1)) (.kb false)), (.ki .i64 0), .nil, (.v 31), (.ki .i64 0), (.ki .i64 0), (.ki .i64 0), (.ki .i64 0)]
         (.ite (.cmp .lss (.v 57) (.ki .i64 200))
          (.ev [(.ob (.cmp .leq (.len (.app .nil (.v 52))) (.ki .i64 4294967296)))]
           (.cal 21 [(.g [(.int .i64), (.int .i64), (.int .i64), (.lst shM), (.lst shM), (.int .i64), (.int .i64), (.lst shM)]), (.c (.int .i64))] [(.rc (.cons (.v 33) (.cons (.v 34) (.cons (.v 35) (.cons (.v 36) (.cons (.v 37) (.cons (.v 38) (.cons (.v 39) (.cons (.v 40) .nil))))))))), (.v 57)] [(.g [(.int .i64), (.int .i64), (.int .i64), (.lst shM), (.lst shM), (.int .i64), (.int .i64), (.lst shM)]), (.c (.lst shM)), (.c (.lst shM))] 58
            (.loop [(.lst [.bool]), .bool, (.int .i64), (.int .i64)] [(.v 50), (.v 53), (.v 56), (.ki .i64 0)]
             (.ite (.cmp .lss (.v 71) (.len (.v 67)))
              (.ev [(.ob (.cmp .geq (.v 71) (.ki .i64 0))), (.ob (.cmp .lss (.v 71) (.len (.v 67))))]
               (.ite (.cmp .neq (.cell (.get (.v 67) (.v 71)) 1) (.ar .add .i64 (.v 70) (.ki .i64 1)))
                (.ret [(.kb false)])
                (.ev [(.ob (.cmp .geq (.ar .add .i64 (.v 70) (.ki .i64 1)) (.ki .i64 0))), (.ob (.cmp .lss (.ar .add .i64 (.v 70) (.ki .i64 1)) (.len (.v 68))))]
                 (.ev [(.ob (.cmp .lss (.ar .add .i64 (.v 70) (.ki .i64 1)) (.len (.v 68))))]
                  (.back 2 [(.set (.v 68) (.ar .add .i64 (.v 70) (.ki .i64 1)) (.kb true)), (.v 69), (.ar .add .i64 (.v 70) (.ki .i64 1)), (.ar .add .i64 (.v 71) (.ki .i64 1))])))))
              (.loop [(.int .i64), (.int .i64), (.int .i64), (.lst shM), (.lst shM), (.int .i64), (.int .i64), (.lst shM), (.lst [(.int .i64)]), (.int .i64), (.lst shM), (.lst shM), .bool, (.int .i64), (.int .i64), (.int .i64)] [(.v 41), (.v 42), (.v 43), (.v 44), (.v 45), (.v 46), (.v 47), (.v 48), (.v 49), (.v 51), (.app .nil (.v 52)), .nil, (.v 69), (.v 54), (.v 55), (.ki .i64 0)]
               (.ite (.cmp .lss (.v 87) (.len (.v 66)))
                (.cal 29 [(.c (.lst [.bool])), (.p [(.s (.int .i64))])] [(.v 3), (.rc (.cons (.v 81) .nil))] [(.c .bool)] 88
                 (.ite (.v 88)
                  (.back 3 [(.v 72), (.v 73), (.v 74), (.v 75), (.v 76), (.v 77), (.v 78), (.v 79), (.v 80), (.v 89), (.v 82), (.v 83), (.v 84), (.v 85), (.v 86), (.ar .add .i64 (.v 87) (.ki .i64 1))])
                  (.ev [(.ob (.cmp .geq (.v 87) (.ki .i64 0))), (.ob (.cmp .lss (.v 87) (.len (.v 66))))]
                   (.cal 24 [(.g [(.int .i64), (.int .i64), (.int .i64), (.lst shM), (.lst shM), (.int .i64), (.int .i64), (.lst shM)]), (.g shM)] [(.rc (.cons (.v 72) (.cons (.v 73) (.cons (.v 74) (.cons (.v 75) (.cons (.v 76) (.cons (.v 77) (.cons (.v 78) (.cons (.v 79) .nil))))))))), (cpM (.get (.v 66) (.v 87)))] [(.g [(.int .i64), (.int .i64), (.int .i64), (.lst shM), (.lst shM), (.int .i64), (.int .i64), (.lst shM)]), (.c (.lst shM)), (.c (.lst shM)), (.c (.lst shM))] 90
                    (.ite (.cmp .gtr (.len (.v 99)) (.ki .i64 0))
                     (.ev [(.ob (.cmp .lss (.ki .i64 0) (.len (.v 99))))]
                      (.ite (.cmp .leq (.cell (.get (.v 99) (.ki .i64 0)) 1) (.v 86))
                       (.ret [(.kb false)])
                       (.ite (.cmp .gtr (.cell (.get (.v 99) (.ki .i64 0)) 1) (.ar .rem .i64 (.conv .i64 (.v 2)) (.ki .i64 7)))
                        (.ret [(.kb false)])
                        (.ev [(.ob (.cmp .geq (.cell (.get (.v 99) (.ki .i64 0)) 1) (.ki .i64 0))), (.ob (.cmp .lss (.cell (.get (.v 99) (.ki .i64 0)) 1) (.len (.v 80))))]
                         (.ev [(.ob (.cmp .lss (.cell (.get (.v 99) (.ki .i64 0)) 1) (.len (.v 80))))]
                          (.ite (.cmp .neq (.get (.v 80) (.cell (.get (.v 99) (.ki .i64 0)) 1)) (.ki .i64 0))
                           (.ret [(.kb false)])
                           (.ev [(.ob (.cmp .geq (.cell (.get (.v 99) (.ki .i64 0)) 1) (.ki .i64 0))), (.ob (.cmp .lss (.cell (.get (.v 99) (.ki .i64 0)) 1) (.len (.v 80))))]
                            (.ev [(.ob (.cmp .lss (.cell (.get (.v 99) (.ki .i64 0)) 1) (.len (.v 80))))]
                             (.cal 26 [(.g [(.int .i64), (.int .i64), (.int .i64), (.lst shM), (.lst shM), (.int .i64), (.int .i64), (.lst shM)]), (.g shM)] [(.rc (.cons (.v 90) (.cons (.v 91) (.cons (.v 92) (.cons (.v 93) (.cons (.v 94) (.cons (.v 95) (.cons (.v 96) (.cons (.v 97) .nil))))))))), (.rc (.cons (.ki .i64 2) (.cons (.cell (.get (.v 99) (.ki .i64 0)) 1) (.cons (.ki .i64 2) (.cons (.ki .i64 0) (.cons (.ki .i64 0) (.cons (.ki .i64 0) (.cons (.v 57) (.cons (.ki .i64 0) (.cons (.ks ⟨List.toArray []⟩) (.cons (.ks ⟨List.toArray []⟩) (.cons (.ks ⟨List.toArray []⟩) (.cons (.kb false) (.cons .nil (.cons (.ki .i64 0) (.cons (.ki .i64 0) (.cons (.ki .i64 0) (.cons (.ki .i64 0) (.cons (.ki .i64 0) (.cons (.ks ⟨List.toArray []⟩) (.cons (.ki .i64 0) (.cons (.ki .i64 0) (.cons (.ki .i64 0) (.cons (.ki .i64 0) (.cons .nil (.cons .nil .nil))))))))))))))))))))))))))] [(.g [(.int .i64), (.int .i64), (.int .i64), (.lst shM), (.lst shM), (.int .i64), (.int .i64), (.lst shM)]), (.c (.int .i64))] 101
                              (.ite (.cmp .neq (.v 109) (.ki .i64 0))
                               (.ret [(.kb false)])
                               (.cal 29 [(.c (.lst [.bool])), (.p [(.s (.int .i64))])] [(.v 3), (.rc (.cons (.v 89) .nil))] [(.c .bool)] 110
                                (.ite (.v 110)
                                 (.back 3 [(.v 101), (.v 102), (.v 103), (.v 104), (.v 105), (.v 106), (.v 107), (.v 108), (.set (.v 80) (.cell (.get (.v 99) (.ki .i64 0)) 1) (.ar .add .i64 (.v 57) (.ki .i64 1))), (.v 111), (.v 82), (.v 83), (.v 84), (.v 85), (.cell (.get (.v 99) (.ki .i64 0)) 1), (.ar .add .i64 (.v 87) (.ki .i64 1))])
                                 (.ite (.cmp .leq (.ar .add .i64 (.v 85) (.ki .i64 1)) (.len (.v 4)))
                                  (.ev [(.ob (.cmp .geq (.ar .sub .i64 (.ar .add .i64 (.v 85) (.ki .i64 1)) (.ki .i64 1)) (.ki .i64 0))), (.ob (.cmp .lss (.ar .sub .i64 (.ar .add .i64 (.v 85) (.ki .i64 1)) (.ki .i64 1)) (.len (.v 4))))]
                                   (.ite (.get (.v 4) (.ar .sub .i64 (.ar .add .i64 (.v 85) (.ki .i64 1)) (.ki .i64 1)))
                                    (.ev [(.ob (.cmp .leq (.len (.app (.v 83) (.cons (.rc (.cons (.ki .i64 2) (.cons (.cell (.get (.v 99) (.ki .i64 0)) 1) (.cons (.ki .i64 2) (.cons (.ki .i64 0) (.cons (.ki .i64 0) (.cons (.ki .i64 0) (.cons (.v 57) (.cons (.ki .i64 0) (.cons (.ks ⟨List.toArray []⟩) (.cons (.ks ⟨List.toArray []⟩) (.cons (.ks ⟨List.toArray []⟩) (.cons (.kb false) (.cons .nil (.cons (.ki .i64 0) (.cons (.ki .i64 0) (.cons (.ki .i64 0) (.cons (.ki .i64 0) (.cons (.ki .i64 0) (.cons (.ks ⟨List.toArray []⟩) (.cons (.ki .i64 0) (.cons (.ki .i64 0) (.cons (.ki .i64 0) (.cons (.ki .i64 0) (.cons .nil (.cons .nil .nil)))))))))))))))))))))))))) .nil))) (.ki .i64 4294967296)))]
                                     (.back 3 [(.v 101), (.v 102), (.v 103), (.v 104), (.v 105), (.v 106), (.v 107), (.v 108), (.set (.v 80) (.cell (.get (.v 99) (.ki .i64 0)) 1) (.ar .add .i64 (.v 57) (.ki .i64 1))), (.v 111), (.v 82), (.app (.v 83) (.cons (.rc (.cons (.ki .i64 2) (.cons (.cell (.get (.v 99) (.ki .i64 0)) 1) (.cons (.ki .i64 2) (.cons (.ki .i64 0) (.cons (.ki .i64 0) (.cons (.ki .i64 0) (.cons (.v 57) (.cons (.ki .i64 0) (.cons (.ks ⟨List.toArray []⟩) (.cons (.ks ⟨List.toArray []⟩) (.cons (.ks ⟨List.toArray []⟩) (.cons (.kb false) (.cons .nil (.cons (.ki .i64 0) (.cons (.ki .i64 0) (.cons (.ki .i64 0) (.cons (.ki .i64 0) (.cons (.ki .i64 0) (.cons (.ks ⟨List.toArray []⟩) (.cons (.ki .i64 0) (.cons (.ki .i64 0) (.cons (.ki .i64 0) (.cons (.ki .i64 0) (.cons .nil (.cons .nil .nil)))))))))))))))))))))))))) .nil)), (.v 84), (.ar .add .i64 (.v 85) (.ki .i64 1)), (.cell (.get (.v 99) (.ki .i64 0)) 1), (.ar .add .i64 (.v 87) (.ki .i64 1))]))
                                    (.ev [(.ob (.cmp .leq (.len (.app (.v 82) (.cons (.rc (.cons (.ki .i64 2) (.cons (.cell (.get (.v 99) (.ki .i64 0)) 1) (.cons (.ki .i64 2) (.cons (.ki .i64 0) (.cons (.ki .i64 0) (.cons (.ki .i64 0) (.cons (.v 57) (.cons (.ki .i64 0) (.cons (.ks ⟨List.toArray []⟩) (.cons (.ks ⟨List.toArray []⟩) (.cons (.ks ⟨List.toArray []⟩) (.cons (.kb false) (.cons .nil (.cons (.ki .i64 0) (.cons (.ki .i64 0) (.cons (.ki .i64 0) (.cons (.ki .i64 0) (.cons (.ki .i64 0) (.cons (.ks ⟨List.toArray []⟩) (.cons (.ki .i64 0) (.cons (.ki .i64 0) (.cons (.ki .i64 0) (.cons (.ki .i64 0) (.cons .nil (.cons .nil .nil)))))))))))))))))))))))))) .nil))) (.ki .i64 4294967296)))]
                                     (.back 3 [(.v 101), (.v 102), (.v 103), (.v 104), (.v 105), (.v 106), (.v 107), (.v 108), (.set (.v 80) (.cell (.get (.v 99) (.ki .i64 0)) 1) (.ar .add .i64 (.v 57) (.ki .i64 1))), (.v 111), (.app (.v 82) (.cons (.rc (.cons (.ki .i64 2) (.cons (.cell (.get (.v 99) (.ki .i64 0)) 1) (.cons (.ki .i64 2) (.cons (.ki .i64 0) (.cons (.ki .i64 0) (.cons (.ki .i64 0) (.cons (.v 57) (.cons (.ki .i64 0) (.cons (.ks ⟨List.toArray []⟩) (.cons (.ks ⟨List.toArray []⟩) (.cons (.ks ⟨List.toArray []⟩) (.cons (.kb false) (.cons .nil (.cons (.ki .i64 0) (.cons (.ki .i64 0) (.cons (.ki .i64 0) (.cons (.ki .i64 0) (.cons (.ki .i64 0) (.cons (.ks ⟨List.toArray []⟩) (.cons (.ki .i64 0) (.cons (.ki .i64 0) (.cons (.ki .i64 0) (.cons (.ki .i64 0) (.cons .nil (.cons .nil .nil)))))))))))))))))))))))))) .nil)), (.v 83), (.v 84), (.ar .add .i64 (.v 85) (.ki .i64 1)), (.cell (.get (.v 99) (.ki .i64 0)) 1), (.ar .add .i64 (.v 87) (.ki .i64 1))]))))
                                  (.ev [(.ob (.cmp .leq (.len (.app (.v 82) (.cons (.rc (.cons (.ki .i64 2) (.cons (.cell (.get (.v 99) (.ki .i64 0)) 1) (.cons (.ki .i64 2) (.cons (.ki .i64 0) (.cons (.ki .i64 0) (.cons (.ki .i64 0) (.cons (.v 57) (.cons (.ki .i64 0) (.cons (.ks ⟨List.toArray []⟩) (.cons (.ks ⟨List.toArray []⟩) (.cons (.ks ⟨List.toArray []⟩) (.cons (.kb false) (.cons .nil (.cons (.ki .i64 0) (.cons (.ki .i64 0) (.cons (.ki .i64 0) (.cons (.ki .i64 0) (.cons (.ki .i64 0) (.cons (.ks ⟨List.toArray []⟩) (.cons (.ki .i64 0) (.cons (.ki .i64 0) (.cons (.ki .i64 0) (.cons (.ki .i64 0) (.cons .nil (.cons .nil .nil)))))))))))))))))))))))))) .nil))) (.ki .i64 4294967296)))]
                                   (.back 3 [(.v 101), (.v 102), (.v 103), (.v 104), (.v 105), (.v 106), (.v 107), (.v 108), (.set (.v 80) (.cell (.get (.v 99) (.ki .i64 0)) 1) (.ar .add .i64 (.v 57) (.ki .i64 1))), (.v 111), (.app (.v 82) (.cons (.rc (.cons (.ki .i64 2) (.cons (.cell (.get (.v 99) (.ki .i64 0)) 1) (.cons (.ki .i64 2) (.cons (.ki .i64 0) (.cons (.ki .i64 0) (.cons (.ki .i64 0) (.cons (.v 57) (.cons (.ki .i64 0) (.cons (.ks ⟨List.toArray []⟩) (.cons (.ks ⟨List.toArray []⟩) (.cons (.ks ⟨List.toArray []⟩) (.cons (.kb false) (.cons .nil (.cons (.ki .i64 0) (.cons (.ki .i64 0) (.cons (.ki .i64 0) (.cons (.ki .i64 0) (.cons (.ki .i64 0) (.cons (.ks ⟨List.toArray []⟩) (.cons (.ki .i64 0) (.cons (.ki .i64 0) (.cons (.ki .i64 0) (.cons (.ki .i64 0) (.cons .nil (.cons .nil .nil)))))))))))))))))))))))))) .nil)), (.v 83), (.v 84), (.ar .add .i64 (.v 85) (.ki .i64 1)), (.cell (.get (.v 99) (.ki .i64 0)) 1), (.ar .add .i64 (.v 87) (.ki .i64 1))])))))))))))))))
                     (.cal 29 [(.c (.lst [.bool])), (.p [(.s (.int .i64))])] [(.v 3), (.rc (.cons (.v 89) .nil))] [(.c .bool)] 101
                      (.ite (.v 101)
                       (.back 3 [(.v 90), (.v 91), (.v 92), (.v 93), (.v 94), (.v 95), (.v 96), (.v 97), (.v 80), (.v 102), (.v 82), (.v 83), (.v 84), (.v 85), (.v 86), (.ar .add .i64 (.v 87) (.ki .i64 1))])
                       (.ite (.cmp .leq (.ar .add .i64 (.v 85) (.ki .i64 1)) (.len (.v 4)))
                        (.ev [(.ob (.cmp .geq (.ar .sub .i64 (.ar .add .i64 (.v 85) (.ki .i64 1)) (.ki .i64 1)) (.ki .i64 0))), (.ob (.cmp .lss (.ar .sub .i64 (.ar .add .i64 (.v 85) (.ki .i64 1)) (.ki .i64 1)) (.len (.v 4))))]
                         (.ite (.get (.v 4) (.ar .sub .i64 (.ar .add .i64 (.v 85) (.ki .i64 1)) (.ki .i64 1)))
                          (.ev [(.ob (.cmp .leq (.len (.app (.v 83) (.v 100))) (.ki .i64 4294967296)))]
                           (.back 3 [(.v 90), (.v 91), (.v 92), (.v 93), (.v 94), (.v 95), (.v 96), (.v 97), (.v 80), (.v 102), (.v 82), (.app (.v 83) (.v 100)), (.v 84), (.ar .add .i64 (.v 85) (.ki .i64 1)), (.v 86), (.ar .add .i64 (.v 87) (.ki .i64 1))]))
                          (.ev [(.ob (.cmp .leq (.len (.app (.v 82) (.v 100))) (.ki .i64 4294967296)))]
                           (.back 3 [(.v 90), (.v 91), (.v 92), (.v 93), (.v 94), (.v 95), (.v 96), (.v 97), (.v 80), (.v 102), (.app (.v 82) (.v 100)), (.v 83), (.v 84), (.ar .add .i64 (.v 85) (.ki .i64 1)), (.v 86), (.ar .add .i64 (.v 87) (.ki .i64 1))]))))
                        (.ev [(.ob (.cmp .leq (.len (.app (.v 82) (.v 100))) (.ki .i64 4294967296)))]
                         (.back 3 [(.v 90), (.v 91), (.v 92), (.v 93), (.v 94), (.v 95), (.v 96), (.v 97), (.v 80), (.v 102), (.app (.v 82) (.v 100)), (.v 83), (.v 84), (.ar .add .i64 (.v 85) (.ki .i64 1)), (.v 86), (.ar .add .i64 (.v 87) (.ki .i64 1))]))))))))))
                (.loop [(.int .i64), (.int .i64), (.int .i64), (.lst shM), (.lst shM), (.int .i64), (.int .i64), (.lst shM), (.lst [.bool]), .bool, (.int .i64), (.int .i64)] [(.v 58), (.v 59), (.v 60), (.v 61), (.v 62), (.v 63), (.v 64), (.v 65), (.v 68), (.v 84), (.v 70), (.ki .i64 0)]
                 (.ite (.cmp .lss (.v 99) (.len (.v 82)))
                  (.ev [(.ob (.cmp .geq (.v 99) (.ki .i64 0))), (.ob (.cmp .lss (.v 99) (.len (.v 82)))), (.ob (.cmp .lss (.v 99) (.len (.v 82))))]
                   (.cal 24 [(.g [(.int .i64), (.int .i64), (.int .i64), (.lst shM), (.lst shM), (.int .i64), (.int .i64), (.lst shM)]), (.g shM)] [(.rc (.cons (.v 88) (.cons (.v 89) (.cons (.v 90) (.cons (.v 91) (.cons (.v 92) (.cons (.v 93) (.cons (.v 94) (.cons (.v 95) .nil))))))))), (cpM (.get (.v 82) (.v 99)))] [(.g [(.int .i64), (.int .i64), (.int .i64), (.lst shM), (.lst shM), (.int .i64), (.int .i64), (.lst shM)]), (.c (.lst shM)), (.c (.lst shM)), (.c (.lst shM))] 100
                    (.ite (.cmp .eql (.len (.v 108)) (.ki .i64 0))
                     (.back 4 [(.v 100), (.v 101), (.v 102), (.v 103), (.v 104), (.v 105), (.v 106), (.v 107), (.v 96), (.v 97), (.v 98), (.ar .add .i64 (.v 99) (.ki .i64 1))])
                     (.ite (.cmp .neq (.len (.v 108)) (.ki .i64 2))
                      (.ret [(.kb false)])
                      (.ev [(.ob (.cmp .lss (.ki .i64 0) (.len (.v 108))))]
                       (.ite (.cmp .neq (.cell (.get (.v 108) (.ki .i64 0)) 1) (.ar .add .i64 (.v 98) (.ki .i64 1)))
                        (.ret [(.kb false)])
                        (.ev [(.ob (.cmp .lss (.ki .i64 1) (.len (.v 108)))), (.ob (.cmp .lss (.ki .i64 0) (.len (.v 108))))]
                         (.ite (.cmp .neq (.cell (.get (.v 108) (.ki .i64 1)) 1) (.cell (.get (.v 108) (.ki .i64 0)) 1))
                          (.ret [(.kb false)])
                          (.ev [(.ob (.cmp .geq (.ar .add .i64 (.v 98) (.ki .i64 1)) (.ki .i64 0))), (.ob (.cmp .lss (.ar .add .i64 (.v 98) (.ki .i64 1)) (.len (.v 80)))), (.ob (.cmp .lss (.ar .add .i64 (.v 98) (.ki .i64 1)) (.len (.v 80))))]
                           (.ite (.cmp .eql (.get (.v 80) (.ar .add .i64 (.v 98) (.ki .i64 1))) (.ki .i64 0))
                            (.ret [(.kb false)])
                            (.ev [(.ob (.cmp .lss (.ki .i64 1) (.len (.v 108)))), (.ob (.cmp .geq (.ar .add .i64 (.v 98) (.ki .i64 1)) (.ki .i64 0))), (.ob (.cmp .lss (.ar .add .i64 (.v 98) (.ki .i64 1)) (.len (.v 80)))), (.ob (.cmp .lss (.ar .add .i64 (.v 98) (.ki .i64 1)) (.len (.v 80))))]
                             (.ite (.cmp .neq (.cell (.get (.v 108) (.ki .i64 1)) 6) (.ar .sub .i64 (.get (.v 80) (.ar .add .i64 (.v 98) (.ki .i64 1))) (.ki .i64 1)))
                              (.ret [(.kb false)])
                              (.ev [(.ob (.cmp .geq (.ar .add .i64 (.v 98) (.ki .i64 1)) (.ki .i64 0))), (.ob (.cmp .lss (.ar .add .i64 (.v 98) (.ki .i64 1)) (.len (.v 96))))]
                               (.ev [(.ob (.cmp .lss (.ar .add .i64 (.v 98) (.ki .i64 1)) (.len (.v 96))))]
                                (.back 4 [(.v 100), (.v 101), (.v 102), (.v 103), (.v 104), (.v 105), (.v 106), (.v 107), (.set (.v 96) (.ar .add .i64 (.v 98) (.ki .i64 1)) (.kb true)), (.v 97), (.ar .add .i64 (.v 98) (.ki .i64 1)), (.ar .add .i64 (.v 99) (.ki .i64 1))])))))))))))))))
                  (.back 1 [(.v 88), (.v 89), (.v 90), (.v 91), (.v 92), (.v 93), (.v 94), (.v 95), (.v 72), (.v 73), (.v 74), (.v 75), (.v 76), (.v 77), (.v 78), (.v 79), (.v 80), (.v 96), (.v 81), (.v 83), (.v 97), (.v 85), (.v 86), (.v 98), (.ar .add .i64 (.v 57) (.ki .i64 1))])))))))))
          (.loop [.bool, (.int .i64)] [(.v 53), (.ki .i64 1)]
           (.ite (.cmp .leq (.v 59) (.ar .rem .i64 (.conv .i64 (.v 2)) (.ki .i64 7)))
            (.ev [(.ob (.cmp .geq (.v 59) (.ki .i64 0))), (.ob (.cmp .lss (.v 59) (.len (.v 50))))]
             (.ev [(.ob (.cmp .lss (.v 59) (.len (.v 50))))]
              (.ite (.get (.v 50) (.v 59))
               (.back 2 [(.v 58), (.ar .add .i64 (.v 59) (.ki .i64 1))])
               (.ret [(.kb false)]))))
            (.cal 12 [] [] [(.c .bool)] 60
             (.ret [(.v 60)]))))))))))))))
def hdonce : List HdL := [{ kind := true, id := 7, nv := 23, tmps := [(.v (.g [(.d (.int .u8) (.v 0)), (.d (.int .u8) (.v 1)), (.d (.int .u8) (.v 2)), (.d (.lst [.bool]) (.v 3)), (.d (.lst [.bool]) (.v 4))])), (.v (.c (.ptr 0 0))), (.v (.c (.d .bool (.v 31)))), (.v (.c (.d (.int .i64) (.ar .rem .i64 (.conv .i64 (.v 2)) (.ki .i64 7))))), (.v (.c (.ptr 1 0))), (.v (.c (.d (.int .i64) (.v 13)))), (.v (.c (.ptr 2 0))), (.v (.c (.d (.int .i64) (.v 22)))), (.v (.c (.d (.int .i64) (.v 32)))) ] ++ an 31 ++ [(.v (.c (.ptr 0 2))), (.v (.c (.d (.int .u8) (.v 2)))), (.v (.c (.d (.int .i64) (.conv .i64 (.v 2))))), (.v (.c (.d (.int .i64) (.ar .rem .i64 (.conv .i64 (.v 2)) (.ki .i64 7))))), (.v (.c .any)), (.v (.c (.ptr 0 0))), (.v (.c (.d (.int .u8) (.v 0)))), (.v (.c (.d (.int .i64) (.conv .i64 (.v 0))))), (.v (.c (.d (.int .i64) (.ar .rem .i64 (.conv .i64 (.v 0)) (.ki .i64 4))))), (.v (.c (.d (.int .i64) (.ar .add .i64 (.ki .i64 1) (.ar .rem .i64 (.conv .i64 (.v 0)) (.ki .i64 4)))))), (.v (.c (.ptr 0 1))), (.v (.c (.d (.int .u8) (.v 1)))), (.v (.c (.d (.int .i64) (.conv .i64 (.v 1))))), (.v (.c (.d (.int .i64) (.ar .rem .i64 (.conv .i64 (.v 1)) (.ki .i64 4))))), (.v (.c .any)), (.v (.g [(.d (.int .i64) (.v 5)), (.d (.int .i64) (.v 6)), (.d (.int .i64) (.v 7)), (.d (.lst shM) (.v 8)), (.d (.lst shM) (.v 9)), (.d (.int .i64) (.v 10)), (.d (.int .i64) (.v 11)), (.d (.lst shM) (.v 12))])), (.v (.c (.d (.int .i64) (.v 13)))), (.v (.c .any)), (.v (.c .any)), (.v (.g [(.d (.int .i64) (.v 14)), (.d (.int .i64) (.v 15)), (.d (.int .i64) (.v 16)), (.d (.lst shM) (.v 17)), (.d (.lst shM) (.v 18)), (.d (.int .i64) (.v 19)), (.d (.int .i64) (.v 20)), (.d (.lst shM) (.v 21))])), (.v (.c (.d (.int .i64) (.v 22)))), (.v (.c (.d (.int .i64) (.v 13)))), (.v (.c (.d .bool (.cmp .neq (.v 13) (.ki .i64 0))))), (.v (.c (.d .bool (.cmp .neq (.v 13) (.ki .i64 0))))), (.v (.c (.d (.int .i64) (.v 22)))), (.v (.c (.d .bool (.cmp .neq (.v 22) (.ki .i64 0))))), (.v (.c (.d .bool (.cmp .neq (.v 22) (.ki .i64 0))))) ] ++ an 228, blks := [(.cells [(.d (.int .u8) (.v 0)), (.d (.int .u8) (.v 1)), (.d (.int .u8) (.v 2)), (.d (.lst [.bool]) (.v 3)), (.d (.lst [.bool]) (.v 4))]), (.cells [(.d (.int .i64) (.v 23)), (.d (.int .i64) (.v 24)), (.d (.int .i64) (.v 25)), (.d (.lst shM) (.v 26)), (.d (.lst shM) (.v 27)), (.d (.int .i64) (.v 28)), (.d (.int .i64) (.v 29)), (.d (.lst shM) (.v 30))]), (.cells [(.d (.int .i64) (.v 14)), (.d (.int .i64) (.v 15)), (.d (.int .i64) (.v 16)), (.d (.lst shM) (.v 17)), (.d (.lst shM) (.v 18)), (.d (.int .i64) (.v 19)), (.d (.int .i64) (.v 20)), (.d (.lst shM) (.v 21))])], shs := [(.int .i64), (.int .i64), (.int .i64), (.lst shM), (.lst shM), (.int .i64), (.int .i64), (.lst shM), .bool, (.int .i64)], rs := [], bs := [], fz := [] },
{ kind := true, id := 18, nv := 33, tmps := [(.v (.g [(.d (.int .u8) (.v 0)), (.d (.int .u8) (.v 1)), (.d (.int .u8) (.v 2)), (.d (.lst [.bool]) (.v 3)), (.d (.lst [.bool]) (.v 4))])), (.v (.c (.ptr 0 0))), (.v (.c (.d .bool (.v 53)))), (.v (.c (.d (.int .i64) (.ar .rem .i64 (.conv .i64 (.v 2)) (.ki .i64 7))))), (.v (.c (.ptr 1 0))), (.v (.c (.d (.int .i64) (.v 13)))), (.v (.c (.ptr 2 0))), (.v (.c (.d (.int .i64) (.v 22)))), (.v (.c (.d (.int .i64) (.v 32)))), (.v (.c .any)), (.v (.c .any)), (.v (.c .any)), (.v (.c (.row 3 [(.int .i64)] (.len (.v 49))))), (.v (.c (.row 4 [.bool] (.len (.v 50))))), (.v (.c (.row 6 shM (.len (.v 52))))), (.v (.c (.ptr 5 0))), (.v (.c (.d (.int .i64) (.v 54)))), (.v (.c (.d (.int .i64) (.v 55)))), (.v (.c (.d (.int .i64) (.v 56)))), (.v (.c (.d (.int .i64) (.v 57)))) ] ++ an 20 ++ [(.v (.c (.ptr 0 2))), (.v (.c (.d (.int .u8) (.v 2)))), (.v (.c (.d (.int .i64) (.conv .i64 (.v 2))))), (.v (.c (.d (.int .i64) (.ar .rem .i64 (.conv .i64 (.v 2)) (.ki .i64 7))))), (.v (.c .any)), (.v (.c (.ptr 0 0))), (.v (.c (.d (.int .u8) (.v 0)))), (.v (.c (.d (.int .i64) (.conv .i64 (.v 0))))), (.v (.c (.d (.int .i64) (.ar .rem .i64 (.conv .i64 (.v 0)) (.ki .i64 4))))), (.v (.c (.d (.int .i64) (.ar .add .i64 (.ki .i64 1) (.ar .rem .i64 (.conv .i64 (.v 0)) (.ki .i64 4)))))), (.v (.c (.ptr 0 1))), (.v (.c (.d (.int .u8) (.v 1)))), (.v (.c (.d (.int .i64) (.conv .i64 (.v 1))))), (.v (.c (.d (.int .i64) (.ar .rem .i64 (.conv .i64 (.v 1)) (.ki .i64 4))))), (.v (.c .any)), (.v (.g [(.d (.int .i64) (.v 5)), (.d (.int .i64) (.v 6)), (.d (.int .i64) (.v 7)), (.d (.lst shM) (.v 8)), (.d (.lst shM) (.v 9)), (.d (.int .i64) (.v 10)), (.d (.int .i64) (.v 11)), (.d (.lst shM) (.v 12))])), (.v (.c (.d (.int .i64) (.v 13)))), (.v (.c .any)), (.v (.c .any)), (.v (.g [(.d (.int .i64) (.v 14)), (.d (.int .i64) (.v 15)), (.d (.int .i64) (.v 16)), (.d (.lst shM) (.v 17)), (.d (.lst shM) (.v 18)), (.d (.int .i64) (.v 19)), (.d (.int .i64) (.v 20)), (.d (.lst shM) (.v 21))])), (.v (.c (.d (.int .i64) (.v 22)))), (.v (.c (.d (.int .i64) (.v 13)))), (.v (.c (.d .bool (.cmp .neq (.v 13) (.ki .i64 0))))), (.v (.c (.d .bool (.cmp .neq (.v 13) (.ki .i64 0))))), (.v (.c (.d (.int .i64) (.v 22)))), (.v (.c (.d .bool (.cmp .neq (.v 22) (.ki .i64 0))))), (.v (.c (.d .bool (.cmp .neq (.v 22) (.ki .i64 0))))), (.v (.c (.d (.int .i64) (.v 32)))), (.v (.c (.d (.int .i64) (.ar .rem .i64 (.conv .i64 (.v 2)) (.ki .i64 7))))), (.v (.c (.d .bool (.cmp .leq (.v 32) (.ar .rem .i64 (.conv .i64 (.v 2)) (.ki .i64 7)))))) ] ++ an 17 ++ [(.v (.c (.d (.int .i64) (.ar .rem .i64 (.conv .i64 (.v 2)) (.ki .i64 7))))), (.v (.c (.d (.int .i64) (.ar .add .i64 (.ar .rem .i64 (.conv .i64 (.v 2)) (.ki .i64 7)) (.ki .i64 1))))), (.v (.c (.row 3 [(.int .i64)] (.len (.v 49))))), (.v (.c (.d (.int .i64) (.ar .rem .i64 (.conv .i64 (.v 2)) (.ki .i64 7))))), (.v (.c (.d (.int .i64) (.ar .add .i64 (.ar .rem .i64 (.conv .i64 (.v 2)) (.ki .i64 7)) (.ki .i64 1))))), (.v (.c (.row 4 [.bool] (.len (.v 50))))) ] ++ an 202, blks := [(.cells [(.d (.int .u8) (.v 0)), (.d (.int .u8) (.v 1)), (.d (.int .u8) (.v 2)), (.d (.lst [.bool]) (.v 3)), (.d (.lst [.bool]) (.v 4))]), (.cells [(.d (.int .i64) (.v 33)), (.d (.int .i64) (.v 34)), (.d (.int .i64) (.v 35)), (.d (.lst shM) (.v 36)), (.d (.lst shM) (.v 37)), (.d (.int .i64) (.v 38)), (.d (.int .i64) (.v 39)), (.d (.lst shM) (.v 40))]), (.cells [(.d (.int .i64) (.v 41)), (.d (.int .i64) (.v 42)), (.d (.int .i64) (.v 43)), (.d (.lst shM) (.v 44)), (.d (.lst shM) (.v 45)), (.d (.int .i64) (.v 46)), (.d (.int .i64) (.v 47)), (.d (.lst shM) (.v 48))]), (.row [(.int .i64)] (.v 49) false), (.row [.bool] (.v 50) false), (.cells [(.d (.int .i64) (.v 51))]), (.row shM (.v 52) false)], shs := [(.int .i64), (.int .i64), (.int .i64), (.lst shM), (.lst shM), (.int .i64), (.int .i64), (.lst shM), (.int .i64), (.int .i64), (.int .i64), (.lst shM), (.lst shM), (.int .i64), (.int .i64), (.lst shM), (.lst [(.int .i64)]), (.lst [.bool]), (.int .i64), (.lst shM), .bool, (.int .i64), (.int .i64), (.int .i64), (.int .i64)], rs := [14], bs := [], fz := [] },
{ kind := true, id := 25, nv := 68, tmps := [(.v (.g [(.d (.int .u8) (.v 0)), (.d (.int .u8) (.v 1)), (.d (.int .u8) (.v 2)), (.d (.lst [.bool]) (.v 3)), (.d (.lst [.bool]) (.v 4))])), (.v (.c (.ptr 0 0))), (.v (.c (.d .bool (.v 69)))), (.v (.c (.d (.int .i64) (.ar .rem .i64 (.conv .i64 (.v 2)) (.ki .i64 7))))), (.v (.c (.ptr 1 0))), (.v (.c (.d (.int .i64) (.v 13)))), (.v (.c (.ptr 2 0))), (.v (.c (.d (.int .i64) (.v 22)))), (.v (.c (.d (.int .i64) (.v 32)))), (.v (.c .any)), (.v (.c .any)), (.v (.c .any)), (.v (.c (.row 3 [(.int .i64)] (.len (.v 49))))), (.v (.c (.row 4 [.bool] (.len (.v 68))))), (.v (.c (.nilS shM))), (.v (.c (.ptr 5 0))), (.v (.c (.d (.int .i64) (.v 54)))), (.v (.c (.d (.int .i64) (.v 55)))), (.v (.c (.d (.int .i64) (.v 70)))), (.v (.c (.d (.int .i64) (.v 57)))), (.v (.c (.row 7 shM (.len (.app .nil (.v 52)))))), (.v (.c (.ptr 8 0))), (.v (.c (.d (.lst shM) (.v 66)))), (.v (.c (.d (.lst shM) (.v 67)))), (.v (.c (.d (.int .i64) (.v 71)))) ] ++ an 15 ++ [(.v (.c (.ptr 0 2))), (.v (.c (.d (.int .u8) (.v 2)))), (.v (.c (.d (.int .i64) (.conv .i64 (.v 2))))), (.v (.c (.d (.int .i64) (.ar .rem .i64 (.conv .i64 (.v 2)) (.ki .i64 7))))), (.v (.c .any)), (.v (.c (.ptr 0 0))), (.v (.c (.d (.int .u8) (.v 0)))), (.v (.c (.d (.int .i64) (.conv .i64 (.v 0))))), (.v (.c (.d (.int .i64) (.ar .rem .i64 (.conv .i64 (.v 0)) (.ki .i64 4))))), (.v (.c (.d (.int .i64) (.ar .add .i64 (.ki .i64 1) (.ar .rem .i64 (.conv .i64 (.v 0)) (.ki .i64 4)))))), (.v (.c (.ptr 0 1))), (.v (.c (.d (.int .u8) (.v 1)))), (.v (.c (.d (.int .i64) (.conv .i64 (.v 1))))), (.v (.c (.d (.int .i64) (.ar .rem .i64 (.conv .i64 (.v 1)) (.ki .i64 4))))), (.v (.c .any)), (.v (.g [(.d (.int .i64) (.v 5)), (.d (.int .i64) (.v 6)), (.d (.int .i64) (.v 7)), (.d (.lst shM) (.v 8)), (.d (.lst shM) (.v 9)), (.d (.int .i64) (.v 10)), (.d (.int .i64) (.v 11)), (.d (.lst shM) (.v 12))])), (.v (.c (.d (.int .i64) (.v 13)))), (.v (.c .any)), (.v (.c .any)), (.v (.g [(.d (.int .i64) (.v 14)), (.d (.int .i64) (.v 15)), (.d (.int .i64) (.v 16)), (.d (.lst shM) (.v 17)), (.d (.lst shM) (.v 18)), (.d (.int .i64) (.v 19)), (.d (.int .i64) (.v 20)), (.d (.lst shM) (.v 21))])), (.v (.c (.d (.int .i64) (.v 22)))), (.v (.c (.d (.int .i64) (.v 13)))), (.v (.c (.d .bool (.cmp .neq (.v 13) (.ki .i64 0))))), (.v (.c (.d .bool (.cmp .neq (.v 13) (.ki .i64 0))))), (.v (.c (.d (.int .i64) (.v 22)))), (.v (.c (.d .bool (.cmp .neq (.v 22) (.ki .i64 0))))), (.v (.c (.d .bool (.cmp .neq (.v 22) (.ki .i64 0))))), (.v (.c (.d (.int .i64) (.v 32)))), (.v (.c (.d (.int .i64) (.ar .rem .i64 (.conv .i64 (.v 2)) (.ki .i64 7))))), (.v (.c (.d .bool (.cmp .leq (.v 32) (.ar .rem .i64 (.conv .i64 (.v 2)) (.ki .i64 7)))))) ] ++ an 17 ++ [(.v (.c (.d (.int .i64) (.ar .rem .i64 (.conv .i64 (.v 2)) (.ki .i64 7))))), (.v (.c (.d (.int .i64) (.ar .add .i64 (.ar .rem .i64 (.conv .i64 (.v 2)) (.ki .i64 7)) (.ki .i64 1))))), (.v (.c (.row 3 [(.int .i64)] (.len (.v 49))))), (.v (.c (.d (.int .i64) (.ar .rem .i64 (.conv .i64 (.v 2)) (.ki .i64 7))))), (.v (.c (.d (.int .i64) (.ar .add .i64 (.ar .rem .i64 (.conv .i64 (.v 2)) (.ki .i64 7)) (.ki .i64 1))))), (.v (.c (.row 4 [.bool] (.len (.v 68))))), (.v (.c (.d (.int .i64) (.v 57)))), (.v (.c (.d .bool (.cmp .lss (.v 57) (.ki .i64 200))))), (.v (.c .any)), (.v (.c .any)), (.v (.c (.nilS shM))), (.v (.c (.row 6 shM (.len (.v 52))))), (.v (.c (.row 7 shM (.len (.app .nil (.v 52)))))), (.v (.c .any)), (.v (.g [(.d (.int .i64) (.v 33)), (.d (.int .i64) (.v 34)), (.d (.int .i64) (.v 35)), (.d (.lst shM) (.v 36)), (.d (.lst shM) (.v 37)), (.d (.int .i64) (.v 38)), (.d (.int .i64) (.v 39)), (.d (.lst shM) (.v 40))])), (.v (.c (.d (.int .i64) (.v 57)))), (.v (.c .any)), (.v (.g [(.d (.int .i64) (.v 58)), (.d (.int .i64) (.v 59)), (.d (.int .i64) (.v 60)), (.d (.lst shM) (.v 61)), (.d (.lst shM) (.v 62)), (.d (.int .i64) (.v 63)), (.d (.int .i64) (.v 64)), (.d (.lst shM) (.v 65))])), (.v (.c (.d (.lst shM) (.v 66)))), (.v (.c (.d (.lst shM) (.v 67)))), (.v (.g [(.d (.int .i64) (.v 58)), (.d (.int .i64) (.v 59)), (.d (.int .i64) (.v 60)), (.d (.lst shM) (.v 61)), (.d (.lst shM) (.v 62)), (.d (.int .i64) (.v 63)), (.d (.int .i64) (.v 64)), (.d (.lst shM) (.v 65))])) ] ++ an 187, blks := [(.cells [(.d (.int .u8) (.v 0)), (.d (.int .u8) (.v 1)), (.d (.int .u8) (.v 2)), (.d (.lst [.bool]) (.v 3)), (.d (.lst [.bool]) (.v 4))]), (.cells [(.d (.int .i64) (.v 58)), (.d (.int .i64) (.v 59)), (.d (.int .i64) (.v 60)), (.d (.lst shM) (.v 61)), (.d (.lst shM) (.v 62)), (.d (.int .i64) (.v 63)), (.d (.int .i64) (.v 64)), (.d (.lst shM) (.v 65))]), (.cells [(.d (.int .i64) (.v 41)), (.d (.int .i64) (.v 42)), (.d (.int .i64) (.v 43)), (.d (.lst shM) (.v 44)), (.d (.lst shM) (.v 45)), (.d (.int .i64) (.v 46)), (.d (.int .i64) (.v 47)), (.d (.lst shM) (.v 48))]), (.row [(.int .i64)] (.v 49) false), (.row [.bool] (.v 68) false), (.cells [(.d (.int .i64) (.v 51))]), (.row shM (.v 52) false), (.row shM (.app .nil (.v 52)) false), (.cells [(.d (.int .i64) (.v 58)), (.d (.int .i64) (.v 59)), (.d (.int .i64) (.v 60)), (.d (.lst shM) (.v 61)), (.d (.lst shM) (.v 62)), (.d (.int .i64) (.v 63)), (.d (.int .i64) (.v 64)), (.d (.lst shM) (.v 65))])], shs := [(.lst [.bool]), .bool, (.int .i64), (.int .i64)], rs := [], bs := [], fz := [] },
{ kind := true, id := 32, nv := 72, tmps := [(.v (.g [(.d (.int .u8) (.v 0)), (.d (.int .u8) (.v 1)), (.d (.int .u8) (.v 2)), (.d (.lst [.bool]) (.v 3)), (.d (.lst [.bool]) (.v 4))])), (.v (.c (.ptr 0 0))), (.v (.c (.d .bool (.v 84)))), (.v (.c (.d (.int .i64) (.ar .rem .i64 (.conv .i64 (.v 2)) (.ki .i64 7))))), (.v (.c (.ptr 1 0))), (.v (.c (.d (.int .i64) (.v 13)))), (.v (.c (.ptr 2 0))), (.v (.c (.d (.int .i64) (.v 22)))), (.v (.c (.d (.int .i64) (.v 32)))), (.v (.c .any)), (.v (.c .any)), (.v (.c .any)), (.v (.c (.row 3 [(.int .i64)] (.len (.v 80))))), (.v (.c (.row 4 [.bool] (.len (.v 68))))), (.v (.c (.row 9 shM (.len (.v 83))))), (.v (.c (.ptr 5 0))), (.v (.c (.d (.int .i64) (.v 85)))), (.v (.c (.d (.int .i64) (.v 86)))), (.v (.c (.d (.int .i64) (.v 70)))), (.v (.c (.d (.int .i64) (.v 57)))), (.v (.c (.row 7 shM (.len (.v 82))))), (.v (.c (.ptr 8 0))), (.v (.c (.d (.lst shM) (.v 66)))), (.v (.c (.d (.lst shM) (.v 67)))), (.v (.c (.d (.int .i64) (.v 71)))), (.v (.c (.d (.int .i64) (.v 87)))) ] ++ an 14 ++ [(.v (.c (.ptr 0 2))), (.v (.c (.d (.int .u8) (.v 2)))), (.v (.c (.d (.int .i64) (.conv .i64 (.v 2))))), (.v (.c (.d (.int .i64) (.ar .rem .i64 (.conv .i64 (.v 2)) (.ki .i64 7))))), (.v (.c .any)), (.v (.c (.ptr 0 0))), (.v (.c (.d (.int .u8) (.v 0)))), (.v (.c (.d (.int .i64) (.conv .i64 (.v 0))))), (.v (.c (.d (.int .i64) (.ar .rem .i64 (.conv .i64 (.v 0)) (.ki .i64 4))))), (.v (.c (.d (.int .i64) (.ar .add .i64 (.ki .i64 1) (.ar .rem .i64 (.conv .i64 (.v 0)) (.ki .i64 4)))))), (.v (.c (.ptr 0 1))), (.v (.c (.d (.int .u8) (.v 1)))), (.v (.c (.d (.int .i64) (.conv .i64 (.v 1))))), (.v (.c (.d (.int .i64) (.ar .rem .i64 (.conv .i64 (.v 1)) (.ki .i64 4))))), (.v (.c .any)), (.v (.g [(.d (.int .i64) (.v 5)), (.d (.int .i64) (.v 6)), (.d (.int .i64) (.v 7)), (.d (.lst shM) (.v 8)), (.d (.lst shM) (.v 9)), (.d (.int .i64) (.v 10)), (.d (.int .i64) (.v 11)), (.d (.lst shM) (.v 12))])), (.v (.c (.d (.int .i64) (.v 13)))), (.v (.c .any)), (.v (.c .any)), (.v (.g [(.d (.int .i64) (.v 14)), (.d (.int .i64) (.v 15)), (.d (.int .i64) (.v 16)), (.d (.lst shM) (.v 17)), (.d (.lst shM) (.v 18)), (.d (.int .i64) (.v 19)), (.d (.int .i64) (.v 20)), (.d (.lst shM) (.v 21))])), (.v (.c (.d (.int .i64) (.v 22)))), (.v (.c (.d (.int .i64) (.v 13)))), (.v (.c (.d .bool (.cmp .neq (.v 13) (.ki .i64 0))))), (.v (.c (.d .bool (.cmp .neq (.v 13) (.ki .i64 0))))), (.v (.c (.d (.int .i64) (.v 22)))), (.v (.c (.d .bool (.cmp .neq (.v 22) (.ki .i64 0))))), (.v (.c (.d .bool (.cmp .neq (.v 22) (.ki .i64 0))))), (.v (.c (.d (.int .i64) (.v 32)))), (.v (.c (.d (.int .i64) (.ar .rem .i64 (.conv .i64 (.v 2)) (.ki .i64 7))))), (.v (.c (.d .bool (.cmp .leq (.v 32) (.ar .rem .i64 (.conv .i64 (.v 2)) (.ki .i64 7)))))) ] ++ an 17 ++ [(.v (.c (.d (.int .i64) (.ar .rem .i64 (.conv .i64 (.v 2)) (.ki .i64 7))))), (.v (.c (.d (.int .i64) (.ar .add .i64 (.ar .rem .i64 (.conv .i64 (.v 2)) (.ki .i64 7)) (.ki .i64 1))))), (.v (.c (.row 3 [(.int .i64)] (.len (.v 80))))), (.v (.c (.d (.int .i64) (.ar .rem .i64 (.conv .i64 (.v 2)) (.ki .i64 7))))), (.v (.c (.d (.int .i64) (.ar .add .i64 (.ar .rem .i64 (.conv .i64 (.v 2)) (.ki .i64 7)) (.ki .i64 1))))), (.v (.c (.row 4 [.bool] (.len (.v 68))))), (.v (.c (.d (.int .i64) (.v 57)))), (.v (.c (.d .bool (.cmp .lss (.v 57) (.ki .i64 200))))), (.v (.c .any)), (.v (.c .any)), (.v (.c (.nilS shM))), (.v (.c (.row 6 shM (.len (.v 52))))), (.v (.c .any)), (.v (.c .any)), (.v (.g [(.d (.int .i64) (.v 33)), (.d (.int .i64) (.v 34)), (.d (.int .i64) (.v 35)), (.d (.lst shM) (.v 36)), (.d (.lst shM) (.v 37)), (.d (.int .i64) (.v 38)), (.d (.int .i64) (.v 39)), (.d (.lst shM) (.v 40))])), (.v (.c (.d (.int .i64) (.v 57)))), (.v (.c .any)), (.v (.g [(.d (.int .i64) (.v 58)), (.d (.int .i64) (.v 59)), (.d (.int .i64) (.v 60)), (.d (.lst shM) (.v 61)), (.d (.lst shM) (.v 62)), (.d (.int .i64) (.v 63)), (.d (.int .i64) (.v 64)), (.d (.lst shM) (.v 65))])), (.v (.c (.d (.lst shM) (.v 66)))), (.v (.c (.d (.lst shM) (.v 67)))), (.v (.g [(.d (.int .i64) (.v 58)), (.d (.int .i64) (.v 59)), (.d (.int .i64) (.v 60)), (.d (.lst shM) (.v 61)), (.d (.lst shM) (.v 62)), (.d (.int .i64) (.v 63)), (.d (.int .i64) (.v 64)), (.d (.lst shM) (.v 65))])), (.v (.c (.d (.int .i64) (.v 71)))), (.v (.c (.d (.lst shM) (.v 67)))), (.v (.c (.d (.int .i64) (.len (.v 67))))), (.v (.c (.d .bool (.cmp .lss (.v 71) (.len (.v 67)))))) ] ++ an 183, blks := [(.cells [(.d (.int .u8) (.v 0)), (.d (.int .u8) (.v 1)), (.d (.int .u8) (.v 2)), (.d (.lst [.bool]) (.v 3)), (.d (.lst [.bool]) (.v 4))]), (.cells [(.d (.int .i64) (.v 58)), (.d (.int .i64) (.v 59)), (.d (.int .i64) (.v 60)), (.d (.lst shM) (.v 61)), (.d (.lst shM) (.v 62)), (.d (.int .i64) (.v 63)), (.d (.int .i64) (.v 64)), (.d (.lst shM) (.v 65))]), (.cells [(.d (.int .i64) (.v 72)), (.d (.int .i64) (.v 73)), (.d (.int .i64) (.v 74)), (.d (.lst shM) (.v 75)), (.d (.lst shM) (.v 76)), (.d (.int .i64) (.v 77)), (.d (.int .i64) (.v 78)), (.d (.lst shM) (.v 79))]), (.row [(.int .i64)] (.v 80) false), (.row [.bool] (.v 68) false), (.cells [(.d (.int .i64) (.v 81))]), (.row shM (.v 52) false), (.row shM (.v 82) false), (.cells [(.d (.int .i64) (.v 58)), (.d (.int .i64) (.v 59)), (.d (.int .i64) (.v 60)), (.d (.lst shM) (.v 61)), (.d (.lst shM) (.v 62)), (.d (.int .i64) (.v 63)), (.d (.int .i64) (.v 64)), (.d (.lst shM) (.v 65))]), (.row shM (.v 83) false)], shs := [(.int .i64), (.int .i64), (.int .i64), (.lst shM), (.lst shM), (.int .i64), (.int .i64), (.lst shM), (.lst [(.int .i64)]), (.int .i64), (.lst shM), (.lst shM), .bool, (.int .i64), (.int .i64), (.int .i64)], rs := [14], bs := [], fz := [] },
{ kind := true, id := 53, nv := 88, tmps := [(.v (.g [(.d (.int .u8) (.v 0)), (.d (.int .u8) (.v 1)), (.d (.int .u8) (.v 2)), (.d (.lst [.bool]) (.v 3)), (.d (.lst [.bool]) (.v 4))])), (.v (.c (.ptr 0 0))), (.v (.c (.d .bool (.v 97)))), (.v (.c (.d (.int .i64) (.ar .rem .i64 (.conv .i64 (.v 2)) (.ki .i64 7))))), (.v (.c (.ptr 1 0))), (.v (.c (.d (.int .i64) (.v 13)))), (.v (.c (.ptr 2 0))), (.v (.c (.d (.int .i64) (.v 22)))), (.v (.c (.d (.int .i64) (.v 32)))), (.v (.c .any)), (.v (.c .any)), (.v (.c .any)), (.v (.c (.row 3 [(.int .i64)] (.len (.v 80))))), (.v (.c (.row 4 [.bool] (.len (.v 96))))), (.v (.c (.row 9 shM (.len (.v 83))))), (.v (.c (.ptr 5 0))), (.v (.c (.d (.int .i64) (.v 85)))), (.v (.c (.d (.int .i64) (.v 86)))), (.v (.c (.d (.int .i64) (.v 98)))), (.v (.c (.d (.int .i64) (.v 57)))), (.v (.c (.row 7 shM (.len (.v 82))))), (.v (.c (.ptr 8 0))), (.v (.c (.d (.lst shM) (.v 66)))), (.v (.c (.d (.lst shM) (.v 67)))), (.v (.c (.d (.int .i64) (.v 71)))), (.v (.c (.d (.int .i64) (.v 87)))) ] ++ an 8 ++ [(.v (.c (.d (.int .i64) (.v 99)))) ] ++ an 5 ++ [(.v (.c (.ptr 0 2))), (.v (.c (.d (.int .u8) (.v 2)))), (.v (.c (.d (.int .i64) (.conv .i64 (.v 2))))), (.v (.c (.d (.int .i64) (.ar .rem .i64 (.conv .i64 (.v 2)) (.ki .i64 7))))), (.v (.c .any)), (.v (.c (.ptr 0 0))), (.v (.c (.d (.int .u8) (.v 0)))), (.v (.c (.d (.int .i64) (.conv .i64 (.v 0))))), (.v (.c (.d (.int .i64) (.ar .rem .i64 (.conv .i64 (.v 0)) (.ki .i64 4))))), (.v (.c (.d (.int .i64) (.ar .add .i64 (.ki .i64 1) (.ar .rem .i64 (.conv .i64 (.v 0)) (.ki .i64 4)))))), (.v (.c (.ptr 0 1))), (.v (.c (.d (.int .u8) (.v 1)))), (.v (.c (.d (.int .i64) (.conv .i64 (.v 1))))), (.v (.c (.d (.int .i64) (.ar .rem .i64 (.conv .i64 (.v 1)) (.ki .i64 4))))), (.v (.c .any)), (.v (.g [(.d (.int .i64) (.v 5)), (.d (.int .i64) (.v 6)), (.d (.int .i64) (.v 7)), (.d (.lst shM) (.v 8)), (.d (.lst shM) (.v 9)), (.d (.int .i64) (.v 10)), (.d (.int .i64) (.v 11)), (.d (.lst shM) (.v 12))])), (.v (.c (.d (.int .i64) (.v 13)))), (.v (.c .any)), (.v (.c .any)), (.v (.g [(.d (.int .i64) (.v 14)), (.d (.int .i64) (.v 15)), (.d (.int .i64) (.v 16)), (.d (.lst shM) (.v 17)), (.d (.lst shM) (.v 18)), (.d (.int .i64) (.v 19)), (.d (.int .i64) (.v 20)), (.d (.lst shM) (.v 21))])), (.v (.c (.d (.int .i64) (.v 22)))), (.v (.c (.d (.int .i64) (.v 13)))), (.v (.c (.d .bool (.cmp .neq (.v 13) (.ki .i64 0))))), (.v (.c (.d .bool (.cmp .neq (.v 13) (.ki .i64 0))))), (.v (.c (.d (.int .i64) (.v 22)))), (.v (.c (.d .bool (.cmp .neq (.v 22) (.ki .i64 0))))), (.v (.c (.d .bool (.cmp .neq (.v 22) (.ki .i64 0))))), (.v (.c (.d (.int .i64) (.v 32)))), (.v (.c (.d (.int .i64) (.ar .rem .i64 (.conv .i64 (.v 2)) (.ki .i64 7))))), (.v (.c (.d .bool (.cmp .leq (.v 32) (.ar .rem .i64 (.conv .i64 (.v 2)) (.ki .i64 7)))))) ] ++ an 17 ++ [(.v (.c (.d (.int .i64) (.ar .rem .i64 (.conv .i64 (.v 2)) (.ki .i64 7))))), (.v (.c (.d (.int .i64) (.ar .add .i64 (.ar .rem .i64 (.conv .i64 (.v 2)) (.ki .i64 7)) (.ki .i64 1))))), (.v (.c (.row 3 [(.int .i64)] (.len (.v 80))))), (.v (.c (.d (.int .i64) (.ar .rem .i64 (.conv .i64 (.v 2)) (.ki .i64 7))))), (.v (.c (.d (.int .i64) (.ar .add .i64 (.ar .rem .i64 (.conv .i64 (.v 2)) (.ki .i64 7)) (.ki .i64 1))))), (.v (.c (.row 4 [.bool] (.len (.v 96))))), (.v (.c (.d (.int .i64) (.v 57)))), (.v (.c (.d .bool (.cmp .lss (.v 57) (.ki .i64 200))))), (.v (.c .any)), (.v (.c .any)), (.v (.c (.nilS shM))), (.v (.c (.row 6 shM (.len (.v 52))))), (.v (.c .any)), (.v (.c .any)), (.v (.g [(.d (.int .i64) (.v 33)), (.d (.int .i64) (.v 34)), (.d (.int .i64) (.v 35)), (.d (.lst shM) (.v 36)), (.d (.lst shM) (.v 37)), (.d (.int .i64) (.v 38)), (.d (.int .i64) (.v 39)), (.d (.lst shM) (.v 40))])), (.v (.c (.d (.int .i64) (.v 57)))), (.v (.c .any)), (.v (.g [(.d (.int .i64) (.v 58)), (.d (.int .i64) (.v 59)), (.d (.int .i64) (.v 60)), (.d (.lst shM) (.v 61)), (.d (.lst shM) (.v 62)), (.d (.int .i64) (.v 63)), (.d (.int .i64) (.v 64)), (.d (.lst shM) (.v 65))])), (.v (.c (.d (.lst shM) (.v 66)))), (.v (.c (.d (.lst shM) (.v 67)))), (.v (.g [(.d (.int .i64) (.v 58)), (.d (.int .i64) (.v 59)), (.d (.int .i64) (.v 60)), (.d (.lst shM) (.v 61)), (.d (.lst shM) (.v 62)), (.d (.int .i64) (.v 63)), (.d (.int .i64) (.v 64)), (.d (.lst shM) (.v 65))])), (.v (.c (.d (.int .i64) (.v 71)))), (.v (.c (.d (.lst shM) (.v 67)))), (.v (.c (.d (.int .i64) (.len (.v 67))))), (.v (.c (.d .bool (.cmp .lss (.v 71) (.len (.v 67)))))) ] ++ an 15 ++ [(.v (.c (.d (.int .i64) (.v 87)))), (.v (.c (.d (.lst shM) (.v 66)))), (.v (.c (.d (.int .i64) (.len (.v 66))))), (.v (.c (.d .bool (.cmp .lss (.v 87) (.len (.v 66)))))) ] ++ an 164, blks := [(.cells [(.d (.int .u8) (.v 0)), (.d (.int .u8) (.v 1)), (.d (.int .u8) (.v 2)), (.d (.lst [.bool]) (.v 3)), (.d (.lst [.bool]) (.v 4))]), (.cells [(.d (.int .i64) (.v 88)), (.d (.int .i64) (.v 89)), (.d (.int .i64) (.v 90)), (.d (.lst shM) (.v 91)), (.d (.lst shM) (.v 92)), (.d (.int .i64) (.v 93)), (.d (.int .i64) (.v 94)), (.d (.lst shM) (.v 95))]), (.cells [(.d (.int .i64) (.v 72)), (.d (.int .i64) (.v 73)), (.d (.int .i64) (.v 74)), (.d (.lst shM) (.v 75)), (.d (.lst shM) (.v 76)), (.d (.int .i64) (.v 77)), (.d (.int .i64) (.v 78)), (.d (.lst shM) (.v 79))]), (.row [(.int .i64)] (.v 80) false), (.row [.bool] (.v 96) false), (.cells [(.d (.int .i64) (.v 81))]), (.row shM (.v 52) false), (.row shM (.v 82) false), (.cells [(.d (.int .i64) (.v 58)), (.d (.int .i64) (.v 59)), (.d (.int .i64) (.v 60)), (.d (.lst shM) (.v 61)), (.d (.lst shM) (.v 62)), (.d (.int .i64) (.v 63)), (.d (.int .i64) (.v 64)), (.d (.lst shM) (.v 65))]), (.row shM (.v 83) false)], shs := [(.int .i64), (.int .i64), (.int .i64), (.lst shM), (.lst shM), (.int .i64), (.int .i64), (.lst shM), (.lst [.bool]), .bool, (.int .i64), (.int .i64)], rs := [], bs := [], fz := [] },
{ kind := true, id := 63, nv := 58, tmps := [(.v (.g [(.d (.int .u8) (.v 0)), (.d (.int .u8) (.v 1)), (.d (.int .u8) (.v 2)), (.d (.lst [.bool]) (.v 3)), (.d (.lst [.bool]) (.v 4))])), (.v (.c (.ptr 0 0))), (.v (.c (.d .bool (.v 58)))), (.v (.c (.d (.int .i64) (.ar .rem .i64 (.conv .i64 (.v 2)) (.ki .i64 7))))), (.v (.c (.ptr 1 0))), (.v (.c (.d (.int .i64) (.v 13)))), (.v (.c (.ptr 2 0))), (.v (.c (.d (.int .i64) (.v 22)))), (.v (.c (.d (.int .i64) (.v 32)))), (.v (.c .any)), (.v (.c .any)), (.v (.c .any)), (.v (.c (.row 3 [(.int .i64)] (.len (.v 49))))), (.v (.c (.row 4 [.bool] (.len (.v 50))))), (.v (.c (.row 6 shM (.len (.v 52))))), (.v (.c (.ptr 5 0))), (.v (.c (.d (.int .i64) (.v 54)))), (.v (.c (.d (.int .i64) (.v 55)))), (.v (.c (.d (.int .i64) (.v 56)))), (.v (.c (.d (.int .i64) (.v 57)))) ] ++ an 19 ++ [(.v (.c (.d (.int .i64) (.v 59)))), (.v (.c (.ptr 0 2))), (.v (.c (.d (.int .u8) (.v 2)))), (.v (.c (.d (.int .i64) (.conv .i64 (.v 2))))), (.v (.c (.d (.int .i64) (.ar .rem .i64 (.conv .i64 (.v 2)) (.ki .i64 7))))), (.v (.c .any)), (.v (.c (.ptr 0 0))), (.v (.c (.d (.int .u8) (.v 0)))), (.v (.c (.d (.int .i64) (.conv .i64 (.v 0))))), (.v (.c (.d (.int .i64) (.ar .rem .i64 (.conv .i64 (.v 0)) (.ki .i64 4))))), (.v (.c (.d (.int .i64) (.ar .add .i64 (.ki .i64 1) (.ar .rem .i64 (.conv .i64 (.v 0)) (.ki .i64 4)))))), (.v (.c (.ptr 0 1))), (.v (.c (.d (.int .u8) (.v 1)))), (.v (.c (.d (.int .i64) (.conv .i64 (.v 1))))), (.v (.c (.d (.int .i64) (.ar .rem .i64 (.conv .i64 (.v 1)) (.ki .i64 4))))), (.v (.c .any)), (.v (.g [(.d (.int .i64) (.v 5)), (.d (.int .i64) (.v 6)), (.d (.int .i64) (.v 7)), (.d (.lst shM) (.v 8)), (.d (.lst shM) (.v 9)), (.d (.int .i64) (.v 10)), (.d (.int .i64) (.v 11)), (.d (.lst shM) (.v 12))])), (.v (.c (.d (.int .i64) (.v 13)))), (.v (.c .any)), (.v (.c .any)), (.v (.g [(.d (.int .i64) (.v 14)), (.d (.int .i64) (.v 15)), (.d (.int .i64) (.v 16)), (.d (.lst shM) (.v 17)), (.d (.lst shM) (.v 18)), (.d (.int .i64) (.v 19)), (.d (.int .i64) (.v 20)), (.d (.lst shM) (.v 21))])), (.v (.c (.d (.int .i64) (.v 22)))), (.v (.c (.d (.int .i64) (.v 13)))), (.v (.c (.d .bool (.cmp .neq (.v 13) (.ki .i64 0))))), (.v (.c (.d .bool (.cmp .neq (.v 13) (.ki .i64 0))))), (.v (.c (.d (.int .i64) (.v 22)))), (.v (.c (.d .bool (.cmp .neq (.v 22) (.ki .i64 0))))), (.v (.c (.d .bool (.cmp .neq (.v 22) (.ki .i64 0))))), (.v (.c (.d (.int .i64) (.v 32)))), (.v (.c (.d (.int .i64) (.ar .rem .i64 (.conv .i64 (.v 2)) (.ki .i64 7))))), (.v (.c (.d .bool (.cmp .leq (.v 32) (.ar .rem .i64 (.conv .i64 (.v 2)) (.ki .i64 7)))))) ] ++ an 17 ++ [(.v (.c (.d (.int .i64) (.ar .rem .i64 (.conv .i64 (.v 2)) (.ki .i64 7))))), (.v (.c (.d (.int .i64) (.ar .add .i64 (.ar .rem .i64 (.conv .i64 (.v 2)) (.ki .i64 7)) (.ki .i64 1))))), (.v (.c (.row 3 [(.int .i64)] (.len (.v 49))))), (.v (.c (.d (.int .i64) (.ar .rem .i64 (.conv .i64 (.v 2)) (.ki .i64 7))))), (.v (.c (.d (.int .i64) (.ar .add .i64 (.ar .rem .i64 (.conv .i64 (.v 2)) (.ki .i64 7)) (.ki .i64 1))))), (.v (.c (.row 4 [.bool] (.len (.v 50))))), (.v (.c (.d (.int .i64) (.v 57)))), (.v (.c (.d .bool (.cmp .lss (.v 57) (.ki .i64 200))))) ] ++ an 200, blks := [(.cells [(.d (.int .u8) (.v 0)), (.d (.int .u8) (.v 1)), (.d (.int .u8) (.v 2)), (.d (.lst [.bool]) (.v 3)), (.d (.lst [.bool]) (.v 4))]), (.cells [(.d (.int .i64) (.v 33)), (.d (.int .i64) (.v 34)), (.d (.int .i64) (.v 35)), (.d (.lst shM) (.v 36)), (.d (.lst shM) (.v 37)), (.d (.int .i64) (.v 38)), (.d (.int .i64) (.v 39)), (.d (.lst shM) (.v 40))]), (.cells [(.d (.int .i64) (.v 41)), (.d (.int .i64) (.v 42)), (.d (.int .i64) (.v 43)), (.d (.lst shM) (.v 44)), (.d (.lst shM) (.v 45)), (.d (.int .i64) (.v 46)), (.d (.int .i64) (.v 47)), (.d (.lst shM) (.v 48))]), (.row [(.int .i64)] (.v 49) false), (.row [.bool] (.v 50) false), (.cells [(.d (.int .i64) (.v 51))]), (.row shM (.v 52) false)], shs := [.bool, (.int .i64)], rs := [], bs := [], fz := [] }]
theorem once_ent : EntOK Try.prog [] ⟨9, [(.g [(.int .u8), (.int .u8), (.int .u8), (.lst [.bool]), (.lst [.bool])])], [(.c .bool)], vconce⟩ :=
  ent_of_genH hPo Try.func9 rfl (by decide) (jn := []) (hd := hdonce) (sg := sgso) (by kernel_rfl)

end Go.Proofs.Ytmplgfkhknhacaa
set_option maxRecDepth 100000
set_option linter.unusedSimpArgs false
set_option linter.unusedVariables false
namespace Go.Proofs.Ytmplgfkhknhacaa
open Go.Proofs.Ytmplgfkhknhacaa.Sy Go.Proofs.Ytmplgfkhknhacaa.L7 Go.Proofs.Ytmplgfkhknhacaa.Id Go.Proofs.Ytmplgfkhknhacaa.R26 Go.Proofs.Ytmplgfkhknhacaa.V26 Go.Proofs.Ytmplgfkhknhacaa.N27 Go.Proofs.Ytmplgfkhknhacaa.C27 Go.RowKit Go.WideShapes Go.ChangeShapes Go.ChangeAt
theorem typ_bools {d : D} (h : Typ (.lst [.bool]) d) : ∃ l : List Bool, d = .lst (l.map D.bool) ∧ l.length ≤ maxLen := by
  unfold Typ at h
  obtain ⟨l, rfl, hl, hx⟩ := h
  obtain ⟨L, rfl, hL⟩ := list_read (g := D.bool) (q := fun _ => True) (p := fun d => Typ .bool d) (fun d hd => by
    obtain ⟨b, rfl⟩ := typ_bool hd
    exact ⟨b, rfl, trivial⟩) l (fun x hm => by
    have := hx x hm
    rw [D.cells_one rfl] at this
    unfold Typs at this
    obtain ⟨d, ds, h1, h2, _⟩ := this
    cases h1
    exact h2)
  exact ⟨L, rfl, by simpa using hl⟩
abbrev boD (l : List Bool) : D := .lst (l.map D.bool)
theorem get_bo {l : List Bool} {i : Nat} (h : i < l.length) : (l.map D.bool).getD i default = D.bool (l.getD i false) := by simp [List.getD_eq_getElem?_getD, h]
theorem get_in {l : List Int} {i : Nat} (h : i < l.length) : (l.map I64d).getD i default = I64d (l.getD i 0) := by simp [List.getD_eq_getElem?_getD, h]
theorem set_in (l : List Int) (i : Nat) (x : Int) : (l.map I64d).set i (I64d x) = (l.set i x).map I64d := List.map_set.symm
theorem set_bo (l : List Bool) (i : Nat) (x : Bool) : (l.map D.bool).set i (D.bool x) = (l.set i x).map D.bool := List.map_set.symm
def beatM (i : Int) : Msg := ⟨1, i, 2, 0, 0, 0, 0, 0, ⟨#[]⟩, ⟨#[]⟩, ⟨#[]⟩, false, [], prof0, []⟩
def resM (i a : Int) : Msg := ⟨2, i, 2, 0, 0, 0, a, 0, ⟨#[]⟩, ⟨#[]⟩, ⟨#[]⟩, false, [], prof0, []⟩
theorem in0 : inI 0 := by unfold inI; omega
theorem in1 : inI 1 := by unfold inI; omega
theorem in2 : inI 2 := by unfold inI; omega
theorem prof0_T : PrT prof0 := ⟨in0, in0, in0, in0, in0, (show (0 : Nat) ≤ maxLen by decide), in0, in0, in0, in0, (show (0 : Nat) ≤ maxLen by decide), fun x hx => by cases hx⟩
theorem beat_b {i : Int} (h : inI i) : MsB (beatM i) := ⟨⟨in1, h, in2, in0, in0, in0, in0, in0, (show (0 : Nat) ≤ maxLen by decide), (show (0 : Nat) ≤ maxLen by decide), (show (0 : Nat) ≤ maxLen by decide), ⟨(show (0 : Nat) ≤ maxLen by decide), fun x hx => by cases hx⟩, prof0_T, (show (0 : Nat) ≤ maxLen by decide), fun x hx => by cases hx⟩, Nat.zero_le _, Nat.zero_le _, Nat.zero_le _⟩
theorem res_b {i a : Int} (h : inI i) (ha : inI a) : MsB (resM i a) := ⟨⟨in2, h, in2, in0, in0, in0, ha, in0, (show (0 : Nat) ≤ maxLen by decide), (show (0 : Nat) ≤ maxLen by decide), (show (0 : Nat) ≤ maxLen by decide), ⟨(show (0 : Nat) ≤ maxLen by decide), fun x hx => by cases hx⟩, prof0_T, (show (0 : Nat) ≤ maxLen by decide), fun x hx => by cases hx⟩, Nat.zero_le _, Nat.zero_le _, Nat.zero_le _⟩
theorem beat_ok {i : Int} (h1 : 1 ≤ i) (h2 : i ≤ 2147483647) : msgS (beatM i) = 0 := by
  have hf : fulL (beatM i) = List.replicate 12 false := by kernel_rfl
  have hx : exB (beatM i) = false := by unfold exB; rw [hf]; kernel_rfl
  have hn : numE (beatM i) [] = 0 := by unfold numE; rw [if_neg (by simp [mi])]
  have ht : txtE (beatM i) [] = 0 := by unfold txtE; rw [if_neg (by simp [mi])]
  unfold msgS
  rw [if_neg (show ¬ ((beatM i).ki < 1 ∨ 3 < (beatM i).ki) from (by show ¬ ((1 : Int) < 1 ∨ 3 < (1 : Int)); omega)), if_neg (show ¬ ((beatM i).id < 1 ∨ 2147483647 < (beatM i).id) from (by show ¬ (i < 1 ∨ 2147483647 < i); omega)), if_neg (show ¬ actP (beatM i).ac = false from (by show ¬ actP 2 = false; decide)), if_neg (show ¬ (64 < ((beatM i).rd.length : Int) ∨ 64 < ((beatM i).tks.length : Int)) from (by show ¬ (64 < ((0 : Nat) : Int) ∨ 64 < ((0 : Nat) : Int)); omega)), if_neg (by rw [hx]; decide)]
  show (if numE (beatM i) [] ≠ 0 then numE (beatM i) [] else if txtE (beatM i) [] ≠ 0 then txtE (beatM i) [] else lisE (beatM i) []) = 0
  rw [if_neg (fun c => c hn), if_neg (fun c => c ht)]
  unfold lisE
  rw [if_neg (show ¬ (beatM i).rd.all rdgB = false from (by show ¬ ([] : List (Int × Int)).all rdgB = false; decide)), if_neg (by simp [mi])]
  rfl
theorem res_ok {i a : Int} (h1 : 1 ≤ i) (h2 : i ≤ 2147483647) (h3 : 0 ≤ a) (h4 : a ≤ 268435456) : msgS (resM i a) = 0 := by
  have hx : exB (resM i a) = false := by
    by_cases h0 : a = 0
    · subst h0; kernel_rfl
    · have hf : fulL (resM i a) = [false, false, false, true, false, false, false, false, false, false, false, false] := by
        show [decide ((0 : Int) ≠ 0), decide ((0 : Int) ≠ 0), decide ((0 : Int) ≠ 0), decide (a ≠ 0), decide ((0 : Int) ≠ 0), false, false, false, false, false, decide (prof0 ≠ prof0), false] = _
        rw [decide_eq_true h0]
        kernel_rfl
      unfold exB
      rw [hf]
      show extS [5, 7, 8, 11] 0 [false, false, false, true, false, false, false, false, false, false, false, false] = false
      decide
  have hn : numE (resM i a) [5, 7, 8, 11] = 0 := by
    have e4 : mi [5, 7, 8, 11] 4 = 0 := by decide
    have e6 : mi [5, 7, 8, 11] 6 = 0 := by decide
    have f1 : (resM i a).st = 0 := rfl
    have f2 : (resM i a).at' = a := rfl
    have f3 : (resM i a).va = 0 := rfl
    have f4 : (resM i a).ki = 2 := rfl
    unfold numE
    rw [if_neg (by rw [e4, e6, f1, f2, f3, f4]; omega)]
  have ht : txtE (resM i a) [5, 7, 8, 11] = 0 := by
    have e4 : mi [5, 7, 8, 11] 9 = 0 := by decide
    have e6 : mi [5, 7, 8, 11] 10 = 0 := by decide
    have f1 : (resM i a).te.size = 0 := rfl
    have f4 : (resM i a).ki = 2 := rfl
    unfold txtE
    rw [if_neg (by rw [e4, e6, f1, f4]; omega)]
  unfold msgS
  rw [if_neg (show ¬ ((resM i a).ki < 1 ∨ 3 < (resM i a).ki) from (by show ¬ ((2 : Int) < 1 ∨ 3 < (2 : Int)); omega)), if_neg (show ¬ ((resM i a).id < 1 ∨ 2147483647 < (resM i a).id) from (by show ¬ (i < 1 ∨ 2147483647 < i); omega)), if_neg (show ¬ actP (resM i a).ac = false from (by show ¬ actP 2 = false; decide)), if_neg (show ¬ (64 < ((resM i a).rd.length : Int) ∨ 64 < ((resM i a).tks.length : Int)) from (by show ¬ (64 < ((0 : Nat) : Int) ∨ 64 < ((0 : Nat) : Int)); omega)), if_neg (by rw [hx]; decide)]
  show (if numE (resM i a) [5, 7, 8, 11] ≠ 0 then numE (resM i a) [5, 7, 8, 11] else if txtE (resM i a) [5, 7, 8, 11] ≠ 0 then txtE (resM i a) [5, 7, 8, 11] else lisE (resM i a) [5, 7, 8, 11]) = 0
  rw [if_neg (fun c => c hn), if_neg (fun c => c ht)]
  unfold lisE
  rw [if_neg (show ¬ (resM i a).rd.all rdgB = false from (by show ¬ ([] : List (Int × Int)).all rdgB = false; decide)), if_neg (show ¬ (mi [5, 7, 8, 11] 14 = 1 ∧ profS (resM i a).p ≠ 0) from fun c => absurd c.1 (by decide))]
  rfl
/-- the calls after the k-th, c of them -/
def bts (k : Nat) : Nat → List Msg
  | 0 => []
  | c + 1 => beatM ((k + 1 : Nat) : Int) :: bts (k + 1) c
theorem bts_snoc : ∀ (c k : Nat), bts k c ++ [beatM ((k + c + 1 : Nat) : Int)] = bts k (c + 1)
  | 0, k => rfl
  | c + 1, k => by
    have h := bts_snoc c (k + 1)
    rw [show k + 1 + c + 1 = k + (c + 1) + 1 from by omega] at h
    show beatM ((k + 1 : Nat) : Int) :: (bts (k + 1) c ++ _) = beatM ((k + 1 : Nat) : Int) :: bts (k + 1) (c + 1)
    rw [h]
theorem bts_len : ∀ (c k : Nat), (bts k c).length = c
  | 0, _ => rfl
  | c + 1, k => by simp only [bts, List.length_cons, bts_len c (k + 1)]
theorem bts_b : ∀ (c k : Nat), k + c ≤ 1000 → ∀ m ∈ bts k c, MsB m
  | 0, _, _, m, h => by cases h
  | c + 1, k, hk, m, h => by
    rcases List.mem_cons.1 h with rfl | h
    · exact beat_b (by unfold inI; omega)
    · exact bts_b c (k + 1) (by omega) m h
structure Cfg (T R : Int) (n : Nat) : Prop where
  t : T = 1 ∨ T = 2 ∨ T = 3 ∨ T = 4
  r : R = 0 ∨ R = 1 ∨ R = 2 ∨ R = 3
  n : n ≤ 6
/-- waiting for nothing: k calls have ended -/
def aI (T R : Int) (n k : Nat) : Ep := ⟨(n : Int) + 1, T, R, bts k (n - k), [], 0, 0, []⟩
/-- call k + 1 waits for its result -/
def aB (T R : Int) (n k : Nat) (d u : Int) : Ep := ⟨(n : Int) + 1, T, R, bts (k + 1) (n - (k + 1)), [beatM ((k + 1 : Nat) : Int)], d, u, []⟩
inductive AS (T R : Int) (n : Nat) (now : Int) : Ep → Nat → Prop
  | idle (k : Nat) (hk : k ≤ n) (h : k < n → now + ((n - k : Nat) : Int) * ((R + 1) * T + 1) ≤ n * ((R + 1) * T + 1)) : AS T R n now (aI T R n k) k
  | busy (k : Nat) (d u : Int) (hk : k + 1 ≤ n) (h1 : 1 ≤ u) (h2 : u ≤ R + 1) (h3 : now ≤ d) (h0 : d ≤ 300) (h : d + (R + 1 - u) * T + 1 + ((n - (k + 1) : Nat) : Int) * ((R + 1) * T + 1) ≤ n * ((R + 1) * T + 1)) : AS T R n now (aB T R n k d u) k
theorem AS.kn {T R : Int} {n k : Nat} {now : Int} {a : Ep} (h : AS T R n now a k) : k ≤ n := by cases h <;> omega
theorem aI_b {T R : Int} {n k : Nat} (c : Cfg T R n) : EpB (aI T R n k) := by
  have hn := c.n
  by_cases hk : k ≤ n
  · exact ⟨by show (bts k (n - k)).length ≤ _; rw [bts_len]; omega, Nat.zero_le _, Nat.zero_le _, bts_b _ _ (by omega), (fun x hx => by cases hx), (fun x hx => by cases hx)⟩
  · have e : n - k = 0 := by omega
    refine ⟨by show (bts k (n - k)).length ≤ _; rw [bts_len]; omega, Nat.zero_le _, Nat.zero_le _, ?_, (fun x hx => by cases hx), (fun x hx => by cases hx)⟩
    show ∀ m ∈ bts k (n - k), MsB m
    rw [e]
    intro m hm
    cases hm
theorem aB_b {T R : Int} {n k : Nat} {d u : Int} (c : Cfg T R n) (hk : k + 1 ≤ n) : EpB (aB T R n k d u) := by
  have hn := c.n
  exact ⟨by show (bts (k + 1) (n - (k + 1))).length ≤ _; rw [bts_len]; omega, by show 1 ≤ _; omega, Nat.zero_le _, bts_b _ _ (by omega), (fun x hx => by rw [List.mem_singleton.1 hx]; exact beat_b (by unfold inI; omega)), (fun x hx => by cases hx)⟩
structure AB (a : Ep) : Prop where
  b : EpB a
  o : a.ou.length ≤ 1
  q : a.qu.length ≤ 1000
  t : 0 ≤ a.tm ∧ a.tm ≤ 1000
  u : 0 ≤ a.tr ∧ a.tr ≤ 1000
theorem AS.ab {T R : Int} {n k : Nat} {now : Int} {a : Ep} (c : Cfg T R n) (h : AS T R n now a k) : AB a := by
  have hn := c.n
  have ht := c.t
  have hr := c.r
  cases h with
  | idle k hk h => exact ⟨aI_b c, Nat.zero_le _, by show (bts k (n - k)).length ≤ _; rw [bts_len]; omega, by show 0 ≤ T ∧ T ≤ 1000; omega, by show (0 : Int) ≤ 0 ∧ (0 : Int) ≤ 1000; omega⟩
  | busy k d u hk h1 h2 h3 h0 h => exact ⟨aB_b c hk, Nat.le_refl _, by show (bts _ _).length ≤ _; rw [bts_len]; omega, by show 0 ≤ T ∧ T ≤ 1000; omega, by show 0 ≤ u ∧ u ≤ 1000; omega⟩
theorem next_aI {T R : Int} {n k : Nat} {now : Int} : nextQ (aI T R n k) now = if k < n then (aB T R n k (now + T) 1, [beatM ((k + 1 : Nat) : Int)]) else (aI T R n k, []) := by
  by_cases hk : k < n
  · rw [if_pos hk]
    obtain ⟨c, hc⟩ : ∃ c, n - k = c + 1 := ⟨n - k - 1, by omega⟩
    have e : n - (k + 1) = c := by omega
    unfold aI aB nextQ
    rw [hc, e]
    rfl
  · rw [if_neg hk]
    have e : n - k = 0 := by omega
    unfold aI nextQ
    rw [e]
    rfl
/-- behind Send -/
inductive AF (T R : Int) (n : Nat) (now : Int) : Ep → Nat → Prop
  | idle (k : Nat) (hk : k = n) : AF T R n now (aI T R n k) k
  | busy (k : Nat) (d u : Int) (hk : k + 1 ≤ n) (h1 : 1 ≤ u) (h2 : u ≤ R + 1) (h3 : now + 1 ≤ d) (h0 : d ≤ 300) (h : d + (R + 1 - u) * T + 1 + ((n - (k + 1) : Nat) : Int) * ((R + 1) * T + 1) ≤ n * ((R + 1) * T + 1)) : AF T R n now (aB T R n k d u) k
theorem AF.next {T R : Int} {n k : Nat} {now : Int} {a : Ep} (h : AF T R n now a k) : AS T R n (now + 1) a k := by
  cases h with
  | idle k hk => exact .idle k (by omega) (fun c => by omega)
  | busy k d u hk h1 h2 h3 h0 h => exact .busy k d u hk h1 h2 h3 h0 h
theorem mul_step (n k : Nat) (hk : k + 1 ≤ n) (L : Int) : ((n - k : Nat) : Int) * L = L + ((n - (k + 1) : Nat) : Int) * L := by
  have e : ((n - k : Nat) : Int) = 1 + ((n - (k + 1) : Nat) : Int) := by omega
  rw [e, Int.add_mul, Int.one_mul]
theorem send_step {T R : Int} {n k : Nat} {now : Int} {a : Ep} (c : Cfg T R n) (h : AS T R n now a k) (h0 : 0 ≤ now) (h1 : now < 200) :
    ∃ k', AF T R n now (sendR a now).1 k' ∧ (((sendR a now).2.2 = [] ∧ k' = k) ∨ ((sendR a now).2.2 = [beatM ((k + 1 : Nat) : Int)] ∧ k' = k + 1)) ∧ ((sendR a now).2.1 = [] ∨ ∃ i : Nat, (sendR a now).2.1 = [beatM (i : Int)] ∧ 1 ≤ i ∧ i ≤ n) := by
  have hn := c.n
  have ht := c.t
  have hr := c.r
  have hno : ¬ (now < 0 ∨ 268435456 < now) := by omega
  cases h with
  | idle k hk h =>
    have hs : sendR (aI T R n k) now = ((nextQ (aI T R n k) now).1, (nextQ (aI T R n k) now).2, []) := by unfold sendR; rw [if_neg hno]; rfl
    rw [hs, next_aI]
    by_cases hkn : k < n
    · rw [if_pos hkn]
      have h := h hkn
      rw [mul_step n k (by omega)] at h
      refine ⟨k, .busy k _ _ (by omega) (by omega) (by omega) (by omega) (by omega) ?_, .inl ⟨rfl, rfl⟩, .inr ⟨k + 1, rfl, by omega, by omega⟩⟩
      have e : (R + 1 - 1) * T + T = (R + 1) * T := by rw [Int.add_sub_cancel, Int.add_mul, Int.one_mul]
      omega
    · rw [if_neg hkn]
      exact ⟨k, .idle k (by omega), .inl ⟨rfl, rfl⟩, .inl rfl⟩
  | busy k d u hk h1 h2 h3 hd h =>
    by_cases hdn : d ≤ now
    · by_cases hu : u ≤ R
      · have hs : sendR (aB T R n k d u) now = (aB T R n k (now + T) (u + 1), [beatM ((k + 1 : Nat) : Int)], []) := by unfold sendR; rw [if_neg hno]; show (if d ≤ now then _ else _) = _; rw [if_pos hdn]; show (if u ≤ R then _ else _) = _; rw [if_pos hu]; rfl
        rw [hs]
        refine ⟨k, .busy k _ _ hk (by omega) (by omega) (by omega) (by omega) ?_, .inl ⟨rfl, rfl⟩, .inr ⟨k + 1, rfl, by omega, by omega⟩⟩
        have e : (R + 1 - (u + 1)) * T + T = (R + 1 - u) * T := by rw [show R + 1 - u = (R + 1 - (u + 1)) + 1 from by omega, Int.add_mul (R + 1 - (u + 1)), Int.one_mul]
        omega
      · have hs : sendR (aB T R n k d u) now = ((nextQ (aI T R n (k + 1)) now).1, (nextQ (aI T R n (k + 1)) now).2, [beatM ((k + 1 : Nat) : Int)]) := by
          unfold sendR
          rw [if_neg hno]
          show (if d ≤ now then _ else _) = _
          rw [if_pos hdn]
          show (if u ≤ R then _ else _) = _
          rw [if_neg hu]
          have e : nextQ { aB T R n k d u with ou := [] } now = nextQ (aI T R n (k + 1)) now := by unfold nextQ aB aI; rfl
          rw [e]
        rw [hs, next_aI]
        by_cases hkn : k + 1 < n
        · rw [if_pos hkn]
          rw [mul_step n (k + 1) (by omega)] at h
          have eu : R + 1 - u = 0 := by omega
          rw [eu, Int.zero_mul] at h
          refine ⟨k + 1, .busy (k + 1) _ _ (by omega) (by omega) (by omega) (by omega) (by omega) ?_, .inr ⟨rfl, rfl⟩, .inr ⟨k + 1 + 1, rfl, by omega, by omega⟩⟩
          have e : (R + 1 - 1) * T + T = (R + 1) * T := by rw [Int.add_sub_cancel, Int.add_mul, Int.one_mul]
          omega
        · rw [if_neg hkn]
          exact ⟨k + 1, .idle (k + 1) (by omega), .inr ⟨rfl, rfl⟩, .inl rfl⟩
    · have hs : sendR (aB T R n k d u) now = (aB T R n k d u, [], []) := by unfold sendR; rw [if_neg hno]; show (if d ≤ now then _ else _) = _; rw [if_neg hdn]
      rw [hs]
      exact ⟨k, .busy k d u hk h1 h2 (by omega) hd h, .inl ⟨rfl, rfl⟩, .inl rfl⟩
theorem res_B (i a : Int) : resB (resM i a) = true := by kernel_rfl
theorem recv_step {T R : Int} {n k : Nat} {now : Int} {a : Ep} (c : Cfg T R n) (h : AS T R n now a k) (i x : Int) :
    ((recvR a (resM i x)).2.1 = [] ∧ (recvR a (resM i x)).1 = a) ∨ ((recvR a (resM i x)).2.1 = [beatM ((k + 1 : Nat) : Int), resM i x] ∧ i = ((k + 1 : Nat) : Int) ∧ k + 1 ≤ n ∧ AS T R n now (recvR a (resM i x)).1 (k + 1)) := by
  have ht := c.t
  have hr := c.r
  cases h with
  | idle k hk h => exact .inl ⟨by unfold recvR; rw [if_pos (res_B i x)]; rfl, by unfold recvR; rw [if_pos (res_B i x)]; rfl⟩
  | busy k d u hk h1 h2 h3 hd h =>
    by_cases hid : i = ((k + 1 : Nat) : Int)
    · have hs : recvR (aB T R n k d u) (resM i x) = (aI T R n (k + 1), [beatM ((k + 1 : Nat) : Int), resM i x], [], []) := by
        unfold recvR
        rw [if_pos (res_B i x)]
        show (if i = ((k + 1 : Nat) : Int) ∧ (2 : Int) = 2 then _ else _) = _
        rw [if_pos ⟨hid, rfl⟩]
        rfl
      rw [hs]
      refine .inr ⟨rfl, hid, hk, .idle (k + 1) hk (fun hkn => ?_)⟩
      have hm : 0 ≤ (R + 1 - u) * T := Int.mul_nonneg (by omega) (by omega)
      omega
    · have hs : recvR (aB T R n k d u) (resM i x) = (aB T R n k d u, [], [], []) := by
        unfold recvR
        rw [if_pos (res_B i x)]
        show (if i = ((k + 1 : Nat) : Int) ∧ (2 : Int) = 2 then _ else _) = _
        rw [if_neg (fun c => hid c.1)]
      rw [hs]
      exact .inl ⟨rfl, rfl⟩
theorem AS.done {T R : Int} {n k : Nat} {a : Ep} (c : Cfg T R n) (h : AS T R n 200 a k) : k = n := by
  have hn := c.n
  have key : (n : Int) * ((R + 1) * T + 1) ≤ 102 := by
    have ht := c.t
    have hr := c.r
    have hL : (R + 1) * T + 1 ≤ 17 := by rcases ht with rfl | rfl | rfl | rfl <;> omega
    have : (n : Int) * ((R + 1) * T + 1) ≤ 6 * 17 := Int.mul_le_mul (by omega) hL (by rcases ht with rfl | rfl | rfl | rfl <;> omega) (by omega)
    omega
  have hpos : 0 ≤ (R + 1) * T + 1 := by
    have ht := c.t
    have hr := c.r
    rcases ht with rfl | rfl | rfl | rfl <;> omega
  cases h with
  | idle k hk h =>
    by_cases hkn : k < n
    · have h := h hkn
      have hm : 0 ≤ ((n - k : Nat) : Int) * ((R + 1) * T + 1) := Int.mul_nonneg (by omega) hpos
      omega
    · omega
  | busy k d u hk h1 h2 h3 hd h =>
    have hm : 0 ≤ ((n - (k + 1) : Nat) : Int) * ((R + 1) * T + 1) := Int.mul_nonneg (by omega) hpos
    have hm2 : 0 ≤ (R + 1 - u) * T := Int.mul_nonneg (by omega) (by have := c.t; omega)
    omega
structure GM (n : Nat) (ran : List Int) (m : Msg) : Prop where
  ex : ∃ i : Nat, 1 ≤ i ∧ i ≤ n ∧ 1 ≤ ran.getD i 0 ∧ ran.getD i 0 ≤ 200 ∧ m = resM i (ran.getD i 0 - 1)
theorem GM.b {n : Nat} {ran : List Int} {m : Msg} (h : GM n ran m) (hn : n ≤ 6) : MsB m := by
  obtain ⟨i, h1, h2, h3, h4, rfl⟩ := h.ex
  exact res_b (by unfold inI; omega) (by unfold inI; omega)
theorem getD_set {l : List Int} {i j : Nat} {x : Int} (h : i ≠ j) : (l.set i x).getD j 0 = l.getD j 0 := by
  simp [List.getD_eq_getElem?_getD, List.getElem?_set_ne h]
theorem getD_same {l : List Int} {i : Nat} {x : Int} (h : i < l.length) : (l.set i x).getD i 0 = x := by
  simp [List.getD_eq_getElem?_getD, h]
theorem GM.set {n : Nat} {ran : List Int} {m : Msg} {i : Nat} {x : Int} (h : GM n ran m) (hz : ran.getD i 0 = 0) : GM n (ran.set i x) m := by
  obtain ⟨j, h1, h2, h3, h4, rfl⟩ := h.ex
  have hij : i ≠ j := fun e => by subst e; omega
  exact ⟨j, h1, h2, by rw [getD_set hij]; exact h3, by rw [getD_set hij]; exact h4, by rw [getD_set hij]⟩
structure BS (n : Nat) (b : Ep) (ran : List Int) (last : Int) : Prop where
  bb : EpB b
  o : b.ou = []
  sl : b.se.length ≤ 17
  rl : ran.length = n + 1
  la : 0 ≤ last ∧ last ≤ n
  rz : ∀ i : Nat, last < i → i ≤ n → ran.getD i 0 = 0
  sg : ∀ s ∈ b.se, GM n ran s ∧ s.id ≤ last
  sx : last = 0 ∨ ∃ s ∈ b.se, s.id = last
theorem new_all {k : Int} {l : List Msg} (h : newB k l = true) : ∀ s ∈ l, s.id < k := fun s hs => by
  have := List.all_eq_true.1 h s hs
  rw [decide_eq_true_eq] at this
  exact this
theorem recvB {n : Nat} {b : Ep} {ran : List Int} {last : Int} (h : BS n b ran last) (i : Nat) (h1 : 1 ≤ i) :
    (recvR b (beatM i)).1 = b ∧ (((recvR b (beatM i)).2.2.1 = [] ∧ ((recvR b (beatM i)).2.2.2 = [] ∨ ∃ s, (recvR b (beatM i)).2.2.2 = [s] ∧ GM n ran s)) ∨ ((recvR b (beatM i)).2.2.1 = [beatM i] ∧ last < i)) := by
  have hrb : resB (beatM i) = false := by kernel_rfl
  have e1 : recvR b (beatM i) = lookR b (beatM i) := by unfold recvR; rw [if_neg (by rw [hrb]; decide)]
  rw [e1]
  unfold lookR
  rw [if_neg (show ¬ ((beatM (i : Int)).ki ≠ 1) from fun c => c rfl)]
  split
  · rename_i s hs
    exact ⟨rfl, .inl ⟨rfl, .inr ⟨s, rfl, (h.sg s (fnd_mem hs)).1⟩⟩⟩
  · split
    · rename_i hn
      refine ⟨rfl, .inr ⟨rfl, ?_⟩⟩
      rcases h.sx with h0 | ⟨s, hs, hsl⟩
      · omega
      · have := new_all hn s hs
        have e : (beatM (i : Int)).id = i := rfl
        omega
    · exact ⟨rfl, .inl ⟨rfl, .inl rfl⟩⟩
theorem ansB {n : Nat} {b : Ep} {ran : List Int} {last : Int} (hn : n ≤ 6) (h : BS n b ran last) (i : Nat) (hi : last < i) (hin : i ≤ n) (now : Int) (h0 : 0 ≤ now) (h1 : now < 200) :
    ansV b (resM i now) = 0 ∧ BS n (ansO b (resM i now)) (ran.set i (now + 1)) i ∧ GM n (ran.set i (now + 1)) (resM i now) ∧ ran.getD i 0 = 0 := by
  have hla := h.la
  have hrl := h.rl
  have hm := res_ok (i := (i : Int)) (a := now) (by omega) (by omega) h0 (by omega)
  have hmb := res_b (i := (i : Int)) (a := now) (by unfold inI; omega) (by unfold inI; omega)
  have hnw : newB (resM i now).id b.se = true := by
    unfold newB
    rw [List.all_eq_true]
    intro s hs
    have := (h.sg s hs).2
    have e : (resM (i : Int) now).id = i := rfl
    rw [decide_eq_true_eq]
    omega
  have hv : ansV b (resM i now) = 0 := by unfold ansV; rw [if_neg (fun c => c hm), if_neg (by rw [res_B]; decide), if_neg (by rw [hnw]; decide)]
  have hz := h.rz i hi hin
  have hg : GM n (ran.set i (now + 1)) (resM i now) := ⟨i, by omega, hin, by rw [getD_same (by omega)]; omega, by rw [getD_same (by omega)]; omega, by rw [getD_same (by omega), Int.add_sub_cancel]⟩
  have hsl := h.sl
  refine ⟨hv, ?_, hg, hz⟩
  rw [ans_yes hv]
  have hall : ∀ s ∈ b.se ++ [resM i now], GM n (ran.set i (now + 1)) s ∧ s.id ≤ i := fun s hs => by
    rcases List.mem_append.1 hs with hs | hs
    · have := h.sg s hs
      exact ⟨this.1.set hz, by omega⟩
    · rw [List.mem_singleton.1 hs]
      exact ⟨hg, Int.le_refl _⟩
  have hsub : ∀ s ∈ ansL b (resM i now), s ∈ b.se ++ [resM i now] := fun s hs => by
    unfold ansL at hs
    split at hs
    · exact List.mem_of_mem_drop hs
    · exact hs
  have hlen : (ansL b (resM i now)).length ≤ 17 := by
    unfold ansL
    split
    · rw [List.length_drop, List.length_append]; simp only [List.length_cons, List.length_nil]; omega
    · rename_i hc; omega
  have hin2 : resM i now ∈ ansL b (resM i now) := by
    unfold ansL
    split
    · rename_i hc
      rw [List.drop_append_of_le_length (by rw [List.length_append] at hc; simp only [List.length_cons, List.length_nil] at hc; omega)]
      simp
    · simp
  exact ⟨⟨h.bb.ql, h.bb.ol, by show (ansL b (resM i now)).length ≤ _; omega, h.bb.q, h.bb.o, fun s hs => (hall s (hsub s hs)).1.b hn⟩, h.o, hlen, by rw [List.length_set]; exact hrl, ⟨by omega, by omega⟩,
    (fun j hj hjn => by rw [getD_set (by omega)]; exact h.rz j (by omega) hjn), (fun s hs => hall s (hsub s hs)), .inr ⟨_, hin2, rfl⟩⟩
def losB (l : List Bool) (k : Int) : Bool := if k + 1 ≤ (l.length : Int) then l.getD k.toNat false else false
theorem lost_fn (l : List Bool) (k : Int) (h0 : 0 ≤ k) (h1 : k ≤ 1000000) : Fun Try.prog [] 29 [.c (.lst [.bool]), .p [.s (.int .i64)]] [boD l, .rc [I64d k]] [tB] (.ok [.bool (losB l k), .rc [I64d (k + 1)]]) := by
  have hw : IntKind.wrap .i64 (k + 1) = k + 1 := wrap_i64 (by omega) (by omega)
  have hw2 : IntKind.wrap .i64 (k + 1 - 1) = ((k.toNat : Nat) : Int) := by rw [wrap_i64 (by omega) (by omega)]; omega
  refine lost_ent _ _ ?_
  show vclost.den _ _ _ _ _
  unfold vclost
  refine den_ite (fun h => ?_) (fun h => den_ret ?_)
  · simp only [dF, dE, hw] at h
    have hg := get_bo (l := l) (i := k.toNat) (by omega)
    refine den_ev (evs_ob (by simp only [dF, dE, hw, hw2]; omega) (evs_ob (by simp only [dF, dE, hw, hw2]; omega) (evs_nil (den_ret ?_))))
    simp only [dF, dE, hw, hw2, hg]
    rw [show losB l k = l.getD k.toNat false from by unfold losB; rw [if_pos h]]
  · simp only [dF, dE, hw] at h
    simp only [dF, dE, hw]
    rw [show losB l k = false from by unfold losB; rw [if_neg (by omega)]]

theorem beat_fn (i : Int) : Fun Try.prog [] 28 [tI] [I64d i] [tM] (.ok [msD (beatM i)]) := by
  refine beat_ent _ _ ?_
  show vcbeat.den _ _ _ _ _
  unfold vcbeat
  exact den_ret rfl
theorem call_A {T R : Int} {j : Nat} (hj : j < 6) : Fun Try.prog [] 19 [tEp, tM] [epD (aI T R j 0), msD (beatM 0)] [tEp, tI, tI] (.ok [epD (aI T R (j + 1) 0), I64d ((j + 1 : Nat) : Int), I64d 0]) := by
  have hb : EpB (aI T R j 0) := ⟨by show (bts 0 (j - 0)).length ≤ _; rw [bts_len]; omega, Nat.zero_le _, Nat.zero_le _, bts_b _ _ (by omega), (fun x hx => by cases hx), (fun x hx => by cases hx)⟩
  have hf := call_fn (aI T R j 0) (beatM 0) hb (beat_b in0) (show inI ((j : Int) + 1) by unfold inI; omega)
  have hm : callM (aI T R j 0) (beatM 0) = beatM ((j + 1 : Nat) : Int) := by
    show beatM ((j : Int) + 1) = _
    congr 1
  have hv : callV (aI T R j 0) (beatM 0) = 0 := by
    unfold callV
    rw [if_neg (by show ¬ (256 ≤ ((bts 0 (j - 0)).length : Int) ∨ 2147483648 ≤ (j : Int) + 1); rw [bts_len]; omega), hm]
    exact beat_ok (by omega) (by omega)
  obtain ⟨q1, q2⟩ := call_yes hv
  have e1 : callO (aI T R j 0) (beatM 0) = aI T R (j + 1) 0 := by
    rw [q1, hm]
    have hs := bts_snoc j 0
    rw [Nat.zero_add] at hs
    unfold aI
    simp only [Nat.sub_zero]
    rw [hs]
    congr 1
  have e2 : callI (aI T R j 0) (beatM 0) = ((j + 1 : Nat) : Int) := by rw [q2]; rfl
  rw [e1, e2, hv] at hf
  exact hf
theorem send_A {T R : Int} {n k : Nat} {now : Int} {a : Ep} (c : Cfg T R n) (h : AS T R n now a k) (h0 : 0 ≤ now) (h1 : now < 200) :
    ∃ (a' : Ep) (s f : List Msg) (k' : Nat), Fun Try.prog [] 21 [tEp, tI] [epD a, I64d now] [tEp, tMs, tMs] (.ok [epD a', msgsD s, msgsD f]) ∧ AF T R n now a' k' ∧ ((f = [] ∧ k' = k) ∨ (f = [beatM ((k + 1 : Nat) : Int)] ∧ k' = k + 1)) ∧ (s = [] ∨ ∃ i : Nat, s = [beatM (i : Int)] ∧ 1 ≤ i ∧ i ≤ n) := by
  obtain ⟨k', g1, g2, g3⟩ := send_step c h h0 h1
  have hb := h.ab c
  exact ⟨_, _, _, k', send_fn a now hb.b hb.o (by have := hb.q; omega) hb.t.1 (by have := hb.t; omega) hb.u.1 (by have := hb.u; omega), g1, g2, g3⟩
theorem recv_B {n : Nat} {b : Ep} {ran : List Int} {last : Int} (h : BS n b ran last) (i : Nat) (h1 : 1 ≤ i) (hin : i ≤ 6) :
    ∃ (p fr ag : List Msg), Fun Try.prog [] 24 [tEp, tM] [epD b, msD (beatM i)] [tEp, tMs, tMs, tMs] (.ok [epD b, msgsD p, msgsD fr, msgsD ag]) ∧ ((fr = [] ∧ ag.length ≤ 1 ∧ ∀ m ∈ ag, GM n ran m) ∨ (fr = [beatM i] ∧ last < i)) := by
  obtain ⟨g1, g2⟩ := recvB h i h1
  have hf := recv_fn b (beatM i) h.bb (beat_b (by unfold inI; omega)) (by rw [h.o]; exact Nat.zero_le _)
  rw [g1] at hf
  refine ⟨_, _, _, hf, ?_⟩
  rcases g2 with ⟨e1, e2 | ⟨s, e2, hs⟩⟩ | ⟨e1, e2⟩
  · exact .inl ⟨e1, by rw [e2]; exact Nat.zero_le _, by rw [e2]; intro m hm; cases hm⟩
  · exact .inl ⟨e1, by rw [e2]; exact Nat.le_refl _, by rw [e2]; intro m hm; rw [List.mem_singleton.1 hm]; exact hs⟩
  · exact .inr ⟨e1, e2⟩
theorem ans_B {n : Nat} {b : Ep} {ran : List Int} {last : Int} (hn : n ≤ 6) (h : BS n b ran last) (i : Nat) (hi : last < i) (hin : i ≤ n) (now : Int) (h0 : 0 ≤ now) (h1 : now < 200) :
    ∃ b' : Ep, Fun Try.prog [] 26 [tEp, tM] [epD b, msD (resM i now)] [tEp, tI] (.ok [epD b', I64d 0]) ∧ BS n b' (ran.set i (now + 1)) i ∧ GM n (ran.set i (now + 1)) (resM i now) ∧ ran.getD i 0 = 0 := by
  obtain ⟨g1, g2, g3, g4⟩ := ansB hn h i hi hin now h0 h1
  have hsl := h.sl
  have hla := h.la
  have hf := ans_fn b (resM i now) h.bb (res_b (by unfold inI; omega) (by unfold inI; omega)) (by omega)
  rw [g1] at hf
  exact ⟨_, hf, g2, g3, g4⟩
theorem recv_A {T R : Int} {n k : Nat} {now : Int} {a : Ep} (c : Cfg T R n) (h : AS T R n now a k) (m : Msg) (ran : List Int) (hm : GM n ran m) :
    ∃ (a' : Ep) (p fr ag : List Msg), Fun Try.prog [] 24 [tEp, tM] [epD a, msD m] [tEp, tMs, tMs, tMs] (.ok [epD a', msgsD p, msgsD fr, msgsD ag]) ∧
      ((p = [] ∧ a' = a) ∨ (p = [beatM ((k + 1 : Nat) : Int), resM ((k + 1 : Nat) : Int) (ran.getD (k + 1) 0 - 1)] ∧ 1 ≤ ran.getD (k + 1) 0 ∧ ran.getD (k + 1) 0 ≤ 200 ∧ k + 1 ≤ n ∧ AS T R n now a' (k + 1))) := by
  have hb := h.ab c
  have hmb := hm.b c.n
  have hf := recv_fn a m hb.b hmb hb.o
  obtain ⟨i, h1, h2, h3, h4, rfl⟩ := hm.ex
  refine ⟨_, _, _, _, hf, ?_⟩
  rcases recv_step c h (i : Int) (ran.getD i 0 - 1) with ⟨e1, e2⟩ | ⟨e1, e2, e3, e4⟩
  · exact .inl ⟨e1, e2⟩
  · have e5 : i = k + 1 := by omega
    subst e5
    exact .inr ⟨e1, h3, h4, e3, e4⟩
theorem new_A (T R : Int) (h : (1 ≤ T ∧ T ≤ 1440 ∧ 0 ≤ R ∧ R ≤ 100)) : Fun Try.prog [] 15 [tI, tI, tI] [I64d T, I64d R, I64d 1] [tEp, tI] (.ok [epD (aI T R 0 0), I64d 0]) := by
  have hf := new_fn T R 1
  obtain ⟨e1, e2⟩ := new_t (t := T) (r := R) (f := 1) ⟨h, by omega⟩
  rw [e1, e2] at hf
  exact hf
theorem bs_0 (n : Nat) : BS n (aI 3 2 0 0) (List.replicate (n + 1) 0) 0 := by
  refine ⟨⟨Nat.zero_le _, Nat.zero_le _, Nat.zero_le _, (fun x hx => by cases hx), (fun x hx => by cases hx), (fun x hx => by cases hx)⟩, rfl, Nat.zero_le _, List.length_replicate, ⟨by omega, by omega⟩, fun i _ hi => ?_, (fun s hs => by cases hs), .inl rfl⟩
  simp [List.getD_eq_getElem?_getD, List.getElem?_replicate, show i < n + 1 by omega]
theorem as_0 {T R : Int} {n : Nat} : AS T R n 0 (aI T R n 0) 0 := .idle 0 (Nat.zero_le _) (fun _ => by rw [Nat.sub_zero]; omega)

end Go.Proofs.Ytmplgfkhknhacaa
