/-
  OutboxKeeps: its walk and its row.
-/
import Derived.Test.YtmkkijgnlohieaaO31l
set_option maxRecDepth 100000
set_option linter.unusedSimpArgs false
set_option linter.unusedVariables false
namespace Go.Proofs.Ytmkkijgnlohieaa
open Go.Proofs.Ytmkkijgnlohieaa.Sy Go.Proofs.Ytmkkijgnlohieaa.L7 Go.Proofs.Ytmkkijgnlohieaa.Id Go.Proofs.Ytmkkijgnlohieaa.R26 Go.Proofs.Ytmkkijgnlohieaa.E30 Go.Proofs.Ytmkkijgnlohieaa.O31 Go.Proofs.Ytmkkijgnlohieaa.O31x Go.Proofs.Ytmkkijgnlohieaa.O31l Go.RowKit Go.WideShapes Go.ChangeShapes Go.ChangeAt
theorem hPk : NoNum Try.prog := by unfold NoNum; kernel_rfl
def sgsk : Nat → Option (List TS × List TS) := fun _ => none
def vckp : VC := (.ite (.cmp .gtr (.len (.v 1)) (.ki .i64 60))
 (.cal 10 [] [] [(.c .bool)] 3
  (.ret [(.v 3)]))
 (.cal 11 [(.c (.int .i64))] [(.ar .add .i64 (.ki .i64 4) (.ar .rem .i64 (.conv .i64 (.v 0)) (.ki .i64 4)))] [(.g [(.int .i64), (.lst [.str, .str, (.int .i64), (.int .i64), (.int .i64), (.int .i64), .str, .bool, (.int .i64), (.lst [(.int .i64), (.int .i64)])]), (.int .i64)]), (.c (.int .i64))] 3
  (.ite (.cmp .neq (.v 6) (.ki .i64 0))
   (.ret [(.kb false)])
   (.loop [(.int .i64), (.lst [.str, .str, (.int .i64), (.int .i64), (.int .i64), (.int .i64), .str, .bool, (.int .i64), (.lst [(.int .i64), (.int .i64)])]), (.int .i64), .bool, (.int .i64), (.int .i64), (.int .i64), (.int .i64), (.int .i64)] [(.v 3), (.v 4), (.v 5), (.kb false), (.ki .i64 0), (.ki .i64 0), (.ki .i64 (-1)), (.ki .i64 0), (.ki .i64 0)]
    (.ite (.cmp .lss (.v 15) (.len (.v 1)))
     (.cal 27 [(.c (.int .i64))] [(.ar .add .i64 (.v 15) (.ki .i64 1))] [(.g [.str, .str, (.int .i64), (.int .i64), (.int .i64), (.int .i64), .str, .bool, (.int .i64), (.lst [(.int .i64), (.int .i64)])])] 16
      (.ev [(.ob (.cmp .geq (.v 15) (.ki .i64 0))), (.ob (.cmp .lss (.v 15) (.len (.v 1))))]
       (.join [.str, .str, (.int .i64), (.int .i64), (.int .i64), (.int .i64), .str, .bool, (.int .i64), (.lst [(.int .i64), (.int .i64)])]
        (.ite (.cmp .eql (.ar .add .i64 (.ki .i64 1) (.ar .rem .i64 (.conv .i64 (.get (.v 1) (.v 15))) (.ki .i64 3))) (.ki .i64 1))
         (.back 1 [(.v 16), (.v 17), (.v 18), (.ki .i64 0), (.ar .add .i64 (.ki .i64 1) (.ar .rem .i64 (.conv .i64 (.get (.v 1) (.v 15))) (.ki .i64 3))), (.v 21), (.ks ⟨List.toArray [65]⟩), (.v 23), (.v 24), (.v 25)])
         (.back 1 [(.v 16), (.v 17), (.v 18), (.v 19), (.ar .add .i64 (.ki .i64 1) (.ar .rem .i64 (.conv .i64 (.get (.v 1) (.v 15))) (.ki .i64 3))), (.v 21), (.v 22), (.v 23), (.v 24), (.v 25)]))
        (.join [.str, .str, (.int .i64), (.int .i64), (.int .i64), (.int .i64), .str, .bool, (.int .i64), (.lst [(.int .i64), (.int .i64)])]
         (.ite (.cmp .eql (.v 30) (.ki .i64 3))
          (.back 2 [(.v 26), (.v 27), (.v 28), (.v 29), (.v 30), (.v 31), (.v 32), (.v 33), (.ki .i64 1), (.v 35)])
          (.back 2 [(.v 26), (.v 27), (.v 28), (.v 29), (.v 30), (.v 31), (.v 32), (.v 33), (.v 34), (.v 35)]))
         (.cal 16 [(.g [(.int .i64), (.lst [.str, .str, (.int .i64), (.int .i64), (.int .i64), (.int .i64), .str, .bool, (.int .i64), (.lst [(.int .i64), (.int .i64)])]), (.int .i64)]), (.g [.str, .str, (.int .i64), (.int .i64), (.int .i64), (.int .i64), .str, .bool, (.int .i64), (.lst [(.int .i64), (.int .i64)])])] [(.rc (.cons (.v 7) (.cons (.v 8) (.cons (.v 9) .nil)))), (.rc (.cons (.v 36) (.cons (.v 37) (.cons (.v 38) (.cons (.v 39) (.cons (.v 40) (.cons (.v 41) (.cons (.v 42) (.cons (.v 43) (.cons (.v 44) (.cons (.v 45) .nil)))))))))))] [(.g [(.int .i64), (.lst [.str, .str, (.int .i64), (.int .i64), (.int .i64), (.int .i64), .str, .bool, (.int .i64), (.lst [(.int .i64), (.int .i64)])]), (.int .i64)]), (.c (.int .i64))] 46
          (.join [(.int .i64), (.int .i64)]
           (.ite (.cmp .eql (.v 49) (.ki .i64 0))
            (.ite (.cmp .neq (.v 40) (.ki .i64 2))
             (.back 3 [(.ar .add .i64 (.v 11) (.ki .i64 1)), (.ar .add .i64 (.v 14) (.ki .i64 1))])
             (.back 3 [(.ar .add .i64 (.v 11) (.ki .i64 1)), (.v 14)]))
            (.ite (.cmp .neq (.v 49) (.ki .i64 3))
             (.ret [(.kb false)])
             (.cal 15 [(.g [(.int .i64), (.lst [.str, .str, (.int .i64), (.int .i64), (.int .i64), (.int .i64), .str, .bool, (.int .i64), (.lst [(.int .i64), (.int .i64)])]), (.int .i64)]), (.g [(.int .i64), (.lst [.str, .str, (.int .i64), (.int .i64), (.int .i64), (.int .i64), .str, .bool, (.int .i64), (.lst [(.int .i64), (.int .i64)])]), (.int .i64)])] [(.rc (.cons (.v 46) (.cons (.v 47) (.cons (.v 48) .nil)))), (.rc (.cons (.v 7) (.cons (.v 8) (.cons (.v 9) .nil))))] [(.c .bool)] 50
              (.ite (.v 50)
               (.back 3 [(.v 11), (.v 14)])
               (.ret [(.kb false)])))))
           (.cal 18 [(.g [(.int .i64), (.lst [.str, .str, (.int .i64), (.int .i64), (.int .i64), (.int .i64), .str, .bool, (.int .i64), (.lst [(.int .i64), (.int .i64)])]), (.int .i64)])] [(.rc (.cons (.v 46) (.cons (.v 47) (.cons (.v 48) .nil))))] [(.g [.str, .str, (.int .i64), (.int .i64), (.int .i64), (.int .i64), .str, .bool, (.int .i64), (.lst [(.int .i64), (.int .i64)])]), (.c .bool)] 52
            (.ite (.v 62)
             (.join [(.int .i64), (.lst [.str, .str, (.int .i64), (.int .i64), (.int .i64), (.int .i64), .str, .bool, (.int .i64), (.lst [(.int .i64), (.int .i64)])]), (.int .i64), (.int .i64), (.int .i64), (.int .i64)]
              (.ite (.cmp .lss (.v 15) (.len (.v 2)))
               (.ev [(.ob (.cmp .geq (.v 15) (.ki .i64 0))), (.ob (.cmp .lss (.v 15) (.len (.v 2))))]
                (.ite (.get (.v 2) (.v 15))
                 (.ite (.cmp .leq (.v 57) (.v 13))
                  (.ret [(.kb false)])
                  (.join [(.int .i64)]
                   (.ite (.cmp .neq (.v 56) (.ki .i64 2))
                    (.back 5 [(.ar .sub .i64 (.v 51) (.ki .i64 1))])
                    (.back 5 [(.v 51)]))
                   (.cal 20 [(.g [(.int .i64), (.lst [.str, .str, (.int .i64), (.int .i64), (.int .i64), (.int .i64), .str, .bool, (.int .i64), (.lst [(.int .i64), (.int .i64)])]), (.int .i64)]), (.c .str), (.c (.int .i64))] [(.rc (.cons (.v 46) (.cons (.v 47) (.cons (.v 48) .nil)))), (.v 53), (.v 55)] [(.g [(.int .i64), (.lst [.str, .str, (.int .i64), (.int .i64), (.int .i64), (.int .i64), .str, .bool, (.int .i64), (.lst [(.int .i64), (.int .i64)])]), (.int .i64)]), (.c (.int .i64))] 64
                    (.ite (.cmp .neq (.v 67) (.ki .i64 0))
                     (.ret [(.kb false)])
                     (.back 4 [(.v 64), (.v 65), (.v 66), (.ar .add .i64 (.v 12) (.ki .i64 1)), (.v 57), (.v 63)])))))
                 (.back 4 [(.v 46), (.v 47), (.v 48), (.v 12), (.v 13), (.v 51)])))
               (.back 4 [(.v 46), (.v 47), (.v 48), (.v 12), (.v 13), (.v 51)]))
              (.loop [.bool, (.int .i64), (.int .i64)] [(.v 10), (.ki .i64 0), (.ki .i64 0)]
               (.ite (.cmp .lss (.v 71) (.len (.v 64)))
                (.join [(.int .i64)]
                 (.ev [(.ob (.cmp .geq (.v 71) (.ki .i64 0))), (.ob (.cmp .lss (.v 71) (.len (.v 64))))]
                  (.ite (.cmp .neq (.cell (.get (.v 64) (.v 71)) 4) (.ki .i64 2))
                   (.back 6 [(.ar .add .i64 (.v 70) (.ki .i64 1))])
                   (.back 6 [(.v 70)])))
                 (.ite (.cmp .gtr (.v 71) (.ki .i64 0))
                  (.ev [(.ob (.cmp .geq (.v 71) (.ki .i64 0))), (.ob (.cmp .lss (.v 71) (.len (.v 64)))), (.ob (.cmp .geq (.ar .sub .i64 (.v 71) (.ki .i64 1)) (.ki .i64 0))), (.ob (.cmp .lss (.ar .sub .i64 (.v 71) (.ki .i64 1)) (.len (.v 64))))]
                   (.ite (.cmp .leq (.cell (.get (.v 64) (.v 71)) 5) (.cell (.get (.v 64) (.ar .sub .i64 (.v 71) (.ki .i64 1))) 5))
                    (.ret [(.kb false)])
                    (.back 5 [(.v 69), (.v 72), (.ar .add .i64 (.v 71) (.ki .i64 1))])))
                  (.back 5 [(.v 69), (.v 72), (.ar .add .i64 (.v 71) (.ki .i64 1))])))
                (.ite (.cmp .neq (.v 70) (.v 68))
                 (.ret [(.kb false)])
                 (.ite (.cmp .neq (.v 50) (.ar .add .i64 (.ar .add .i64 (.v 66) (.v 65)) (.len (.v 64))))
                  (.ret [(.kb false)])
                  (.back 0 [(.v 63), (.v 64), (.v 65), (.v 69), (.v 50), (.v 66), (.v 67), (.v 68), (.ar .add .i64 (.v 15) (.ki .i64 1))]))))))
             (.ret [(.kb false)])))))))))
     (.cal 10 [] [] [(.c .bool)] 16
      (.ret [(.v 16)])))))))
def hdkp : List HdL := [{ kind := true, id := 8, nv := 7, tmps := [(.v (.c (.d (.int .u8) (.v 0)))), (.v (.c (.d (.lst [(.int .u8)]) (.v 1)))), (.v (.c (.d (.lst [.bool]) (.v 2)))), (.v (.c .any)), (.v (.c .any)), (.v (.c .any)), (.v (.c (.d .bool (.v 10)))), (.v (.c (.ptr 0 0))), (.v (.c (.d (.int .i64) (.v 6)))), (.v (.c (.d (.int .i64) (.v 11)))), (.v (.c (.d (.int .i64) (.v 12)))), (.v (.c (.d (.int .i64) (.v 13)))), (.v (.c (.d (.int .i64) (.v 14)))), (.v (.c (.d (.int .i64) (.v 15)))), (.v (.c .any)), (.v (.c .any)), (.v (.c .any)), (.v (.c .any)), (.v (.c .any)), (.v (.c .any)), (.v (.c .any)), (.v (.c .any)), (.v (.c .any)), (.v (.c (.d (.lst [(.int .u8)]) (.v 1)))), (.v (.c (.d (.int .i64) (.len (.v 1))))), (.v (.c (.d .bool (.cmp .gtr (.len (.v 1)) (.ki .i64 60))))), (.v (.c .any)), (.v (.c .any)), (.v (.c (.d (.int .u8) (.v 0)))), (.v (.c (.d (.int .i64) (.conv .i64 (.v 0))))), (.v (.c (.d (.int .i64) (.ar .rem .i64 (.conv .i64 (.v 0)) (.ki .i64 4))))), (.v (.c (.d (.int .i64) (.ar .add .i64 (.ki .i64 4) (.ar .rem .i64 (.conv .i64 (.v 0)) (.ki .i64 4)))))), (.v (.c .any)), (.v (.g [(.d (.int .i64) (.v 3)), (.d (.lst [.str, .str, (.int .i64), (.int .i64), (.int .i64), (.int .i64), .str, .bool, (.int .i64), (.lst [(.int .i64), (.int .i64)])]) (.v 4)), (.d (.int .i64) (.v 5))])), (.v (.c (.d (.int .i64) (.v 6)))), (.v (.c (.d (.int .i64) (.v 6)))), (.v (.c (.d .bool (.cmp .neq (.v 6) (.ki .i64 0))))), (.v (.c .any)), (.v (.c .any)), (.v (.c .any)), (.v (.c .any)), (.v (.c .any)), (.v (.c .any)), (.v (.c .any)), (.v (.c .any)), (.v (.c .any)), (.v (.c .any)), (.v (.c .any)), (.v (.c .any)), (.v (.c .any)), (.v (.c .any)), (.v (.c .any)), (.v (.c .any)), (.v (.c .any)), (.v (.c .any)), (.v (.c .any)), (.v (.c .any)), (.v (.c .any)), (.v (.c .any)), (.v (.c .any)), (.v (.c .any)), (.v (.c .any)), (.v (.c .any)), (.v (.c .any)), (.v (.c .any)), (.v (.c .any)), (.v (.c .any)), (.v (.c .any)), (.v (.c .any)), (.v (.c .any)), (.v (.c .any)), (.v (.c .any)), (.v (.c .any)), (.v (.c .any)), (.v (.c .any)), (.v (.c .any)), (.v (.c .any)), (.v (.c .any)), (.v (.c .any)), (.v (.c .any)), (.v (.c .any)), (.v (.c .any)), (.v (.c .any)), (.v (.c .any)), (.v (.c .any)), (.v (.c .any)), (.v (.c .any)), (.v (.c .any)), (.v (.c .any)), (.v (.c .any)), (.v (.c .any)), (.v (.c .any)), (.v (.c .any)), (.v (.c .any)), (.v (.c .any)), (.v (.c .any)), (.v (.c .any)), (.v (.c .any)), (.v (.c .any)), (.v (.c .any)), (.v (.c .any)), (.v (.c .any)), (.v (.c .any)), (.v (.c .any)), (.v (.c .any)), (.v (.c .any)), (.v (.c .any)), (.v (.c .any)), (.v (.c .any)), (.v (.c .any)), (.v (.c .any)), (.v (.c .any)), (.v (.c .any)), (.v (.c .any)), (.v (.c .any)), (.v (.c .any)), (.v (.c .any)), (.v (.c .any)), (.v (.c .any)), (.v (.c .any)), (.v (.c .any)), (.v (.c .any)), (.v (.c .any)), (.v (.c .any)), (.v (.c .any)), (.v (.c .any)), (.v (.c .any)), (.v (.c .any)), (.v (.c .any)), (.v (.c .any)), (.v (.c .any)), (.v (.c .any)), (.v (.c .any)), (.v (.c .any)), (.v (.c .any)), (.v (.c .any)), (.v (.c .any)), (.v (.c .any)), (.v (.c .any)), (.v (.c .any)), (.v (.c .any)), (.v (.c .any)), (.v (.c .any)), (.v (.c .any)), (.v (.c .any)), (.v (.c .any)), (.v (.c .any)), (.v (.c .any)), (.v (.c .any)), (.v (.c .any)), (.v (.c .any)), (.v (.c .any)), (.v (.c .any)), (.v (.c .any)), (.v (.c .any)), (.v (.c .any)), (.v (.c .any)), (.v (.c .any)), (.v (.c .any)), (.v (.c .any)), (.v (.c .any)), (.v (.c .any)), (.v (.c .any)), (.v (.c .any)), (.v (.c .any)), (.v (.c .any)), (.v (.c .any)), (.v (.c .any)), (.v (.c .any)), (.v (.c .any)), (.v (.c .any)), (.v (.c .any)), (.v (.c .any)), (.v (.c .any)), (.v (.c .any)), (.v (.c .any)), (.v (.c .any)), (.v (.c .any)), (.v (.c .any))], blks := [(.cells [(.d (.int .i64) (.v 7)), (.d (.lst [.str, .str, (.int .i64), (.int .i64), (.int .i64), (.int .i64), .str, .bool, (.int .i64), (.lst [(.int .i64), (.int .i64)])]) (.v 8)), (.d (.int .i64) (.v 9))])], shs := [(.int .i64), (.lst [.str, .str, (.int .i64), (.int .i64), (.int .i64), (.int .i64), .str, .bool, (.int .i64), (.lst [(.int .i64), (.int .i64)])]), (.int .i64), .bool, (.int .i64), (.int .i64), (.int .i64), (.int .i64), (.int .i64)], rs := [], bs := [], fz := [] },
{ kind := false, id := 14, nv := 26, tmps := [(.v (.c (.d (.int .u8) (.v 0)))), (.v (.c (.d (.lst [(.int .u8)]) (.v 1)))), (.v (.c (.d (.lst [.bool]) (.v 2)))), (.v (.c .any)), (.v (.c .any)), (.v (.c .any)), (.v (.c (.d .bool (.v 10)))), (.v (.c (.ptr 0 0))), (.v (.c (.d (.int .i64) (.v 6)))), (.v (.c (.d (.int .i64) (.v 11)))), (.v (.c (.d (.int .i64) (.v 12)))), (.v (.c (.d (.int .i64) (.v 13)))), (.v (.c (.d (.int .i64) (.v 14)))), (.v (.c (.d (.int .i64) (.v 15)))), (.v (.c (.ptr 1 0))), (.v (.c .any)), (.v (.c .any)), (.v (.c .any)), (.v (.c .any)), (.v (.c .any)), (.v (.c .any)), (.v (.c .any)), (.v (.c .any)), (.v (.c (.d (.lst [(.int .u8)]) (.v 1)))), (.v (.c (.d (.int .i64) (.len (.v 1))))), (.v (.c (.d .bool (.cmp .gtr (.len (.v 1)) (.ki .i64 60))))), (.v (.c .any)), (.v (.c .any)), (.v (.c (.d (.int .u8) (.v 0)))), (.v (.c (.d (.int .i64) (.conv .i64 (.v 0))))), (.v (.c (.d (.int .i64) (.ar .rem .i64 (.conv .i64 (.v 0)) (.ki .i64 4))))), (.v (.c (.d (.int .i64) (.ar .add .i64 (.ki .i64 4) (.ar .rem .i64 (.conv .i64 (.v 0)) (.ki .i64 4)))))), (.v (.c .any)), (.v (.g [(.d (.int .i64) (.v 3)), (.d (.lst [.str, .str, (.int .i64), (.int .i64), (.int .i64), (.int .i64), .str, .bool, (.int .i64), (.lst [(.int .i64), (.int .i64)])]) (.v 4)), (.d (.int .i64) (.v 5))])), (.v (.c (.d (.int .i64) (.v 6)))), (.v (.c (.d (.int .i64) (.v 6)))), (.v (.c (.d .bool (.cmp .neq (.v 6) (.ki .i64 0))))), (.v (.c (.d (.int .i64) (.v 15)))), (.v (.c (.d (.lst [(.int .u8)]) (.v 1)))), (.v (.c (.d (.int .i64) (.len (.v 1))))), (.v (.c (.d .bool (.cmp .lss (.v 15) (.len (.v 1)))))), (.v (.c .any)), (.v (.c .any)), (.v (.c (.d (.int .i64) (.v 15)))), (.v (.c (.d (.int .i64) (.ar .add .i64 (.v 15) (.ki .i64 1))))), (.v (.g [(.d .str (.v 16)), (.d .str (.v 17)), (.d (.int .i64) (.v 18)), (.d (.int .i64) (.v 19)), (.d (.int .i64) (.v 20)), (.d (.int .i64) (.v 21)), (.d .str (.v 22)), (.d .bool (.v 23)), (.d (.int .i64) (.v 24)), (.d (.lst [(.int .i64), (.int .i64)]) (.v 25))])), (.v (.c (.d (.lst [(.int .u8)]) (.v 1)))), (.v (.c (.d (.int .i64) (.v 15)))), (.v (.c (.elem [(.int .u8)] (.get (.v 1) (.v 15)) 0))), (.v (.c (.d (.int .u8) (.get (.v 1) (.v 15))))), (.v (.c (.d (.int .i64) (.conv .i64 (.get (.v 1) (.v 15)))))), (.v (.c (.d (.int .i64) (.ar .rem .i64 (.conv .i64 (.get (.v 1) (.v 15))) (.ki .i64 3))))), (.v (.c (.d (.int .i64) (.ar .add .i64 (.ki .i64 1) (.ar .rem .i64 (.conv .i64 (.get (.v 1) (.v 15))) (.ki .i64 3)))))), (.v (.c (.ptr 1 4))), (.v (.c .any)), (.v (.c .any)), (.v (.c .any)), (.v (.c .any)), (.v (.c .any)), (.v (.c .any)), (.v (.c .any)), (.v (.c .any)), (.v (.c .any)), (.v (.c .any)), (.v (.c .any)), (.v (.c .any)), (.v (.c .any)), (.v (.c .any)), (.v (.c .any)), (.v (.c .any)), (.v (.c .any)), (.v (.c .any)), (.v (.c .any)), (.v (.c .any)), (.v (.c .any)), (.v (.c .any)), (.v (.c .any)), (.v (.c .any)), (.v (.c .any)), (.v (.c .any)), (.v (.c .any)), (.v (.c .any)), (.v (.c .any)), (.v (.c .any)), (.v (.c .any)), (.v (.c .any)), (.v (.c .any)), (.v (.c .any)), (.v (.c .any)), (.v (.c .any)), (.v (.c .any)), (.v (.c .any)), (.v (.c .any)), (.v (.c .any)), (.v (.c .any)), (.v (.c .any)), (.v (.c .any)), (.v (.c .any)), (.v (.c .any)), (.v (.c .any)), (.v (.c .any)), (.v (.c .any)), (.v (.c .any)), (.v (.c .any)), (.v (.c .any)), (.v (.c .any)), (.v (.c .any)), (.v (.c .any)), (.v (.c .any)), (.v (.c .any)), (.v (.c .any)), (.v (.c .any)), (.v (.c .any)), (.v (.c .any)), (.v (.c .any)), (.v (.c .any)), (.v (.c .any)), (.v (.c .any)), (.v (.c .any)), (.v (.c .any)), (.v (.c .any)), (.v (.c .any)), (.v (.c .any)), (.v (.c .any)), (.v (.c .any)), (.v (.c .any)), (.v (.c .any)), (.v (.c .any)), (.v (.c .any)), (.v (.c .any)), (.v (.c .any)), (.v (.c .any)), (.v (.c .any)), (.v (.c .any)), (.v (.c .any)), (.v (.c .any)), (.v (.c .any)), (.v (.c .any)), (.v (.c .any)), (.v (.c .any)), (.v (.c .any)), (.v (.c .any)), (.v (.c .any)), (.v (.c .any)), (.v (.c .any)), (.v (.c .any)), (.v (.c .any)), (.v (.c .any)), (.v (.c .any)), (.v (.c .any)), (.v (.c .any)), (.v (.c .any)), (.v (.c .any)), (.v (.c .any)), (.v (.c .any)), (.v (.c .any)), (.v (.c .any)), (.v (.c .any)), (.v (.c .any)), (.v (.c .any)), (.v (.c .any)), (.v (.c .any)), (.v (.c .any)), (.v (.c .any)), (.v (.c .any)), (.v (.c .any)), (.v (.c .any)), (.v (.c .any)), (.v (.c .any)), (.v (.c .any)), (.v (.c .any)), (.v (.c .any)), (.v (.c .any)), (.v (.c .any)), (.v (.c .any)), (.v (.c .any)), (.v (.c .any)), (.v (.c .any)), (.v (.c .any))], blks := [(.cells [(.d (.int .i64) (.v 7)), (.d (.lst [.str, .str, (.int .i64), (.int .i64), (.int .i64), (.int .i64), .str, .bool, (.int .i64), (.lst [(.int .i64), (.int .i64)])]) (.v 8)), (.d (.int .i64) (.v 9))]), (.cells [(.d .str (.v 26)), (.d .str (.v 27)), (.d (.int .i64) (.v 28)), (.d (.int .i64) (.v 29)), (.d (.int .i64) (.v 30)), (.d (.int .i64) (.v 31)), (.d .str (.v 32)), (.d .bool (.v 33)), (.d (.int .i64) (.v 34)), (.d (.lst [(.int .i64), (.int .i64)]) (.v 35))])], shs := [.str, .str, (.int .i64), (.int .i64), (.int .i64), (.int .i64), .str, .bool, (.int .i64), (.lst [(.int .i64), (.int .i64)])], rs := [], bs := [], fz := [] },
{ kind := false, id := 16, nv := 36, tmps := [(.v (.c (.d (.int .u8) (.v 0)))), (.v (.c (.d (.lst [(.int .u8)]) (.v 1)))), (.v (.c (.d (.lst [.bool]) (.v 2)))), (.v (.c .any)), (.v (.c .any)), (.v (.c .any)), (.v (.c (.d .bool (.v 10)))), (.v (.c (.ptr 0 0))), (.v (.c (.d (.int .i64) (.v 6)))), (.v (.c (.d (.int .i64) (.v 11)))), (.v (.c (.d (.int .i64) (.v 12)))), (.v (.c (.d (.int .i64) (.v 13)))), (.v (.c (.d (.int .i64) (.v 14)))), (.v (.c (.d (.int .i64) (.v 15)))), (.v (.c (.ptr 1 0))), (.v (.c .any)), (.v (.c .any)), (.v (.c .any)), (.v (.c .any)), (.v (.c .any)), (.v (.c .any)), (.v (.c .any)), (.v (.c .any)), (.v (.c (.d (.lst [(.int .u8)]) (.v 1)))), (.v (.c (.d (.int .i64) (.len (.v 1))))), (.v (.c (.d .bool (.cmp .gtr (.len (.v 1)) (.ki .i64 60))))), (.v (.c .any)), (.v (.c .any)), (.v (.c (.d (.int .u8) (.v 0)))), (.v (.c (.d (.int .i64) (.conv .i64 (.v 0))))), (.v (.c (.d (.int .i64) (.ar .rem .i64 (.conv .i64 (.v 0)) (.ki .i64 4))))), (.v (.c (.d (.int .i64) (.ar .add .i64 (.ki .i64 4) (.ar .rem .i64 (.conv .i64 (.v 0)) (.ki .i64 4)))))), (.v (.c .any)), (.v (.g [(.d (.int .i64) (.v 3)), (.d (.lst [.str, .str, (.int .i64), (.int .i64), (.int .i64), (.int .i64), .str, .bool, (.int .i64), (.lst [(.int .i64), (.int .i64)])]) (.v 4)), (.d (.int .i64) (.v 5))])), (.v (.c (.d (.int .i64) (.v 6)))), (.v (.c (.d (.int .i64) (.v 6)))), (.v (.c (.d .bool (.cmp .neq (.v 6) (.ki .i64 0))))), (.v (.c (.d (.int .i64) (.v 15)))), (.v (.c (.d (.lst [(.int .u8)]) (.v 1)))), (.v (.c (.d (.int .i64) (.len (.v 1))))), (.v (.c (.d .bool (.cmp .lss (.v 15) (.len (.v 1)))))), (.v (.c .any)), (.v (.c .any)), (.v (.c (.d (.int .i64) (.v 15)))), (.v (.c (.d (.int .i64) (.ar .add .i64 (.v 15) (.ki .i64 1))))), (.v (.g [(.d .str (.v 16)), (.d .str (.v 17)), (.d (.int .i64) (.v 18)), (.d (.int .i64) (.v 19)), (.d (.int .i64) (.v 20)), (.d (.int .i64) (.v 21)), (.d .str (.v 22)), (.d .bool (.v 23)), (.d (.int .i64) (.v 24)), (.d (.lst [(.int .i64), (.int .i64)]) (.v 25))])), (.v (.c (.d (.lst [(.int .u8)]) (.v 1)))), (.v (.c (.d (.int .i64) (.v 15)))), (.v (.c (.elem [(.int .u8)] (.get (.v 1) (.v 15)) 0))), (.v (.c (.d (.int .u8) (.get (.v 1) (.v 15))))), (.v (.c (.d (.int .i64) (.conv .i64 (.get (.v 1) (.v 15)))))), (.v (.c (.d (.int .i64) (.ar .rem .i64 (.conv .i64 (.get (.v 1) (.v 15))) (.ki .i64 3))))), (.v (.c (.d (.int .i64) (.ar .add .i64 (.ki .i64 1) (.ar .rem .i64 (.conv .i64 (.get (.v 1) (.v 15))) (.ki .i64 3)))))), (.v (.c (.ptr 1 4))), (.v (.c .any)), (.v (.c .any)), (.v (.c .any)), (.v (.c .any)), (.v (.c .any)), (.v (.c .any)), (.v (.c .any)), (.v (.c .any)), (.v (.c .any)), (.v (.c .any)), (.v (.c .any)), (.v (.c .any)), (.v (.c .any)), (.v (.c .any)), (.v (.c .any)), (.v (.c .any)), (.v (.c .any)), (.v (.c .any)), (.v (.c .any)), (.v (.c .any)), (.v (.c .any)), (.v (.c .any)), (.v (.c .any)), (.v (.c .any)), (.v (.c .any)), (.v (.c .any)), (.v (.c .any)), (.v (.c .any)), (.v (.c .any)), (.v (.c .any)), (.v (.c .any)), (.v (.c .any)), (.v (.c .any)), (.v (.c .any)), (.v (.c .any)), (.v (.c .any)), (.v (.c .any)), (.v (.c .any)), (.v (.c .any)), (.v (.c .any)), (.v (.c .any)), (.v (.c .any)), (.v (.c .any)), (.v (.c .any)), (.v (.c .any)), (.v (.c .any)), (.v (.c .any)), (.v (.c .any)), (.v (.c .any)), (.v (.c .any)), (.v (.c .any)), (.v (.c .any)), (.v (.c .any)), (.v (.c .any)), (.v (.c .any)), (.v (.c .any)), (.v (.c .any)), (.v (.c .any)), (.v (.c .any)), (.v (.c .any)), (.v (.c .any)), (.v (.c .any)), (.v (.c .any)), (.v (.c .any)), (.v (.c .any)), (.v (.c .any)), (.v (.c .any)), (.v (.c .any)), (.v (.c .any)), (.v (.c .any)), (.v (.c .any)), (.v (.c .any)), (.v (.c .any)), (.v (.c .any)), (.v (.c .any)), (.v (.c .any)), (.v (.c .any)), (.v (.c .any)), (.v (.c .any)), (.v (.c .any)), (.v (.c .any)), (.v (.c .any)), (.v (.c .any)), (.v (.c .any)), (.v (.c .any)), (.v (.c .any)), (.v (.c .any)), (.v (.c .any)), (.v (.c .any)), (.v (.c .any)), (.v (.c .any)), (.v (.c .any)), (.v (.c .any)), (.v (.c .any)), (.v (.c .any)), (.v (.c .any)), (.v (.c .any)), (.v (.c .any)), (.v (.c .any)), (.v (.c .any)), (.v (.c .any)), (.v (.c .any)), (.v (.c .any)), (.v (.c .any)), (.v (.c .any)), (.v (.c .any)), (.v (.c .any)), (.v (.c .any)), (.v (.c .any)), (.v (.c .any)), (.v (.c .any)), (.v (.c .any)), (.v (.c .any)), (.v (.c .any)), (.v (.c .any)), (.v (.c .any)), (.v (.c .any)), (.v (.c .any)), (.v (.c .any)), (.v (.c .any)), (.v (.c .any)), (.v (.c .any)), (.v (.c .any)), (.v (.c .any)), (.v (.c .any))], blks := [(.cells [(.d (.int .i64) (.v 7)), (.d (.lst [.str, .str, (.int .i64), (.int .i64), (.int .i64), (.int .i64), .str, .bool, (.int .i64), (.lst [(.int .i64), (.int .i64)])]) (.v 8)), (.d (.int .i64) (.v 9))]), (.cells [(.d .str (.v 36)), (.d .str (.v 37)), (.d (.int .i64) (.v 38)), (.d (.int .i64) (.v 39)), (.d (.int .i64) (.v 40)), (.d (.int .i64) (.v 41)), (.d .str (.v 42)), (.d .bool (.v 43)), (.d (.int .i64) (.v 44)), (.d (.lst [(.int .i64), (.int .i64)]) (.v 45))])], shs := [.str, .str, (.int .i64), (.int .i64), (.int .i64), (.int .i64), .str, .bool, (.int .i64), (.lst [(.int .i64), (.int .i64)])], rs := [], bs := [], fz := [] },
{ kind := false, id := 23, nv := 50, tmps := [(.v (.c (.d (.int .u8) (.v 0)))), (.v (.c (.d (.lst [(.int .u8)]) (.v 1)))), (.v (.c (.d (.lst [.bool]) (.v 2)))), (.v (.c .any)), (.v (.c .any)), (.v (.c .any)), (.v (.c (.d .bool (.v 10)))), (.v (.c (.ptr 0 0))), (.v (.c (.d (.int .i64) (.v 6)))), (.v (.c (.d (.int .i64) (.v 50)))), (.v (.c (.d (.int .i64) (.v 12)))), (.v (.c (.d (.int .i64) (.v 13)))), (.v (.c (.d (.int .i64) (.v 51)))), (.v (.c (.d (.int .i64) (.v 15)))), (.v (.c (.ptr 1 0))), (.v (.c (.ptr 2 0))), (.v (.c (.d (.int .i64) (.v 49)))), (.v (.c .any)), (.v (.c .any)), (.v (.c .any)), (.v (.c .any)), (.v (.c .any)), (.v (.c .any)), (.v (.c (.d (.lst [(.int .u8)]) (.v 1)))), (.v (.c (.d (.int .i64) (.len (.v 1))))), (.v (.c (.d .bool (.cmp .gtr (.len (.v 1)) (.ki .i64 60))))), (.v (.c .any)), (.v (.c .any)), (.v (.c (.d (.int .u8) (.v 0)))), (.v (.c (.d (.int .i64) (.conv .i64 (.v 0))))), (.v (.c (.d (.int .i64) (.ar .rem .i64 (.conv .i64 (.v 0)) (.ki .i64 4))))), (.v (.c (.d (.int .i64) (.ar .add .i64 (.ki .i64 4) (.ar .rem .i64 (.conv .i64 (.v 0)) (.ki .i64 4)))))), (.v (.c .any)), (.v (.g [(.d (.int .i64) (.v 3)), (.d (.lst [.str, .str, (.int .i64), (.int .i64), (.int .i64), (.int .i64), .str, .bool, (.int .i64), (.lst [(.int .i64), (.int .i64)])]) (.v 4)), (.d (.int .i64) (.v 5))])), (.v (.c (.d (.int .i64) (.v 6)))), (.v (.c (.d (.int .i64) (.v 6)))), (.v (.c (.d .bool (.cmp .neq (.v 6) (.ki .i64 0))))), (.v (.c (.d (.int .i64) (.v 15)))), (.v (.c (.d (.lst [(.int .u8)]) (.v 1)))), (.v (.c (.d (.int .i64) (.len (.v 1))))), (.v (.c (.d .bool (.cmp .lss (.v 15) (.len (.v 1)))))), (.v (.c .any)), (.v (.c .any)), (.v (.c (.d (.int .i64) (.v 15)))), (.v (.c (.d (.int .i64) (.ar .add .i64 (.v 15) (.ki .i64 1))))), (.v (.g [(.d .str (.v 16)), (.d .str (.v 17)), (.d (.int .i64) (.v 18)), (.d (.int .i64) (.v 19)), (.d (.int .i64) (.v 20)), (.d (.int .i64) (.v 21)), (.d .str (.v 22)), (.d .bool (.v 23)), (.d (.int .i64) (.v 24)), (.d (.lst [(.int .i64), (.int .i64)]) (.v 25))])), (.v (.c (.d (.lst [(.int .u8)]) (.v 1)))), (.v (.c (.d (.int .i64) (.v 15)))), (.v (.c (.elem [(.int .u8)] (.get (.v 1) (.v 15)) 0))), (.v (.c (.d (.int .u8) (.get (.v 1) (.v 15))))), (.v (.c (.d (.int .i64) (.conv .i64 (.get (.v 1) (.v 15)))))), (.v (.c (.d (.int .i64) (.ar .rem .i64 (.conv .i64 (.get (.v 1) (.v 15))) (.ki .i64 3))))), (.v (.c (.d (.int .i64) (.ar .add .i64 (.ki .i64 1) (.ar .rem .i64 (.conv .i64 (.get (.v 1) (.v 15))) (.ki .i64 3)))))), (.v (.c (.ptr 1 4))), (.v (.c .any)), (.v (.c .any)), (.v (.c .any)), (.v (.c .any)), (.v (.c .any)), (.v (.c .any)), (.v (.c .any)), (.v (.c .any)), (.v (.c .any)), (.v (.c .any)), (.v (.g [(.d (.int .i64) (.v 7)), (.d (.lst [.str, .str, (.int .i64), (.int .i64), (.int .i64), (.int .i64), .str, .bool, (.int .i64), (.lst [(.int .i64), (.int .i64)])]) (.v 8)), (.d (.int .i64) (.v 9))])), (.v (.g [(.d .str (.v 36)), (.d .str (.v 37)), (.d (.int .i64) (.v 38)), (.d (.int .i64) (.v 39)), (.d (.int .i64) (.v 40)), (.d (.int .i64) (.v 41)), (.d .str (.v 42)), (.d .bool (.v 43)), (.d (.int .i64) (.v 44)), (.d (.lst [(.int .i64), (.int .i64)]) (.v 45))])), (.v (.c .any)), (.v (.g [(.d (.int .i64) (.v 46)), (.d (.lst [.str, .str, (.int .i64), (.int .i64), (.int .i64), (.int .i64), .str, .bool, (.int .i64), (.lst [(.int .i64), (.int .i64)])]) (.v 47)), (.d (.int .i64) (.v 48))])), (.v (.c (.d (.int .i64) (.v 49)))), (.v (.c .any)), (.v (.c .any)), (.v (.c .any)), (.v (.c .any)), (.v (.c .any)), (.v (.c .any)), (.v (.c .any)), (.v (.c .any)), (.v (.c .any)), (.v (.c .any)), (.v (.c .any)), (.v (.c .any)), (.v (.c .any)), (.v (.c .any)), (.v (.c .any)), (.v (.c .any)), (.v (.c .any)), (.v (.c .any)), (.v (.c .any)), (.v (.c .any)), (.v (.c .any)), (.v (.c .any)), (.v (.c .any)), (.v (.c .any)), (.v (.c .any)), (.v (.c .any)), (.v (.c .any)), (.v (.c .any)), (.v (.c .any)), (.v (.c .any)), (.v (.c .any)), (.v (.c .any)), (.v (.c .any)), (.v (.c .any)), (.v (.c .any)), (.v (.c .any)), (.v (.c .any)), (.v (.c .any)), (.v (.c .any)), (.v (.c .any)), (.v (.c .any)), (.v (.c .any)), (.v (.c .any)), (.v (.c .any)), (.v (.c .any)), (.v (.c .any)), (.v (.c .any)), (.v (.c .any)), (.v (.c .any)), (.v (.c .any)), (.v (.c .any)), (.v (.c .any)), (.v (.c .any)), (.v (.c .any)), (.v (.c .any)), (.v (.c .any)), (.v (.c .any)), (.v (.c .any)), (.v (.c .any)), (.v (.c .any)), (.v (.c .any)), (.v (.c .any)), (.v (.c .any)), (.v (.c .any)), (.v (.c .any)), (.v (.c .any)), (.v (.c .any)), (.v (.c .any)), (.v (.c .any)), (.v (.c .any)), (.v (.c .any)), (.v (.c .any)), (.v (.c .any)), (.v (.c .any)), (.v (.c .any)), (.v (.c .any)), (.v (.c .any)), (.v (.c .any)), (.v (.c .any)), (.v (.c .any)), (.v (.c .any)), (.v (.c .any)), (.v (.c .any)), (.v (.c .any)), (.v (.c .any)), (.v (.c .any)), (.v (.c .any)), (.v (.c .any)), (.v (.c .any)), (.v (.c .any)), (.v (.c .any)), (.v (.c .any)), (.v (.c .any)), (.v (.c .any)), (.v (.c .any)), (.v (.c .any)), (.v (.c .any)), (.v (.c .any)), (.v (.c .any)), (.v (.c .any)), (.v (.c .any)), (.v (.c .any)), (.v (.c .any)), (.v (.c .any)), (.v (.c .any)), (.v (.c .any)), (.v (.c .any)), (.v (.c .any)), (.v (.c .any)), (.v (.c .any))], blks := [(.cells [(.d (.int .i64) (.v 7)), (.d (.lst [.str, .str, (.int .i64), (.int .i64), (.int .i64), (.int .i64), .str, .bool, (.int .i64), (.lst [(.int .i64), (.int .i64)])]) (.v 8)), (.d (.int .i64) (.v 9))]), (.cells [(.d .str (.v 36)), (.d .str (.v 37)), (.d (.int .i64) (.v 38)), (.d (.int .i64) (.v 39)), (.d (.int .i64) (.v 40)), (.d (.int .i64) (.v 41)), (.d .str (.v 42)), (.d .bool (.v 43)), (.d (.int .i64) (.v 44)), (.d (.lst [(.int .i64), (.int .i64)]) (.v 45))]), (.cells [(.d (.int .i64) (.v 46)), (.d (.lst [.str, .str, (.int .i64), (.int .i64), (.int .i64), (.int .i64), .str, .bool, (.int .i64), (.lst [(.int .i64), (.int .i64)])]) (.v 47)), (.d (.int .i64) (.v 48))])], shs := [(.int .i64), (.int .i64)], rs := [], bs := [], fz := [] },
{ kind := false, id := 37, nv := 63, tmps := [(.v (.c (.d (.int .u8) (.v 0)))), (.v (.c (.d (.lst [(.int .u8)]) (.v 1)))), (.v (.c (.d (.lst [.bool]) (.v 2)))), (.v (.c .any)), (.v (.c .any)), (.v (.c .any)), (.v (.c (.d .bool (.v 10)))), (.v (.c (.ptr 0 0))), (.v (.c (.d (.int .i64) (.v 6)))), (.v (.c (.d (.int .i64) (.v 50)))), (.v (.c (.d (.int .i64) (.v 66)))), (.v (.c (.d (.int .i64) (.v 67)))), (.v (.c (.d (.int .i64) (.v 68)))), (.v (.c (.d (.int .i64) (.v 15)))), (.v (.c (.ptr 1 0))), (.v (.c (.ptr 2 0))), (.v (.c (.d (.int .i64) (.v 49)))), (.v (.c (.ptr 3 0))), (.v (.c (.d .bool (.v 62)))), (.v (.c .any)), (.v (.c .any)), (.v (.c .any)), (.v (.c .any)), (.v (.c (.d (.lst [(.int .u8)]) (.v 1)))), (.v (.c (.d (.int .i64) (.len (.v 1))))), (.v (.c (.d .bool (.cmp .gtr (.len (.v 1)) (.ki .i64 60))))), (.v (.c .any)), (.v (.c .any)), (.v (.c (.d (.int .u8) (.v 0)))), (.v (.c (.d (.int .i64) (.conv .i64 (.v 0))))), (.v (.c (.d (.int .i64) (.ar .rem .i64 (.conv .i64 (.v 0)) (.ki .i64 4))))), (.v (.c (.d (.int .i64) (.ar .add .i64 (.ki .i64 4) (.ar .rem .i64 (.conv .i64 (.v 0)) (.ki .i64 4)))))), (.v (.c .any)), (.v (.g [(.d (.int .i64) (.v 3)), (.d (.lst [.str, .str, (.int .i64), (.int .i64), (.int .i64), (.int .i64), .str, .bool, (.int .i64), (.lst [(.int .i64), (.int .i64)])]) (.v 4)), (.d (.int .i64) (.v 5))])), (.v (.c (.d (.int .i64) (.v 6)))), (.v (.c (.d (.int .i64) (.v 6)))), (.v (.c (.d .bool (.cmp .neq (.v 6) (.ki .i64 0))))), (.v (.c (.d (.int .i64) (.v 15)))), (.v (.c (.d (.lst [(.int .u8)]) (.v 1)))), (.v (.c (.d (.int .i64) (.len (.v 1))))), (.v (.c (.d .bool (.cmp .lss (.v 15) (.len (.v 1)))))), (.v (.c .any)), (.v (.c .any)), (.v (.c (.d (.int .i64) (.v 15)))), (.v (.c (.d (.int .i64) (.ar .add .i64 (.v 15) (.ki .i64 1))))), (.v (.g [(.d .str (.v 16)), (.d .str (.v 17)), (.d (.int .i64) (.v 18)), (.d (.int .i64) (.v 19)), (.d (.int .i64) (.v 20)), (.d (.int .i64) (.v 21)), (.d .str (.v 22)), (.d .bool (.v 23)), (.d (.int .i64) (.v 24)), (.d (.lst [(.int .i64), (.int .i64)]) (.v 25))])), (.v (.c (.d (.lst [(.int .u8)]) (.v 1)))), (.v (.c (.d (.int .i64) (.v 15)))), (.v (.c (.elem [(.int .u8)] (.get (.v 1) (.v 15)) 0))), (.v (.c (.d (.int .u8) (.get (.v 1) (.v 15))))), (.v (.c (.d (.int .i64) (.conv .i64 (.get (.v 1) (.v 15)))))), (.v (.c (.d (.int .i64) (.ar .rem .i64 (.conv .i64 (.get (.v 1) (.v 15))) (.ki .i64 3))))), (.v (.c (.d (.int .i64) (.ar .add .i64 (.ki .i64 1) (.ar .rem .i64 (.conv .i64 (.get (.v 1) (.v 15))) (.ki .i64 3)))))), (.v (.c (.ptr 1 4))), (.v (.c .any)), (.v (.c .any)), (.v (.c .any)), (.v (.c .any)), (.v (.c .any)), (.v (.c .any)), (.v (.c .any)), (.v (.c .any)), (.v (.c .any)), (.v (.c .any)), (.v (.g [(.d (.int .i64) (.v 7)), (.d (.lst [.str, .str, (.int .i64), (.int .i64), (.int .i64), (.int .i64), .str, .bool, (.int .i64), (.lst [(.int .i64), (.int .i64)])]) (.v 8)), (.d (.int .i64) (.v 9))])), (.v (.g [(.d .str (.v 36)), (.d .str (.v 37)), (.d (.int .i64) (.v 38)), (.d (.int .i64) (.v 39)), (.d (.int .i64) (.v 40)), (.d (.int .i64) (.v 41)), (.d .str (.v 42)), (.d .bool (.v 43)), (.d (.int .i64) (.v 44)), (.d (.lst [(.int .i64), (.int .i64)]) (.v 45))])), (.v (.c .any)), (.v (.g [(.d (.int .i64) (.v 46)), (.d (.lst [.str, .str, (.int .i64), (.int .i64), (.int .i64), (.int .i64), .str, .bool, (.int .i64), (.lst [(.int .i64), (.int .i64)])]) (.v 47)), (.d (.int .i64) (.v 48))])), (.v (.c (.d (.int .i64) (.v 49)))), (.v (.c .any)), (.v (.c .any)), (.v (.c .any)), (.v (.c .any)), (.v (.c .any)), (.v (.c .any)), (.v (.c .any)), (.v (.c .any)), (.v (.c .any)), (.v (.c .any)), (.v (.c .any)), (.v (.c .any)), (.v (.c .any)), (.v (.c .any)), (.v (.c .any)), (.v (.c .any)), (.v (.c .any)), (.v (.g [(.d (.int .i64) (.v 46)), (.d (.lst [.str, .str, (.int .i64), (.int .i64), (.int .i64), (.int .i64), .str, .bool, (.int .i64), (.lst [(.int .i64), (.int .i64)])]) (.v 47)), (.d (.int .i64) (.v 48))])), (.v (.c .any)), (.v (.g [(.d (.int .i64) (.v 46)), (.d (.lst [.str, .str, (.int .i64), (.int .i64), (.int .i64), (.int .i64), .str, .bool, (.int .i64), (.lst [(.int .i64), (.int .i64)])]) (.v 47)), (.d (.int .i64) (.v 48))])), (.v (.c .any)), (.v (.g [(.d .str (.v 52)), (.d .str (.v 53)), (.d (.int .i64) (.v 54)), (.d (.int .i64) (.v 55)), (.d (.int .i64) (.v 56)), (.d (.int .i64) (.v 57)), (.d .str (.v 58)), (.d .bool (.v 59)), (.d (.int .i64) (.v 60)), (.d (.lst [(.int .i64), (.int .i64)]) (.v 61))])), (.v (.c (.d .bool (.v 62)))), (.v (.c (.d .bool (.v 62)))), (.v (.c (.d .bool (.not (.v 62))))), (.v (.c .any)), (.v (.c .any)), (.v (.c .any)), (.v (.c .any)), (.v (.c .any)), (.v (.c .any)), (.v (.c .any)), (.v (.c .any)), (.v (.c .any)), (.v (.c .any)), (.v (.c .any)), (.v (.c .any)), (.v (.c .any)), (.v (.c .any)), (.v (.c .any)), (.v (.c .any)), (.v (.c .any)), (.v (.c .any)), (.v (.c .any)), (.v (.c .any)), (.v (.c .any)), (.v (.c .any)), (.v (.c .any)), (.v (.c .any)), (.v (.c .any)), (.v (.c .any)), (.v (.c .any)), (.v (.c .any)), (.v (.c .any)), (.v (.c .any)), (.v (.c .any)), (.v (.c .any)), (.v (.c .any)), (.v (.c .any)), (.v (.c .any)), (.v (.c .any)), (.v (.c .any)), (.v (.c .any)), (.v (.c .any)), (.v (.c .any)), (.v (.c .any)), (.v (.c .any)), (.v (.c .any)), (.v (.c .any)), (.v (.c .any)), (.v (.c .any)), (.v (.c .any)), (.v (.c .any)), (.v (.c .any)), (.v (.c .any)), (.v (.c .any)), (.v (.c .any)), (.v (.c .any)), (.v (.c .any)), (.v (.c .any)), (.v (.c .any)), (.v (.c .any)), (.v (.c .any)), (.v (.c .any)), (.v (.c .any)), (.v (.c .any)), (.v (.c .any)), (.v (.c .any)), (.v (.c .any)), (.v (.c .any)), (.v (.c .any)), (.v (.c .any)), (.v (.c .any)), (.v (.c .any)), (.v (.c .any)), (.v (.c .any)), (.v (.c .any)), (.v (.c .any)), (.v (.c .any)), (.v (.c .any)), (.v (.c .any)), (.v (.c .any)), (.v (.c .any)), (.v (.c .any)), (.v (.c .any)), (.v (.c .any)), (.v (.c .any)), (.v (.c .any)), (.v (.c .any)), (.v (.c .any))], blks := [(.cells [(.d (.int .i64) (.v 63)), (.d (.lst [.str, .str, (.int .i64), (.int .i64), (.int .i64), (.int .i64), .str, .bool, (.int .i64), (.lst [(.int .i64), (.int .i64)])]) (.v 64)), (.d (.int .i64) (.v 65))]), (.cells [(.d .str (.v 36)), (.d .str (.v 37)), (.d (.int .i64) (.v 38)), (.d (.int .i64) (.v 39)), (.d (.int .i64) (.v 40)), (.d (.int .i64) (.v 41)), (.d .str (.v 42)), (.d .bool (.v 43)), (.d (.int .i64) (.v 44)), (.d (.lst [(.int .i64), (.int .i64)]) (.v 45))]), (.cells [(.d (.int .i64) (.v 46)), (.d (.lst [.str, .str, (.int .i64), (.int .i64), (.int .i64), (.int .i64), .str, .bool, (.int .i64), (.lst [(.int .i64), (.int .i64)])]) (.v 47)), (.d (.int .i64) (.v 48))]), (.cells [(.d .str (.v 52)), (.d .str (.v 53)), (.d (.int .i64) (.v 54)), (.d (.int .i64) (.v 55)), (.d (.int .i64) (.v 56)), (.d (.int .i64) (.v 57)), (.d .str (.v 58)), (.d .bool (.v 59)), (.d (.int .i64) (.v 60)), (.d (.lst [(.int .i64), (.int .i64)]) (.v 61))])], shs := [(.int .i64), (.lst [.str, .str, (.int .i64), (.int .i64), (.int .i64), (.int .i64), .str, .bool, (.int .i64), (.lst [(.int .i64), (.int .i64)])]), (.int .i64), (.int .i64), (.int .i64), (.int .i64)], rs := [], bs := [], fz := [] },
{ kind := false, id := 33, nv := 63, tmps := [(.v (.c (.d (.int .u8) (.v 0)))), (.v (.c (.d (.lst [(.int .u8)]) (.v 1)))), (.v (.c (.d (.lst [.bool]) (.v 2)))), (.v (.c .any)), (.v (.c .any)), (.v (.c .any)), (.v (.c (.d .bool (.v 10)))), (.v (.c (.ptr 0 0))), (.v (.c (.d (.int .i64) (.v 6)))), (.v (.c (.d (.int .i64) (.v 50)))), (.v (.c (.d (.int .i64) (.ar .add .i64 (.v 12) (.ki .i64 1))))), (.v (.c (.d (.int .i64) (.v 57)))), (.v (.c (.d (.int .i64) (.v 63)))), (.v (.c (.d (.int .i64) (.v 15)))), (.v (.c (.ptr 1 0))), (.v (.c (.ptr 2 0))), (.v (.c (.d (.int .i64) (.v 49)))), (.v (.c (.ptr 3 0))), (.v (.c (.d .bool (.v 62)))), (.v (.c .any)), (.v (.c .any)), (.v (.c .any)), (.v (.c .any)), (.v (.c (.d (.lst [(.int .u8)]) (.v 1)))), (.v (.c (.d (.int .i64) (.len (.v 1))))), (.v (.c (.d .bool (.cmp .gtr (.len (.v 1)) (.ki .i64 60))))), (.v (.c .any)), (.v (.c .any)), (.v (.c (.d (.int .u8) (.v 0)))), (.v (.c (.d (.int .i64) (.conv .i64 (.v 0))))), (.v (.c (.d (.int .i64) (.ar .rem .i64 (.conv .i64 (.v 0)) (.ki .i64 4))))), (.v (.c (.d (.int .i64) (.ar .add .i64 (.ki .i64 4) (.ar .rem .i64 (.conv .i64 (.v 0)) (.ki .i64 4)))))), (.v (.c .any)), (.v (.g [(.d (.int .i64) (.v 3)), (.d (.lst [.str, .str, (.int .i64), (.int .i64), (.int .i64), (.int .i64), .str, .bool, (.int .i64), (.lst [(.int .i64), (.int .i64)])]) (.v 4)), (.d (.int .i64) (.v 5))])), (.v (.c (.d (.int .i64) (.v 6)))), (.v (.c (.d (.int .i64) (.v 6)))), (.v (.c (.d .bool (.cmp .neq (.v 6) (.ki .i64 0))))), (.v (.c (.d (.int .i64) (.v 15)))), (.v (.c (.d (.lst [(.int .u8)]) (.v 1)))), (.v (.c (.d (.int .i64) (.len (.v 1))))), (.v (.c (.d .bool (.cmp .lss (.v 15) (.len (.v 1)))))), (.v (.c .any)), (.v (.c .any)), (.v (.c (.d (.int .i64) (.v 15)))), (.v (.c (.d (.int .i64) (.ar .add .i64 (.v 15) (.ki .i64 1))))), (.v (.g [(.d .str (.v 16)), (.d .str (.v 17)), (.d (.int .i64) (.v 18)), (.d (.int .i64) (.v 19)), (.d (.int .i64) (.v 20)), (.d (.int .i64) (.v 21)), (.d .str (.v 22)), (.d .bool (.v 23)), (.d (.int .i64) (.v 24)), (.d (.lst [(.int .i64), (.int .i64)]) (.v 25))])), (.v (.c (.d (.lst [(.int .u8)]) (.v 1)))), (.v (.c (.d (.int .i64) (.v 15)))), (.v (.c (.elem [(.int .u8)] (.get (.v 1) (.v 15)) 0))), (.v (.c (.d (.int .u8) (.get (.v 1) (.v 15))))), (.v (.c (.d (.int .i64) (.conv .i64 (.get (.v 1) (.v 15)))))), (.v (.c (.d (.int .i64) (.ar .rem .i64 (.conv .i64 (.get (.v 1) (.v 15))) (.ki .i64 3))))), (.v (.c (.d (.int .i64) (.ar .add .i64 (.ki .i64 1) (.ar .rem .i64 (.conv .i64 (.get (.v 1) (.v 15))) (.ki .i64 3)))))), (.v (.c (.ptr 1 4))), (.v (.c .any)), (.v (.c .any)), (.v (.c .any)), (.v (.c .any)), (.v (.c .any)), (.v (.c .any)), (.v (.c .any)), (.v (.c .any)), (.v (.c .any)), (.v (.c .any)), (.v (.g [(.d (.int .i64) (.v 7)), (.d (.lst [.str, .str, (.int .i64), (.int .i64), (.int .i64), (.int .i64), .str, .bool, (.int .i64), (.lst [(.int .i64), (.int .i64)])]) (.v 8)), (.d (.int .i64) (.v 9))])), (.v (.g [(.d .str (.v 36)), (.d .str (.v 37)), (.d (.int .i64) (.v 38)), (.d (.int .i64) (.v 39)), (.d (.int .i64) (.v 40)), (.d (.int .i64) (.v 41)), (.d .str (.v 42)), (.d .bool (.v 43)), (.d (.int .i64) (.v 44)), (.d (.lst [(.int .i64), (.int .i64)]) (.v 45))])), (.v (.c .any)), (.v (.g [(.d (.int .i64) (.v 46)), (.d (.lst [.str, .str, (.int .i64), (.int .i64), (.int .i64), (.int .i64), .str, .bool, (.int .i64), (.lst [(.int .i64), (.int .i64)])]) (.v 47)), (.d (.int .i64) (.v 48))])), (.v (.c (.d (.int .i64) (.v 49)))), (.v (.c .any)), (.v (.c .any)), (.v (.c .any)), (.v (.c .any)), (.v (.c .any)), (.v (.c .any)), (.v (.c .any)), (.v (.c .any)), (.v (.c .any)), (.v (.c .any)), (.v (.c .any)), (.v (.c .any)), (.v (.c .any)), (.v (.c .any)), (.v (.c .any)), (.v (.c .any)), (.v (.c .any)), (.v (.g [(.d (.int .i64) (.v 46)), (.d (.lst [.str, .str, (.int .i64), (.int .i64), (.int .i64), (.int .i64), .str, .bool, (.int .i64), (.lst [(.int .i64), (.int .i64)])]) (.v 47)), (.d (.int .i64) (.v 48))])), (.v (.c .any)), (.v (.g [(.d (.int .i64) (.v 46)), (.d (.lst [.str, .str, (.int .i64), (.int .i64), (.int .i64), (.int .i64), .str, .bool, (.int .i64), (.lst [(.int .i64), (.int .i64)])]) (.v 47)), (.d (.int .i64) (.v 48))])), (.v (.c .any)), (.v (.g [(.d .str (.v 52)), (.d .str (.v 53)), (.d (.int .i64) (.v 54)), (.d (.int .i64) (.v 55)), (.d (.int .i64) (.v 56)), (.d (.int .i64) (.v 57)), (.d .str (.v 58)), (.d .bool (.v 59)), (.d (.int .i64) (.v 60)), (.d (.lst [(.int .i64), (.int .i64)]) (.v 61))])), (.v (.c (.d .bool (.v 62)))), (.v (.c (.d .bool (.v 62)))), (.v (.c (.d .bool (.not (.v 62))))), (.v (.c (.d (.int .i64) (.v 15)))), (.v (.c (.d (.lst [.bool]) (.v 2)))), (.v (.c (.d (.int .i64) (.len (.v 2))))), (.v (.c (.d .bool (.cmp .lss (.v 15) (.len (.v 2)))))), (.v (.c (.d .bool (.cmp .lss (.v 15) (.len (.v 2)))))), (.v (.c (.d (.lst [.bool]) (.v 2)))), (.v (.c (.d (.int .i64) (.v 15)))), (.v (.c (.elem [.bool] (.get (.v 2) (.v 15)) 0))), (.v (.c (.d .bool (.get (.v 2) (.v 15))))), (.v (.c (.d .bool (.get (.v 2) (.v 15))))), (.v (.c (.ptr 3 5))), (.v (.c (.d (.int .i64) (.v 57)))), (.v (.c (.d (.int .i64) (.v 13)))), (.v (.c (.d .bool (.cmp .leq (.v 57) (.v 13))))), (.v (.c (.ptr 3 5))), (.v (.c (.d (.int .i64) (.v 57)))), (.v (.c (.d (.int .i64) (.v 12)))), (.v (.c (.d (.int .i64) (.ar .add .i64 (.v 12) (.ki .i64 1))))), (.v (.c .any)), (.v (.c .any)), (.v (.c .any)), (.v (.c .any)), (.v (.c .any)), (.v (.c .any)), (.v (.c .any)), (.v (.c .any)), (.v (.c .any)), (.v (.c .any)), (.v (.c .any)), (.v (.c .any)), (.v (.c .any)), (.v (.c .any)), (.v (.c .any)), (.v (.c .any)), (.v (.c .any)), (.v (.c .any)), (.v (.c .any)), (.v (.c .any)), (.v (.c .any)), (.v (.c .any)), (.v (.c .any)), (.v (.c .any)), (.v (.c .any)), (.v (.c .any)), (.v (.c .any)), (.v (.c .any)), (.v (.c .any)), (.v (.c .any)), (.v (.c .any)), (.v (.c .any)), (.v (.c .any)), (.v (.c .any)), (.v (.c .any)), (.v (.c .any)), (.v (.c .any)), (.v (.c .any)), (.v (.c .any)), (.v (.c .any)), (.v (.c .any)), (.v (.c .any)), (.v (.c .any)), (.v (.c .any)), (.v (.c .any)), (.v (.c .any)), (.v (.c .any)), (.v (.c .any)), (.v (.c .any)), (.v (.c .any)), (.v (.c .any)), (.v (.c .any)), (.v (.c .any)), (.v (.c .any)), (.v (.c .any)), (.v (.c .any)), (.v (.c .any)), (.v (.c .any)), (.v (.c .any)), (.v (.c .any)), (.v (.c .any)), (.v (.c .any)), (.v (.c .any)), (.v (.c .any)), (.v (.c .any)), (.v (.c .any)), (.v (.c .any))], blks := [(.cells [(.d (.int .i64) (.v 46)), (.d (.lst [.str, .str, (.int .i64), (.int .i64), (.int .i64), (.int .i64), .str, .bool, (.int .i64), (.lst [(.int .i64), (.int .i64)])]) (.v 47)), (.d (.int .i64) (.v 48))]), (.cells [(.d .str (.v 36)), (.d .str (.v 37)), (.d (.int .i64) (.v 38)), (.d (.int .i64) (.v 39)), (.d (.int .i64) (.v 40)), (.d (.int .i64) (.v 41)), (.d .str (.v 42)), (.d .bool (.v 43)), (.d (.int .i64) (.v 44)), (.d (.lst [(.int .i64), (.int .i64)]) (.v 45))]), (.cells [(.d (.int .i64) (.v 46)), (.d (.lst [.str, .str, (.int .i64), (.int .i64), (.int .i64), (.int .i64), .str, .bool, (.int .i64), (.lst [(.int .i64), (.int .i64)])]) (.v 47)), (.d (.int .i64) (.v 48))]), (.cells [(.d .str (.v 52)), (.d .str (.v 53)), (.d (.int .i64) (.v 54)), (.d (.int .i64) (.v 55)), (.d (.int .i64) (.v 56)), (.d (.int .i64) (.v 57)), (.d .str (.v 58)), (.d .bool (.v 59)), (.d (.int .i64) (.v 60)), (.d (.lst [(.int .i64), (.int .i64)]) (.v 61))])], shs := [(.int .i64)], rs := [], bs := [], fz := [] },
{ kind := true, id := 39, nv := 69, tmps := [(.v (.c (.d (.int .u8) (.v 0)))), (.v (.c (.d (.lst [(.int .u8)]) (.v 1)))), (.v (.c (.d (.lst [.bool]) (.v 2)))), (.v (.c .any)), (.v (.c .any)), (.v (.c .any)), (.v (.c (.d .bool (.v 69)))), (.v (.c (.ptr 0 0))), (.v (.c (.d (.int .i64) (.v 6)))), (.v (.c (.d (.int .i64) (.v 50)))), (.v (.c (.d (.int .i64) (.v 66)))), (.v (.c (.d (.int .i64) (.v 67)))), (.v (.c (.d (.int .i64) (.v 68)))), (.v (.c (.d (.int .i64) (.v 15)))), (.v (.c (.ptr 1 0))), (.v (.c (.ptr 2 0))), (.v (.c (.d (.int .i64) (.v 49)))), (.v (.c (.ptr 3 0))), (.v (.c (.d .bool (.v 62)))), (.v (.c .any)), (.v (.c .any)), (.v (.c (.d (.int .i64) (.v 70)))), (.v (.c (.d (.int .i64) (.v 71)))), (.v (.c (.d (.lst [(.int .u8)]) (.v 1)))), (.v (.c (.d (.int .i64) (.len (.v 1))))), (.v (.c (.d .bool (.cmp .gtr (.len (.v 1)) (.ki .i64 60))))), (.v (.c .any)), (.v (.c .any)), (.v (.c (.d (.int .u8) (.v 0)))), (.v (.c (.d (.int .i64) (.conv .i64 (.v 0))))), (.v (.c (.d (.int .i64) (.ar .rem .i64 (.conv .i64 (.v 0)) (.ki .i64 4))))), (.v (.c (.d (.int .i64) (.ar .add .i64 (.ki .i64 4) (.ar .rem .i64 (.conv .i64 (.v 0)) (.ki .i64 4)))))), (.v (.c .any)), (.v (.g [(.d (.int .i64) (.v 3)), (.d (.lst [.str, .str, (.int .i64), (.int .i64), (.int .i64), (.int .i64), .str, .bool, (.int .i64), (.lst [(.int .i64), (.int .i64)])]) (.v 4)), (.d (.int .i64) (.v 5))])), (.v (.c (.d (.int .i64) (.v 6)))), (.v (.c (.d (.int .i64) (.v 6)))), (.v (.c (.d .bool (.cmp .neq (.v 6) (.ki .i64 0))))), (.v (.c (.d (.int .i64) (.v 15)))), (.v (.c (.d (.lst [(.int .u8)]) (.v 1)))), (.v (.c (.d (.int .i64) (.len (.v 1))))), (.v (.c (.d .bool (.cmp .lss (.v 15) (.len (.v 1)))))), (.v (.c .any)), (.v (.c .any)), (.v (.c (.d (.int .i64) (.v 15)))), (.v (.c (.d (.int .i64) (.ar .add .i64 (.v 15) (.ki .i64 1))))), (.v (.g [(.d .str (.v 16)), (.d .str (.v 17)), (.d (.int .i64) (.v 18)), (.d (.int .i64) (.v 19)), (.d (.int .i64) (.v 20)), (.d (.int .i64) (.v 21)), (.d .str (.v 22)), (.d .bool (.v 23)), (.d (.int .i64) (.v 24)), (.d (.lst [(.int .i64), (.int .i64)]) (.v 25))])), (.v (.c (.d (.lst [(.int .u8)]) (.v 1)))), (.v (.c (.d (.int .i64) (.v 15)))), (.v (.c (.elem [(.int .u8)] (.get (.v 1) (.v 15)) 0))), (.v (.c (.d (.int .u8) (.get (.v 1) (.v 15))))), (.v (.c (.d (.int .i64) (.conv .i64 (.get (.v 1) (.v 15)))))), (.v (.c (.d (.int .i64) (.ar .rem .i64 (.conv .i64 (.get (.v 1) (.v 15))) (.ki .i64 3))))), (.v (.c (.d (.int .i64) (.ar .add .i64 (.ki .i64 1) (.ar .rem .i64 (.conv .i64 (.get (.v 1) (.v 15))) (.ki .i64 3)))))), (.v (.c (.ptr 1 4))), (.v (.c .any)), (.v (.c .any)), (.v (.c .any)), (.v (.c .any)), (.v (.c .any)), (.v (.c .any)), (.v (.c .any)), (.v (.c .any)), (.v (.c .any)), (.v (.c .any)), (.v (.g [(.d (.int .i64) (.v 7)), (.d (.lst [.str, .str, (.int .i64), (.int .i64), (.int .i64), (.int .i64), .str, .bool, (.int .i64), (.lst [(.int .i64), (.int .i64)])]) (.v 8)), (.d (.int .i64) (.v 9))])), (.v (.g [(.d .str (.v 36)), (.d .str (.v 37)), (.d (.int .i64) (.v 38)), (.d (.int .i64) (.v 39)), (.d (.int .i64) (.v 40)), (.d (.int .i64) (.v 41)), (.d .str (.v 42)), (.d .bool (.v 43)), (.d (.int .i64) (.v 44)), (.d (.lst [(.int .i64), (.int .i64)]) (.v 45))])), (.v (.c .any)), (.v (.g [(.d (.int .i64) (.v 46)), (.d (.lst [.str, .str, (.int .i64), (.int .i64), (.int .i64), (.int .i64), .str, .bool, (.int .i64), (.lst [(.int .i64), (.int .i64)])]) (.v 47)), (.d (.int .i64) (.v 48))])), (.v (.c (.d (.int .i64) (.v 49)))), (.v (.c .any)), (.v (.c .any)), (.v (.c .any)), (.v (.c .any)), (.v (.c .any)), (.v (.c .any)), (.v (.c .any)), (.v (.c .any)), (.v (.c .any)), (.v (.c .any)), (.v (.c .any)), (.v (.c .any)), (.v (.c .any)), (.v (.c .any)), (.v (.c .any)), (.v (.c .any)), (.v (.c .any)), (.v (.g [(.d (.int .i64) (.v 46)), (.d (.lst [.str, .str, (.int .i64), (.int .i64), (.int .i64), (.int .i64), .str, .bool, (.int .i64), (.lst [(.int .i64), (.int .i64)])]) (.v 47)), (.d (.int .i64) (.v 48))])), (.v (.c .any)), (.v (.g [(.d (.int .i64) (.v 46)), (.d (.lst [.str, .str, (.int .i64), (.int .i64), (.int .i64), (.int .i64), .str, .bool, (.int .i64), (.lst [(.int .i64), (.int .i64)])]) (.v 47)), (.d (.int .i64) (.v 48))])), (.v (.c .any)), (.v (.g [(.d .str (.v 52)), (.d .str (.v 53)), (.d (.int .i64) (.v 54)), (.d (.int .i64) (.v 55)), (.d (.int .i64) (.v 56)), (.d (.int .i64) (.v 57)), (.d .str (.v 58)), (.d .bool (.v 59)), (.d (.int .i64) (.v 60)), (.d (.lst [(.int .i64), (.int .i64)]) (.v 61))])), (.v (.c (.d .bool (.v 62)))), (.v (.c (.d .bool (.v 62)))), (.v (.c (.d .bool (.not (.v 62))))), (.v (.c .any)), (.v (.c .any)), (.v (.c .any)), (.v (.c .any)), (.v (.c .any)), (.v (.c .any)), (.v (.c .any)), (.v (.c .any)), (.v (.c .any)), (.v (.c .any)), (.v (.c .any)), (.v (.c .any)), (.v (.c .any)), (.v (.c .any)), (.v (.c .any)), (.v (.c .any)), (.v (.c .any)), (.v (.c .any)), (.v (.c .any)), (.v (.c .any)), (.v (.c .any)), (.v (.c .any)), (.v (.c .any)), (.v (.c .any)), (.v (.c .any)), (.v (.c .any)), (.v (.c .any)), (.v (.c .any)), (.v (.c .any)), (.v (.c .any)), (.v (.c .any)), (.v (.c .any)), (.v (.c .any)), (.v (.c .any)), (.v (.c .any)), (.v (.c .any)), (.v (.c .any)), (.v (.c .any)), (.v (.c .any)), (.v (.c .any)), (.v (.c .any)), (.v (.c .any)), (.v (.c .any)), (.v (.c .any)), (.v (.c .any)), (.v (.c .any)), (.v (.c .any)), (.v (.c .any)), (.v (.c .any)), (.v (.c .any)), (.v (.c .any)), (.v (.c .any)), (.v (.c .any)), (.v (.c .any)), (.v (.c .any)), (.v (.c .any)), (.v (.c .any)), (.v (.c .any)), (.v (.c .any)), (.v (.c .any)), (.v (.c .any)), (.v (.c .any)), (.v (.c .any)), (.v (.c .any)), (.v (.c .any)), (.v (.c .any)), (.v (.c .any)), (.v (.c .any)), (.v (.c .any)), (.v (.c .any)), (.v (.c .any)), (.v (.c .any)), (.v (.c .any)), (.v (.c .any)), (.v (.c .any)), (.v (.c .any)), (.v (.c .any)), (.v (.c .any)), (.v (.c .any)), (.v (.c .any)), (.v (.c .any)), (.v (.c .any)), (.v (.c .any)), (.v (.c .any)), (.v (.c .any))], blks := [(.cells [(.d (.int .i64) (.v 63)), (.d (.lst [.str, .str, (.int .i64), (.int .i64), (.int .i64), (.int .i64), .str, .bool, (.int .i64), (.lst [(.int .i64), (.int .i64)])]) (.v 64)), (.d (.int .i64) (.v 65))]), (.cells [(.d .str (.v 36)), (.d .str (.v 37)), (.d (.int .i64) (.v 38)), (.d (.int .i64) (.v 39)), (.d (.int .i64) (.v 40)), (.d (.int .i64) (.v 41)), (.d .str (.v 42)), (.d .bool (.v 43)), (.d (.int .i64) (.v 44)), (.d (.lst [(.int .i64), (.int .i64)]) (.v 45))]), (.cells [(.d (.int .i64) (.v 46)), (.d (.lst [.str, .str, (.int .i64), (.int .i64), (.int .i64), (.int .i64), .str, .bool, (.int .i64), (.lst [(.int .i64), (.int .i64)])]) (.v 47)), (.d (.int .i64) (.v 48))]), (.cells [(.d .str (.v 52)), (.d .str (.v 53)), (.d (.int .i64) (.v 54)), (.d (.int .i64) (.v 55)), (.d (.int .i64) (.v 56)), (.d (.int .i64) (.v 57)), (.d .str (.v 58)), (.d .bool (.v 59)), (.d (.int .i64) (.v 60)), (.d (.lst [(.int .i64), (.int .i64)]) (.v 61))])], shs := [.bool, (.int .i64), (.int .i64)], rs := [], bs := [], fz := [] },
{ kind := false, id := 43, nv := 72, tmps := [(.v (.c (.d (.int .u8) (.v 0)))), (.v (.c (.d (.lst [(.int .u8)]) (.v 1)))), (.v (.c (.d (.lst [.bool]) (.v 2)))), (.v (.c .any)), (.v (.c .any)), (.v (.c .any)), (.v (.c (.d .bool (.v 69)))), (.v (.c (.ptr 0 0))), (.v (.c (.d (.int .i64) (.v 6)))), (.v (.c (.d (.int .i64) (.v 50)))), (.v (.c (.d (.int .i64) (.v 66)))), (.v (.c (.d (.int .i64) (.v 67)))), (.v (.c (.d (.int .i64) (.v 68)))), (.v (.c (.d (.int .i64) (.v 15)))), (.v (.c (.ptr 1 0))), (.v (.c (.ptr 2 0))), (.v (.c (.d (.int .i64) (.v 49)))), (.v (.c (.ptr 3 0))), (.v (.c (.d .bool (.v 62)))), (.v (.c .any)), (.v (.c .any)), (.v (.c (.d (.int .i64) (.v 72)))), (.v (.c (.d (.int .i64) (.v 71)))), (.v (.c (.d (.lst [(.int .u8)]) (.v 1)))), (.v (.c (.d (.int .i64) (.len (.v 1))))), (.v (.c (.d .bool (.cmp .gtr (.len (.v 1)) (.ki .i64 60))))), (.v (.c .any)), (.v (.c .any)), (.v (.c (.d (.int .u8) (.v 0)))), (.v (.c (.d (.int .i64) (.conv .i64 (.v 0))))), (.v (.c (.d (.int .i64) (.ar .rem .i64 (.conv .i64 (.v 0)) (.ki .i64 4))))), (.v (.c (.d (.int .i64) (.ar .add .i64 (.ki .i64 4) (.ar .rem .i64 (.conv .i64 (.v 0)) (.ki .i64 4)))))), (.v (.c .any)), (.v (.g [(.d (.int .i64) (.v 3)), (.d (.lst [.str, .str, (.int .i64), (.int .i64), (.int .i64), (.int .i64), .str, .bool, (.int .i64), (.lst [(.int .i64), (.int .i64)])]) (.v 4)), (.d (.int .i64) (.v 5))])), (.v (.c (.d (.int .i64) (.v 6)))), (.v (.c (.d (.int .i64) (.v 6)))), (.v (.c (.d .bool (.cmp .neq (.v 6) (.ki .i64 0))))), (.v (.c (.d (.int .i64) (.v 15)))), (.v (.c (.d (.lst [(.int .u8)]) (.v 1)))), (.v (.c (.d (.int .i64) (.len (.v 1))))), (.v (.c (.d .bool (.cmp .lss (.v 15) (.len (.v 1)))))), (.v (.c .any)), (.v (.c .any)), (.v (.c (.d (.int .i64) (.v 15)))), (.v (.c (.d (.int .i64) (.ar .add .i64 (.v 15) (.ki .i64 1))))), (.v (.g [(.d .str (.v 16)), (.d .str (.v 17)), (.d (.int .i64) (.v 18)), (.d (.int .i64) (.v 19)), (.d (.int .i64) (.v 20)), (.d (.int .i64) (.v 21)), (.d .str (.v 22)), (.d .bool (.v 23)), (.d (.int .i64) (.v 24)), (.d (.lst [(.int .i64), (.int .i64)]) (.v 25))])), (.v (.c (.d (.lst [(.int .u8)]) (.v 1)))), (.v (.c (.d (.int .i64) (.v 15)))), (.v (.c (.elem [(.int .u8)] (.get (.v 1) (.v 15)) 0))), (.v (.c (.d (.int .u8) (.get (.v 1) (.v 15))))), (.v (.c (.d (.int .i64) (.conv .i64 (.get (.v 1) (.v 15)))))), (.v (.c (.d (.int .i64) (.ar .rem .i64 (.conv .i64 (.get (.v 1) (.v 15))) (.ki .i64 3))))), (.v (.c (.d (.int .i64) (.ar .add .i64 (.ki .i64 1) (.ar .rem .i64 (.conv .i64 (.get (.v 1) (.v 15))) (.ki .i64 3)))))), (.v (.c (.ptr 1 4))), (.v (.c .any)), (.v (.c .any)), (.v (.c .any)), (.v (.c .any)), (.v (.c .any)), (.v (.c .any)), (.v (.c .any)), (.v (.c .any)), (.v (.c .any)), (.v (.c .any)), (.v (.g [(.d (.int .i64) (.v 7)), (.d (.lst [.str, .str, (.int .i64), (.int .i64), (.int .i64), (.int .i64), .str, .bool, (.int .i64), (.lst [(.int .i64), (.int .i64)])]) (.v 8)), (.d (.int .i64) (.v 9))])), (.v (.g [(.d .str (.v 36)), (.d .str (.v 37)), (.d (.int .i64) (.v 38)), (.d (.int .i64) (.v 39)), (.d (.int .i64) (.v 40)), (.d (.int .i64) (.v 41)), (.d .str (.v 42)), (.d .bool (.v 43)), (.d (.int .i64) (.v 44)), (.d (.lst [(.int .i64), (.int .i64)]) (.v 45))])), (.v (.c .any)), (.v (.g [(.d (.int .i64) (.v 46)), (.d (.lst [.str, .str, (.int .i64), (.int .i64), (.int .i64), (.int .i64), .str, .bool, (.int .i64), (.lst [(.int .i64), (.int .i64)])]) (.v 47)), (.d (.int .i64) (.v 48))])), (.v (.c (.d (.int .i64) (.v 49)))), (.v (.c .any)), (.v (.c .any)), (.v (.c .any)), (.v (.c .any)), (.v (.c .any)), (.v (.c .any)), (.v (.c .any)), (.v (.c .any)), (.v (.c .any)), (.v (.c .any)), (.v (.c .any)), (.v (.c .any)), (.v (.c .any)), (.v (.c .any)), (.v (.c .any)), (.v (.c .any)), (.v (.c .any)), (.v (.g [(.d (.int .i64) (.v 46)), (.d (.lst [.str, .str, (.int .i64), (.int .i64), (.int .i64), (.int .i64), .str, .bool, (.int .i64), (.lst [(.int .i64), (.int .i64)])]) (.v 47)), (.d (.int .i64) (.v 48))])), (.v (.c .any)), (.v (.g [(.d (.int .i64) (.v 46)), (.d (.lst [.str, .str, (.int .i64), (.int .i64), (.int .i64), (.int .i64), .str, .bool, (.int .i64), (.lst [(.int .i64), (.int .i64)])]) (.v 47)), (.d (.int .i64) (.v 48))])), (.v (.c .any)), (.v (.g [(.d .str (.v 52)), (.d .str (.v 53)), (.d (.int .i64) (.v 54)), (.d (.int .i64) (.v 55)), (.d (.int .i64) (.v 56)), (.d (.int .i64) (.v 57)), (.d .str (.v 58)), (.d .bool (.v 59)), (.d (.int .i64) (.v 60)), (.d (.lst [(.int .i64), (.int .i64)]) (.v 61))])), (.v (.c (.d .bool (.v 62)))), (.v (.c (.d .bool (.v 62)))), (.v (.c (.d .bool (.not (.v 62))))), (.v (.c .any)), (.v (.c .any)), (.v (.c .any)), (.v (.c .any)), (.v (.c .any)), (.v (.c .any)), (.v (.c .any)), (.v (.c .any)), (.v (.c .any)), (.v (.c .any)), (.v (.c .any)), (.v (.c .any)), (.v (.c .any)), (.v (.c .any)), (.v (.c .any)), (.v (.c .any)), (.v (.c .any)), (.v (.c .any)), (.v (.c .any)), (.v (.c .any)), (.v (.c .any)), (.v (.c .any)), (.v (.c .any)), (.v (.c .any)), (.v (.c .any)), (.v (.c .any)), (.v (.c .any)), (.v (.c .any)), (.v (.c .any)), (.v (.c .any)), (.v (.c .any)), (.v (.c .any)), (.v (.c .any)), (.v (.c .any)), (.v (.c .any)), (.v (.c (.d (.int .i64) (.v 71)))), (.v (.c (.ptr 0 1))), (.v (.c (.d (.lst [.str, .str, (.int .i64), (.int .i64), (.int .i64), (.int .i64), .str, .bool, (.int .i64), (.lst [(.int .i64), (.int .i64)])]) (.v 64)))), (.v (.c (.d (.int .i64) (.len (.v 64))))), (.v (.c (.d .bool (.cmp .lss (.v 71) (.len (.v 64)))))), (.v (.c .any)), (.v (.c .any)), (.v (.c .any)), (.v (.c .any)), (.v (.c .any)), (.v (.c .any)), (.v (.c .any)), (.v (.c .any)), (.v (.c .any)), (.v (.c .any)), (.v (.c .any)), (.v (.c .any)), (.v (.c .any)), (.v (.c .any)), (.v (.c .any)), (.v (.c .any)), (.v (.c .any)), (.v (.c .any)), (.v (.c .any)), (.v (.c .any)), (.v (.c .any)), (.v (.c .any)), (.v (.c .any)), (.v (.c .any)), (.v (.c .any)), (.v (.c .any)), (.v (.c .any)), (.v (.c .any)), (.v (.c .any)), (.v (.c .any)), (.v (.c .any)), (.v (.c .any)), (.v (.c .any)), (.v (.c .any)), (.v (.c .any)), (.v (.c .any)), (.v (.c .any)), (.v (.c .any)), (.v (.c .any)), (.v (.c .any)), (.v (.c .any)), (.v (.c .any)), (.v (.c .any)), (.v (.c .any)), (.v (.c .any))], blks := [(.cells [(.d (.int .i64) (.v 63)), (.d (.lst [.str, .str, (.int .i64), (.int .i64), (.int .i64), (.int .i64), .str, .bool, (.int .i64), (.lst [(.int .i64), (.int .i64)])]) (.v 64)), (.d (.int .i64) (.v 65))]), (.cells [(.d .str (.v 36)), (.d .str (.v 37)), (.d (.int .i64) (.v 38)), (.d (.int .i64) (.v 39)), (.d (.int .i64) (.v 40)), (.d (.int .i64) (.v 41)), (.d .str (.v 42)), (.d .bool (.v 43)), (.d (.int .i64) (.v 44)), (.d (.lst [(.int .i64), (.int .i64)]) (.v 45))]), (.cells [(.d (.int .i64) (.v 46)), (.d (.lst [.str, .str, (.int .i64), (.int .i64), (.int .i64), (.int .i64), .str, .bool, (.int .i64), (.lst [(.int .i64), (.int .i64)])]) (.v 47)), (.d (.int .i64) (.v 48))]), (.cells [(.d .str (.v 52)), (.d .str (.v 53)), (.d (.int .i64) (.v 54)), (.d (.int .i64) (.v 55)), (.d (.int .i64) (.v 56)), (.d (.int .i64) (.v 57)), (.d .str (.v 58)), (.d .bool (.v 59)), (.d (.int .i64) (.v 60)), (.d (.lst [(.int .i64), (.int .i64)]) (.v 61))])], shs := [(.int .i64)], rs := [], bs := [], fz := [] }]
theorem kp_ent : EntOK Try.prog [] ⟨8, [(.c (.int .u8)), (.c (.lst [(.int .u8)])), (.c (.lst [.bool]))], [(.c .bool)], vckp⟩ :=
  ent_of_genH hPk Try.func8 rfl (by decide) (jn := [(14,[1000000]),(16,[1000000]),(23,[6,9,12]),(33,[6,12]),(37,[6,10,11,12]),(43,[6,21])]) (hd := hdkp) (sg := sgsk) (by kernel_rfl)

theorem typ_bools {d : D} (h : Typ (.lst [.bool]) d) : ∃ l : List Bool, d = .lst (l.map D.bool) ∧ l.length ≤ maxLen := by
  unfold Typ at h
  obtain ⟨l, rfl, hl, hx⟩ := h
  obtain ⟨L, rfl, hL⟩ := list_read (g := D.bool) (q := fun _ => True) (p := fun d => Typ .bool d) (fun d hd => by
    obtain ⟨b, rfl⟩ := typ_bool hd
    exact ⟨b, rfl, trivial⟩) l (fun x hm => by
    have := hx x hm
    rw [D.cells_one rfl] at this
    unfold Typs at this
    obtain ⟨d, ds, h1, h2, _⟩ := this
    cases h1
    exact h2)
  exact ⟨L, rfl, by simpa using hl⟩
theorem get_bo {l : List Bool} {i : Nat} (h : i < l.length) : (l.map D.bool).getD i default = D.bool (l.getD i false) := by simp [List.getD_eq_getElem?_getD, h]
/-! the events that are pushed -/
def bS : ByteArray := ⟨List.toArray [83]⟩
def bT : ByteArray := ⟨List.toArray [84]⟩
def bA : ByteArray := ⟨List.toArray [65]⟩
def evI (n : Int) : Evt := ⟨bS, bT, 1, n, 2, n, ⟨List.toArray []⟩, false, 0, [(n, 7)]⟩
def evA (n k : Int) : Evt := ⟨bS, bT, 1, if k = 1 then 0 else n, k, n, if k = 1 then bA else ⟨List.toArray []⟩, false, 0, [(n, 7)]⟩
def evK (n k : Int) : Evt := ⟨bS, bT, 1, if k = 1 then 0 else n, k, n, if k = 1 then bA else ⟨List.toArray []⟩, false, if k = 3 then 1 else 0, [(n, 7)]⟩
theorem event_fn (n : Int) (h : n ≠ 0) : Fun Try.prog [] 27 [tI] [I64d n] [tE] (.ok [evD (evI n)]) := by
  refine event_ent _ _ ?_
  show vcevent.den _ _ _ _ _
  unfold vcevent
  refine den_ite (fun c => ?_) (fun c => den_ret rfl)
  simp only [E.den, D.toI, D.toB, D.toL, D.toS, D.len, D.mapL, flatD, dE] at c
  exact absurd c h
theorem n_S : nameS bS = true := by kernel_rfl
theorem n_T : nameS bT = true := by kernel_rfl
theorem n_A : nameS bA = true := by kernel_rfl
theorem evK_ok {n k : Int} (h1 : 1 ≤ n) (h2 : n ≤ 61) (h3 : k = 1 ∨ k = 2 ∨ k = 3) : validS (evK n k) = 0 := by
  have hr : rdgB (n, 7) = true := by unfold rdgB; rw [decide_eq_true_eq]; simp only []; omega
  have hrd : rdgV [(n, 7)] n = 0 := by
    unfold rdgV
    rw [if_neg (by simp only [List.length_cons, List.length_nil]; omega), if_neg (by simp), if_neg (by simp only [rdgE, hr, if_true]; rw [if_neg (by omega)]; decide), if_neg (by simp)]
  have hk : kindV (evK n k) = 0 := by
    rcases h3 with rfl | rfl | rfl
    · simp [kindV, evK, n_A]
    · simp [kindV, evK]; exact ⟨by omega, rfl⟩
    · simp [kindV, evK]; exact ⟨by omega, rfl⟩
  have hq : 0 ≤ (evK n k).sq ∧ (evK n k).sq ≤ 61 := by
    show 0 ≤ (if k = 1 then 0 else n) ∧ (if k = 1 then 0 else n) ≤ 61
    split <;> omega
  unfold validS
  rw [if_neg (fun c => c.elim (fun c => c n_S) (fun c => c n_T)), if_neg (by
    have e1 : (evK n k).co = 1 := rfl
    have e2 : (evK n k).at' = n := rfl
    omega), if_neg (by rw [hk]; decide)]
  exact hrd
theorem evK_T {n k : Int} (h1 : 1 ≤ n) (h2 : n ≤ 61) (h3 : k = 1 ∨ k = 2 ∨ k = 3) : EvT (evK n k) := by
  refine ⟨by show (1 : Nat) ≤ maxLen; decide, by show (1 : Nat) ≤ maxLen; decide, ?_, by show (1 : Nat) ≤ maxLen; decide, ?_, ?_, ?_, ?_, ?_, ?_⟩
  · show (if k = 1 then bA else ⟨List.toArray []⟩ : ByteArray).size ≤ maxLen
    split <;> decide
  · show inI 1
    unfold inI; omega
  · show inI (if k = 1 then 0 else n)
    unfold inI; split <;> omega
  · show inI k
    unfold inI; omega
  · show inI n
    unfold inI; omega
  · show inI (if k = 3 then 1 else 0)
    unfold inI; split <;> omega
  · intro x hx
    have : x = (n, 7) := List.mem_singleton.1 hx
    subst this
    unfold inI; simp only []; omega
/-! what holds between two events -/
def nu (e : Evt) : Bool := decide (e.ki ≠ 2)
structure KI (o : Ob) (pu ac la op : Int) (i : Nat) : Prop where
  ob : ObT o
  ov : ovS o = 0
  asc : o.it.Pairwise fun a b => a.at' < b.at'
  up : ∀ x ∈ o.it, x.at' ≤ i
  dn : ∀ x ∈ o.it, la < x.at'
  kla : -1 ≤ la ∧ la ≤ i
  kop : op = o.it.countP nu
  kpu : pu = ac + o.lo + o.it.length
  klo : 0 ≤ o.lo
  kac : 0 ≤ ac
  kpi : pu ≤ i
theorem KI.len {o : Ob} {pu ac la op : Int} {i : Nat} (h : KI o pu ac la op i) : (o.it.length : Int) ≤ i ∧ o.lo ≤ i ∧ ac ≤ i ∧ 0 ≤ pu ∧ 0 ≤ op ∧ op ≤ i := by
  have h1 := h.kpu
  have h2 := h.klo
  have h3 := h.kac
  have h4 := h.kpi
  have h5 := h.kop
  have h6 : o.it.countP nu ≤ o.it.length := List.countP_le_length
  omega
theorem cnt_one (e : Evt) : (([e].countP nu : Nat) : Int) = if e.ki ≠ 2 then 1 else 0 := by
  by_cases h : e.ki = 2
  · simp [List.countP_cons, nu, h]
  · simp [List.countP_cons, nu, h]
theorem disG_ki : ∀ (l : List Evt) (i : Nat) {d : Nat}, disG i l = d → i ≤ d → (l.getD (d - i) ev0).ki = 2
  | [], i, d, h, _ => by simp only [disG] at h; omega
  | e :: l, i, d, h, hid => by
    simp only [disG] at h
    split at h
    · rename_i hc
      have : d = i := by omega
      subst this
      simp only [Nat.sub_self, List.getD_cons_zero]
      exact hc.2
    · by_cases hh : i + 1 ≤ d
      · have := disG_ki l (i + 1) h hh
        rw [show d - i = (d - (i + 1)) + 1 from by omega, List.getD_cons_succ]
        exact this
      · rcases disG_ge l (i + 1) with hg | ⟨hg, _⟩ <;> omega
theorem kpush {o : Ob} {e : Evt} {pu ac la op : Int} {i : Nat} (h : KI o pu ac la op i) (hi : i ≤ 60) (he : EvT e) (hv : validS e = 0) (hat : e.at' = i + 1) :
    (pushV o e = 0 ∧ KI (pushO o e) (pu + 1) ac la (op + if e.ki ≠ 2 then 1 else 0) (i + 1) ∧ (pushO o e).it ≠ []) ∨ (pushV o e = 3 ∧ pushO o e = o ∧ KI o pu ac la op (i + 1) ∧ o.it ≠ []) := by
  obtain ⟨hT, hV⟩ := push_T h.ob he h.ov
  have hok := ov_ok h.ov
  have hrm := hok.rm
  have l1 := h.len
  have l2 := h.kpu
  have l3 := h.kpi
  have l4 := h.kla
  have l5 := h.kop
  by_cases h2 : (o.it.length : Int) < o.rm
  · obtain ⟨p1, p2⟩ := push_room hv h2
    rw [p1] at hT hV ⊢
    refine .inl ⟨p2, ⟨hT, hV, ?_, ?_, ?_, by push_cast; omega, ?_, ?_, h.klo, h.kac, by push_cast; omega⟩, by simp⟩
    · rw [List.pairwise_append]
      refine ⟨h.asc, List.pairwise_singleton _ _, fun a ha b hb => ?_⟩
      rw [List.mem_singleton.1 hb, hat]
      have := h.up a ha
      omega
    · intro x hx
      rcases List.mem_append.1 hx with hx | hx
      · have := h.up x hx
        push_cast
        omega
      · rw [List.mem_singleton.1 hx, hat]
        push_cast
        omega
    · intro x hx
      rcases List.mem_append.1 hx with hx | hx
      · exact h.dn x hx
      · rw [List.mem_singleton.1 hx, hat]
        omega
    · simp only [List.countP_append]
      push_cast
      rw [cnt_one, l5]
    · simp only [List.length_append, List.length_cons, List.length_nil]
      push_cast
      omega
  · by_cases h3 : disG 0 o.it < 0
    · obtain ⟨p1, p2⟩ := push_full hv h2 h3
      refine .inr ⟨p2, p1, ⟨h.ob, h.ov, h.asc, fun x hx => ?_, h.dn, by push_cast; omega, h.kop, h.kpu, h.klo, h.kac, by push_cast; omega⟩, ?_⟩
      · have := h.up x hx
        push_cast
        omega
      · intro c
        rw [c] at h2
        simp only [List.length_nil] at h2
        omega
    · obtain ⟨p1, p2⟩ := push_out hv h2 h3
      rcases disG_ge o.it 0 with hd | ⟨hd1, hd2, hd3⟩
      · omega
      obtain ⟨d, hdd⟩ : ∃ d : Nat, disG 0 o.it = d := ⟨(disG 0 o.it).toNat, by omega⟩
      have hki := disG_ki o.it 0 (d := d) (by rw [hdd]) (by omega)
      rw [p1] at hT hV ⊢
      rw [hdd] at hT hV hd2 hd3 ⊢
      simp only [Int.toNat_natCast, Nat.sub_zero] at hT hV hki ⊢
      rw [if_pos (by omega)] at hT hV ⊢
      have hdl : d < o.it.length := by omega
      have hsplit : o.it = o.it.take d ++ (o.it.getD d ev0 :: o.it.drop (d + 1)) := by rw [← drop_get ev0 hdl, List.take_append_drop]
      have hasc := h.asc
      rw [hsplit, List.pairwise_append] at hasc
      obtain ⟨a1, a2, a3⟩ := hasc
      have a4 := (List.pairwise_cons.1 a2).2
      have hm : ∀ x, x ∈ o.it.take d ++ o.it.drop (d + 1) → x ∈ o.it := fun x hx => (List.mem_append.1 hx).elim List.mem_of_mem_take List.mem_of_mem_drop
      refine .inl ⟨p2, ⟨hT, hV, ?_, ?_, ?_, by push_cast; omega, ?_, ?_, by simp only []; have := h.klo; omega, h.kac, by push_cast; omega⟩, by simp⟩
      · simp only []
        rw [List.pairwise_append]
        refine ⟨List.pairwise_append.2 ⟨a1, a4, fun a ha b hb => a3 a ha b (by simp [hb])⟩, List.pairwise_singleton _ _, fun a ha b hb => ?_⟩
        rw [List.mem_singleton.1 hb, hat]
        have := h.up a (hm a ha)
        omega
      · intro x hx
        rcases List.mem_append.1 hx with hx | hx
        · have := h.up x (hm x hx)
          push_cast
          omega
        · rw [List.mem_singleton.1 hx, hat]
          push_cast
          omega
      · intro x hx
        rcases List.mem_append.1 hx with hx | hx
        · exact h.dn x (hm x hx)
        · rw [List.mem_singleton.1 hx, hat]
          omega
      · have hc : o.it.countP nu = (o.it.take d).countP nu + (o.it.drop (d + 1)).countP nu := by
          conv => lhs; rw [hsplit]
          have hnu : nu (o.it.getD d ev0) = false := by unfold nu; rw [hki]; rfl
          rw [List.countP_append, List.countP_cons, hnu]
          simp
        simp only [List.countP_append]
        push_cast
        rw [cnt_one, l5, hc]
        push_cast
        omega
      · simp only [List.length_append, List.length_cons, List.length_nil, List.length_take, List.length_drop]
        push_cast
        omega
theorem kack {o : Ob} {pu ac la op : Int} {n : Nat} (h : KI o pu ac la op n) (hne : o.it ≠ []) :
    la < (headE o).at' ∧ ackV o (headE o).tx (headE o).sq = 0 ∧ KI (ackO o (headE o).tx (headE o).sq) pu (ac + 1) (headE o).at' (op - if (headE o).ki ≠ 2 then 1 else 0) n := by
  have hl : 0 < o.it.length := List.length_pos_iff.2 hne
  have hs : o.it = headE o :: o.it.drop 1 := by
    have := drop_get ev0 hl
    rw [List.drop_zero] at this
    exact this
  have hmem : headE o ∈ o.it := by rw [hs]; simp
  obtain ⟨q1, q2⟩ := ack_yes (o := o) (x := (headE o).tx) (q := (headE o).sq) (fun c => c.elim (fun c => by omega) (fun c => c.elim (fun c => c rfl) (fun c => c rfl)))
  obtain ⟨hT, hV⟩ := ack_T (x := (headE o).tx) (q := (headE o).sq) h.ob h.ov
  refine ⟨h.dn _ hmem, q2, ?_⟩
  rw [q1] at hT hV ⊢
  have hasc := h.asc
  rw [hs, List.pairwise_cons] at hasc
  have l1 := h.len
  have l2 := h.kpu
  have l3 := h.up _ hmem
  have l4 := h.dn _ hmem
  have l5 := h.kla
  have hlen : (o.it.drop 1).length = o.it.length - 1 := List.length_drop
  refine ⟨hT, hV, hasc.2, fun x hx => h.up x (List.mem_of_mem_drop hx), hasc.1, by omega, ?_, ?_, h.klo, by have := h.kac; omega, h.kpi⟩
  · have hc : ((o.it.countP nu : Nat) : Int) = (if (headE o).ki ≠ 2 then 1 else 0) + ((o.it.drop 1).countP nu : Nat) := by
      rw [← cnt_one]
      conv => lhs; rw [hs]
      rw [show headE o :: o.it.drop 1 = [headE o] ++ o.it.drop 1 from rfl, List.countP_append]
      push_cast
      rfl
    rw [h.kop, hc]
    simp only []
    omega
  · simp only [hlen]
    omega

set_option maxHeartbeats 4000000 in
theorem law_all (xs : List D) (h : TypTs [.c (.int .u8), .c (.lst [.int .u8]), .c (.lst [.bool])] xs) : Fun Try.prog [] 8 [.c (.int .u8), .c (.lst [.int .u8]), .c (.lst [.bool])] xs [.c .bool] (.ok [.bool true]) := by
  obtain ⟨d, _, rfl, h0, _, _, rfl, h1, _, _, rfl, h2, rfl⟩ := h
  obtain ⟨c, rfl, c0, c1⟩ : ∃ n, d = U8d n ∧ 0 ≤ n ∧ n ≤ 255 := by
    have h0' : Typ (.int .u8) d := h0
    unfold Typ at h0'
    obtain ⟨n, rfl, a, b⟩ := h0'
    rw [min_u8] at a
    rw [max_u8] at b
    exact ⟨n, rfl, a, b⟩
  obtain ⟨ks, rfl, kl, kb⟩ := typ_bytes h1
  obtain ⟨ks2, rfl, al⟩ := typ_bools h2
  refine kp_ent _ _ ?_
  show vckp.den _ _ _ _ _
  unfold vckp
  refine den_ite (fun h => ?_) (fun h => ?_)
  · exact den_cal [.bool true] rfl ex_fn rfl rfl (den_ret rfl)
  simp only [E.den, D.toI, D.toB, D.toL, D.toS, D.len, D.mapL, flatD, dE] at h
  have r1 := Int.tmod_nonneg (4 : Int) c0
  have r2 := Int.tmod_lt_of_pos c (b := 4) (by decide)
  have hwc : IntKind.wrap .i64 c = c := wrap_i64 (by omega) (by omega)
  have hwr : IntKind.wrap .i64 (4 + c.tmod 4) = 4 + c.tmod 4 := wrap_i64 (by omega) (by omega)
  generalize hr : 4 + c.tmod 4 = r at hwr
  have hN : newS r = ⟨r, [], 0⟩ := by unfold newS; rw [if_neg (by omega)]
  have hE : newE r = 0 := by unfold newE; rw [if_neg (by omega)]
  refine den_cal [I64d r, evsD [], I64d 0, I64d 0] rfl (fun_as (new_fn r) (by rw [hN, hE] <;> rfl)) (by simp only [E.den, D.toI, D.toB, D.toL, D.toS, D.len, D.mapL, flatD, dE]; rw [hwc, hr, hwr]) rfl ?_
  (try simp only [List.cons_append, List.nil_append])
  refine den_f rfl ?_
  have hob : ObT ⟨r, [], 0⟩ := ⟨(show inI r by unfold inI; omega), (show inI 0 by unfold inI; decide), Nat.zero_le _, fun x hx => by cases hx⟩
  have hov : ovS ⟨r, [], 0⟩ = 0 := ok_ov ⟨(show 4 ≤ r ∧ r ≤ 256 by omega), (show (0 : Int) ≤ 0 ∧ (0 : Int) ≤ 2147483647 by decide), (by simp only [List.length_nil]; omega), fun x hx => by cases hx⟩
  refine den_loopI (fun xs => ∃ (o : Ob) (q : Bool) (pu ac la op : Int) (i : Nat), xs = [I64d o.rm, evsD o.it, I64d o.lo, .bool q, I64d pu, I64d ac, I64d la, I64d op, I64d i] ∧ i ≤ ks.length ∧ KI o pu ac la op i) (fun xs => ks.length - (xs.getD 8 default).toI.toNat)
    ⟨⟨r, [], 0⟩, false, 0, 0, -1, 0, 0, rfl, Nat.zero_le _, ⟨hob, hov, List.Pairwise.nil, (fun x hx => by cases hx), (fun x hx => by cases hx), (by omega), rfl, rfl, (show (0 : Int) ≤ 0 by omega), (by omega), (by omega)⟩⟩ ?_
  rintro _ ⟨o, q, pu, ac, la, op, i, rfl, hi, hK⟩
  (try simp only [List.cons_append, List.nil_append])
  have L0 := hK.kpi
  have L1 := hK.len
  have L2 := hK.kla
  refine den_ite (fun h3 => ?_) (fun h3 => ?_)
  rotate_left
  · exact den_cal [.bool true] rfl ex_fn rfl rfl (den_ret rfl)
  simp only [E.den, D.toI, D.toB, D.toL, D.toS, D.len, D.mapL, flatD, dE] at h3
  have hi' : i < ks.length := by omega
  have hw : IntKind.wrap .i64 ((i : Int) + 1) = ((i + 1 : Nat) : Int) := by rw [wrap_i64 (by omega) (by omega)]; omega
  refine den_cal (evL (evI ((i + 1 : Nat) : Int))) rfl (event_fn _ (by omega)) (by simp only [E.den, D.toI, D.toB, D.toL, D.toS, D.len, D.mapL, flatD, dE]; rw [hw]) rfl ?_
  (try simp only [List.cons_append, List.nil_append])
  refine den_ev (evs_ob (by simp only [E.den, D.toI, D.toB, D.toL, D.toS, D.len, D.mapL, flatD, dE]; omega) (evs_ob (by simp only [E.den, D.toI, D.toB, D.toL, D.toS, D.len, D.mapL, flatD, dE]; omega) (evs_nil ?_)))
  have hg := get_U hi'
  have hmem : 0 ≤ ks.getD i 0 ∧ ks.getD i 0 ≤ 255 := kb _ (by simp [List.getD_eq_getElem?_getD, hi'])
  generalize ks.getD i 0 = k0 at hg hmem
  have s1 := Int.tmod_nonneg (3 : Int) hmem.1
  have s2 := Int.tmod_lt_of_pos k0 (b := 3) (by decide)
  have hwk : IntKind.wrap .i64 k0 = k0 := wrap_i64 (by omega) (by omega)
  have hwk2 : IntKind.wrap .i64 (1 + k0.tmod 3) = 1 + k0.tmod 3 := wrap_i64 (by omega) (by omega)
  obtain ⟨k, hk⟩ : ∃ k, 1 + k0.tmod 3 = k := ⟨_, rfl⟩
  rw [hk] at hwk2
  have hk3 : k = 1 ∨ k = 2 ∨ k = 3 := by omega
  generalize hn : ((i + 1 : Nat) : Int) = n at *
  refine den_join (fun xs => xs = evL (evA n k)) ?_ ?_
  · refine den_ite (fun h4 => ?_) (fun h4 => ?_)
    · simp only [E.den, D.toI, D.toB, D.toL, D.toS, D.len, D.mapL, flatD, dE, hg, hwk, hk, hwk2] at h4
      refine den_back rfl ?_ (by simp only []; omega)
      simp only [E.den, D.toI, D.toB, D.toL, D.toS, D.len, D.mapL, flatD, dE, hg, hwk, hk, hwk2]
      simp only [evA, evI, if_pos h4]
      (try rfl)
    · simp only [E.den, D.toI, D.toB, D.toL, D.toS, D.len, D.mapL, flatD, dE, hg, hwk, hk, hwk2] at h4
      refine den_back rfl ?_ (by simp only []; omega)
      simp only [E.den, D.toI, D.toB, D.toL, D.toS, D.len, D.mapL, flatD, dE, hg, hwk, hk, hwk2]
      simp only [evA, evI, if_neg h4]
      (try rfl)
  rintro _ rfl
  (try simp only [List.cons_append, List.nil_append])
  refine den_join (fun xs => xs = evL (evK n k)) ?_ ?_
  · refine den_ite (fun h4 => ?_) (fun h4 => ?_)
    · simp only [E.den, D.toI, D.toB, D.toL, D.toS, D.len, D.mapL, flatD, dE] at h4
      have h4' : k = 3 := h4
      refine den_back rfl ?_ (by simp only []; omega)
      simp only [E.den, D.toI, D.toB, D.toL, D.toS, D.len, D.mapL, flatD, dE]
      simp only [evA, evK, if_pos h4']
      (try rfl)
    · simp only [E.den, D.toI, D.toB, D.toL, D.toS, D.len, D.mapL, flatD, dE] at h4
      have h4' : ¬ k = 3 := h4
      refine den_back rfl ?_ (by simp only []; omega)
      simp only [E.den, D.toI, D.toB, D.toL, D.toS, D.len, D.mapL, flatD, dE]
      simp only [evA, evK, if_neg h4']
      (try rfl)
  rintro _ rfl
  (try simp only [List.cons_append, List.nil_append])
  have hev := evK_T (n := n) (k := k) (by omega) (by omega) hk3
  have hvl := evK_ok (n := n) (k := k) (by omega) (by omega) hk3
  have hP := kpush hK (by omega) hev hvl (by show n = _; omega)
  have heki : (evK n k).ki = k := rfl
  generalize evK n k = e at hev hvl hP heki
  have hPT := push_T hK.ob hev hK.ov
  refine den_cal [I64d (pushO o e).rm, evsD (pushO o e).it, I64d (pushO o e).lo, I64d (pushV o e)] rfl (push_fn o e hK.ob hev hK.ov) rfl rfl ?_
  (try simp only [List.cons_append, List.nil_append])
  have hw1 : IntKind.wrap .i64 (pu + 1) = pu + 1 := wrap_i64 (by omega) (by omega)
  have hw2 : IntKind.wrap .i64 (op + 1) = op + 1 := wrap_i64 (by omega) (by omega)
  refine den_join (fun xs => ∃ pu' op', xs = [I64d pu', I64d op'] ∧ KI (pushO o e) pu' ac la op' (i + 1) ∧ (pushO o e).it ≠ []) ?_ ?_
  · rcases hP with ⟨p1, p2, p3⟩ | ⟨p1, p2, p3, p4⟩
    · refine den_ite (fun h5 => ?_) (fun h5 => ?_)
      rotate_left
      · simp only [E.den, D.toI, D.toB, D.toL, D.toS, D.len, D.mapL, flatD, dE] at h5
        exact absurd p1 h5
      refine den_ite (fun h6 => ?_) (fun h6 => ?_)
      · simp only [E.den, D.toI, D.toB, D.toL, D.toS, D.len, D.mapL, flatD, dE] at h6
        rw [if_pos h6] at p2
        exact den_back rfl ⟨pu + 1, op + 1, (by simp only [E.den, D.toI, D.toB, D.toL, D.toS, D.len, D.mapL, flatD, dE]; rw [hw1, hw2]), p2, p3⟩ (by simp only []; omega)
      · simp only [E.den, D.toI, D.toB, D.toL, D.toS, D.len, D.mapL, flatD, dE] at h6
        rw [if_neg (fun c => c h6), Int.add_zero] at p2
        exact den_back rfl ⟨pu + 1, op, (by simp only [E.den, D.toI, D.toB, D.toL, D.toS, D.len, D.mapL, flatD, dE]; rw [hw1]), p2, p3⟩ (by simp only []; omega)
    · refine den_ite (fun h5 => ?_) (fun h5 => ?_)
      · simp only [E.den, D.toI, D.toB, D.toL, D.toS, D.len, D.mapL, flatD, dE] at h5
        omega
      refine den_ite (fun h6 => ?_) (fun h6 => ?_)
      · simp only [E.den, D.toI, D.toB, D.toL, D.toS, D.len, D.mapL, flatD, dE] at h6
        exact absurd p1 h6
      refine den_cal [.bool true] rfl (fun_as (osame_fn (pushO o e) o hPT.1 hK.ob) (by rw [decide_eq_true p2] <;> rfl)) rfl rfl ?_
      (try simp only [List.cons_append, List.nil_append])
      refine den_t rfl ?_
      exact den_back rfl ⟨pu, op, rfl, (by rw [p2]; exact p3), (by rw [p2]; exact p4)⟩ (by simp only []; omega)
  rintro _ ⟨pu1, op1, rfl, hK1, hne⟩
  (try simp only [List.cons_append, List.nil_append])
  clear hP hPT hw1 hw2 hev hvl
  obtain ⟨o1, ho1⟩ : ∃ o1, pushO o e = o1 := ⟨_, rfl⟩
  rw [ho1] at hK1 hne ⊢
  have L3 := hK1.len
  have L30 := hK1.kpi
  have L31 := hK1.kac
  have L4 := hK1.kla
  have hok1 := ov_ok hK1.ov
  refine den_cal [.str (headE o1).st, .str (headE o1).tx, I64d (headE o1).co, I64d (headE o1).sq, I64d (headE o1).ki, I64d (headE o1).at', .str (headE o1).tk, .bool (headE o1).off, I64d (headE o1).re, rdD (headE o1).rd, .bool (decide (o1.it ≠ []))] rfl (head_fn o1 (by omega) (ok_small hK1.ov)) rfl rfl ?_
  (try simp only [List.cons_append, List.nil_append])
  refine den_t (by simp only [E.den, D.toI, D.toB, D.toL, D.toS, D.len, D.mapL, flatD, dE]; exact hne) ?_
  obtain ⟨a1, a2, a3⟩ := kack hK1 hne
  refine den_join (fun xs => ∃ (o2 : Ob) (ac2 la2 op2 : Int), xs = [I64d o2.rm, evsD o2.it, I64d o2.lo, I64d ac2, I64d la2, I64d op2] ∧ KI o2 pu1 ac2 la2 op2 (i + 1)) ?_ ?_
  · refine den_ite (fun h5 => ?_) (fun h5 => ?_)
    rotate_left
    · exact den_back rfl ⟨o1, ac, la, op1, rfl, hK1⟩ (by simp only []; omega)
    simp only [E.den, D.toI, D.toB, D.toL, D.toS, D.len, D.mapL, flatD, dE] at h5
    have hia : i < ks2.length := by omega
    have hgb := get_bo hia
    refine den_ev (evs_ob (by simp only [E.den, D.toI, D.toB, D.toL, D.toS, D.len, D.mapL, flatD, dE]; omega) (evs_ob (by simp only [E.den, D.toI, D.toB, D.toL, D.toS, D.len, D.mapL, flatD, dE]; omega) (evs_nil ?_)))
    refine den_ite (fun h6 => ?_) (fun h6 => ?_)
    rotate_left
    · exact den_back rfl ⟨o1, ac, la, op1, rfl, hK1⟩ (by simp only []; omega)
    refine den_ite (fun h7 => ?_) (fun h7 => ?_)
    · simp only [E.den, D.toI, D.toB, D.toL, D.toS, D.len, D.mapL, flatD, dE] at h7
      omega
    have hw3 : IntKind.wrap .i64 (op1 - 1) = op1 - 1 := wrap_i64 (by omega) (by omega)
    have hw4 : IntKind.wrap .i64 (ac + 1) = ac + 1 := wrap_i64 (by omega) (by omega)
    refine den_join (fun xs => xs = [I64d (op1 - if (headE o1).ki ≠ 2 then 1 else 0)]) ?_ ?_
    · refine den_ite (fun h8 => ?_) (fun h8 => ?_)
      · simp only [E.den, D.toI, D.toB, D.toL, D.toS, D.len, D.mapL, flatD, dE] at h8
        refine den_back rfl ?_ (by simp only []; omega)
        simp only [E.den, D.toI, D.toB, D.toL, D.toS, D.len, D.mapL, flatD, dE]
        rw [if_pos h8, hw3]
      · simp only [E.den, D.toI, D.toB, D.toL, D.toS, D.len, D.mapL, flatD, dE] at h8
        refine den_back rfl ?_ (by simp only []; omega)
        simp only [E.den, D.toI, D.toB, D.toL, D.toS, D.len, D.mapL, flatD, dE]
        rw [if_neg (fun c => c h8), Int.sub_zero]
    rintro _ rfl
    (try simp only [List.cons_append, List.nil_append])
    refine den_cal [I64d (ackO o1 (headE o1).tx (headE o1).sq).rm, evsD (ackO o1 (headE o1).tx (headE o1).sq).it, I64d (ackO o1 (headE o1).tx (headE o1).sq).lo, I64d (ackV o1 (headE o1).tx (headE o1).sq)] rfl (ack_fn o1 (headE o1).tx (headE o1).sq (by omega) (ok_small hK1.ov)) rfl rfl ?_
    (try simp only [List.cons_append, List.nil_append])
    refine den_f (by simp only [E.den, D.toI, D.toB, D.toL, D.toS, D.len, D.mapL, flatD, dE]; exact a2) ?_
    exact den_back rfl ⟨_, ac + 1, (headE o1).at', _, (by simp only [E.den, D.toI, D.toB, D.toL, D.toS, D.len, D.mapL, flatD, dE]; rw [hw4]), a3⟩ (by simp only []; omega)
  rintro _ ⟨o2, ac2, la2, op2, rfl, hK2⟩
  (try simp only [List.cons_append, List.nil_append])
  clear a1 a2 a3
  have M1 := hK2.len
  have M0 := hK2.kpi
  have M2 := hK2.kla
  refine den_loopI (fun xs => ∃ (q2 : Bool) (j : Nat), xs = [.bool q2, I64d ((o2.it.take j).countP nu : Nat), I64d j] ∧ j ≤ o2.it.length) (fun xs => o2.it.length - (xs.getD 2 default).toI.toNat) ⟨q, 0, (by simp only [E.den, D.toI, D.toB, D.toL, D.toS, D.len, D.mapL, flatD, dE]; rfl), Nat.zero_le _⟩ ?_
  rintro _ ⟨q2, j, rfl, hj⟩
  (try simp only [List.cons_append, List.nil_append])
  have hcj : (o2.it.take j).countP nu ≤ (o2.it.take j).length := List.countP_le_length
  rw [List.length_take] at hcj
  refine den_ite (fun h9 => ?_) (fun h9 => ?_)
  · simp only [E.den, D.toI, D.toB, D.toL, D.toS, D.len, D.mapL, flatD, dE] at h9
    have hj' : j < o2.it.length := by omega
    have hgj := getD_map (g := evD) ev0 hj'
    have hwj : IntKind.wrap .i64 ((j : Int) + 1) = ((j + 1 : Nat) : Int) := by rw [wrap_i64 (by omega) (by omega)]; omega
    have hct : ((o2.it.take (j + 1)).countP nu : Int) = (o2.it.take j).countP nu + if (o2.it.getD j ev0).ki ≠ 2 then 1 else 0 := by
      rw [take_get ev0 hj', List.countP_append]
      push_cast
      rw [cnt_one]
    have hw5 : IntKind.wrap .i64 (((o2.it.take j).countP nu : Int) + 1) = (o2.it.take j).countP nu + 1 := wrap_i64 (by omega) (by omega)
    refine den_join (fun xs => xs = [I64d ((o2.it.take (j + 1)).countP nu : Nat)]) ?_ ?_
    · refine den_ev (evs_ob (by simp only [E.den, D.toI, D.toB, D.toL, D.toS, D.len, D.mapL, flatD, dE]; omega) (evs_ob (by simp only [E.den, D.toI, D.toB, D.toL, D.toS, D.len, D.mapL, flatD, dE]; omega) (evs_nil ?_)))
      refine den_ite (fun k1 => ?_) (fun k1 => ?_)
      · simp only [E.den, D.toI, D.toB, D.toL, D.toS, D.len, D.mapL, flatD, dE, hgj] at k1
        refine den_back rfl ?_ (by simp only []; omega)
        simp only [E.den, D.toI, D.toB, D.toL, D.toS, D.len, D.mapL, flatD, dE]
        rw [hct, if_pos k1, hw5]
      · simp only [E.den, D.toI, D.toB, D.toL, D.toS, D.len, D.mapL, flatD, dE, hgj] at k1
        refine den_back rfl ?_ (by simp only []; omega)
        simp only [E.den, D.toI, D.toB, D.toL, D.toS, D.len, D.mapL, flatD, dE]
        rw [hct, if_neg (fun c => c k1), Int.add_zero]
    rintro _ rfl
    (try simp only [List.cons_append, List.nil_append])
    refine den_ite (fun k2 => ?_) (fun k2 => ?_)
    rotate_left
    · exact den_back rfl ⟨q2, j + 1, (by simp only [E.den, D.toI, D.toB, D.toL, D.toS, D.len, D.mapL, flatD, dE]; rw [hwj]), by omega⟩ (by simp only []; simp only [E.den, D.toI, D.toB, D.toL, D.toS, D.len, D.mapL, flatD, dE]; rw [hwj]; omega)
    simp only [E.den, D.toI, D.toB, D.toL, D.toS, D.len, D.mapL, flatD, dE] at k2
    have hwp : IntKind.wrap .i64 ((j : Int) - 1) = ((j - 1 : Nat) : Int) := by rw [wrap_i64 (by omega) (by omega)]; omega
    have hgp := getD_map (g := evD) ev0 (show j - 1 < o2.it.length by omega)
    refine den_ev (evs_ob (by simp only [E.den, D.toI, D.toB, D.toL, D.toS, D.len, D.mapL, flatD, dE]; omega) (evs_ob (by simp only [E.den, D.toI, D.toB, D.toL, D.toS, D.len, D.mapL, flatD, dE]; omega) (evs_ob (by simp only [E.den, D.toI, D.toB, D.toL, D.toS, D.len, D.mapL, flatD, dE, hwp]; omega) (evs_ob (by simp only [E.den, D.toI, D.toB, D.toL, D.toS, D.len, D.mapL, flatD, dE, hwp]; omega) (evs_nil ?_)))))
    refine den_ite (fun k3 => ?_) (fun k3 => ?_)
    · simp only [E.den, D.toI, D.toB, D.toL, D.toS, D.len, D.mapL, flatD, dE, hgj, hwp, hgp] at k3
      exfalso
      have := List.pairwise_iff_getElem.1 hK2.asc (j - 1) j (by omega) hj' (by omega)
      rw [List.getD_eq_getElem?_getD, List.getElem?_eq_getElem hj', List.getD_eq_getElem?_getD, List.getElem?_eq_getElem (show j - 1 < o2.it.length by omega)] at k3
      simp only [Option.getD_some] at k3
      omega
    · exact den_back rfl ⟨q2, j + 1, (by simp only [E.den, D.toI, D.toB, D.toL, D.toS, D.len, D.mapL, flatD, dE]; rw [hwj]), by omega⟩ (by simp only []; simp only [E.den, D.toI, D.toB, D.toL, D.toS, D.len, D.mapL, flatD, dE]; rw [hwj]; omega)
  · simp only [E.den, D.toI, D.toB, D.toL, D.toS, D.len, D.mapL, flatD, dE] at h9
    have hjl : j = o2.it.length := by omega
    subst hjl
    have hop := hK2.kop
    have hpu := hK2.kpu
    have hlo := hK2.klo
    have hac := hK2.kac
    rw [List.take_length]
    refine den_f (by simp only [E.den, D.toI, D.toB, D.toL, D.toS, D.len, D.mapL, flatD, dE]; omega) ?_
    have hw6 : IntKind.wrap .i64 (ac2 + o2.lo) = ac2 + o2.lo := wrap_i64 (by omega) (by omega)
    have hw7 : IntKind.wrap .i64 (ac2 + o2.lo + o2.it.length) = ac2 + o2.lo + o2.it.length := wrap_i64 (by omega) (by omega)
    refine den_f (by simp only [E.den, D.toI, D.toB, D.toL, D.toS, D.len, D.mapL, flatD, dE, hw6, hw7]; omega) ?_
    refine den_back rfl ⟨o2, q2, pu1, ac2, la2, op2, i + 1, (by simp only [E.den, D.toI, D.toB, D.toL, D.toS, D.len, D.mapL, flatD, dE]; rw [hw, ← hn]), by omega, hK2⟩ (by simp only []; simp only [E.den, D.toI, D.toB, D.toL, D.toS, D.len, D.mapL, flatD, dE]; rw [hw]; omega)

set_option maxRecDepth 100000 in
theorem outboxKeeps_lifted (os : Os) (started : os.Started) (H : Type) (enc : TypeId × Value → H) :
    ReturnsInHanded {} Try.checked os 8 .any (Rows.outboxKeepsSpec.pre6 enc Try.prog Try.f8 Rows.outboxKeepsRow.domain false) (Rows.outboxKeepsSpec.post enc Try.prog Try.f8 false true false false) := by
  refine returnsInHanded_of_change (C := Try.checked) own started (by kernel_rfl) Try.func8
    (ChangeSpec.witness6 (enc := enc) (C := Try.checked) false ⟨#[], #[.int .u8 0, .slice none 0 0, .slice none 0 0], []⟩ 8 (by kernel_rfl) (by kernel_rfl) (by kernel_rfl) (by kernel_rfl)) ?_
  intro W base args ds gs before hval0 hW hcnd _
  have hval : ∀ (j : Nat) t v, Try.f8.params[j]? = some t → args[j]? = some v → Value.okWide Try.prog W .any base t v := hval0
  obtain ⟨q, q', hA0, _, _, _, _⟩ := id hW
  have hA : DataW.TrodAll enc Try.prog W 0 (fun _ => true) true Try.f8.params.toList args.toList ds q := hA0
  have walk := law_walk (P := Try.prog) (f := 8) (fn := Try.f8) (fun p hp => by cases hp) (Ts := [.c (.int .u8), .c (.lst [.int .u8]), .c (.lst [.bool])]) (by kernel_rfl) law_all hval hA
  rw [Try.params8] at hA
  obtain ⟨v0, vs0, d0, ds0, p0, q0, hargs0, rfl, rfl, h0, r0⟩ := trodAll_cons hA
  obtain ⟨v1, vs1, d1, ds1, p1, q1, hargs1, rfl, rfl, h1, r1⟩ := trodAll_cons r0
  subst hargs1
  obtain ⟨v2, vs2, d2, ds2, p2, q2, hargs2, rfl, rfl, h2, r2⟩ := trodAll_cons r1
  subst hargs2
  obtain ⟨rfl, rfl, rfl⟩ := trodAll_nil r2
  refine walk.mono fun e W' ⟨he, hb⟩ => ?_
  subst he
  exact ⟨_, rfl, law_post (tb := 4) laidOut rfl (by kernel_rfl) rfl Try.underlying4 hW rfl hb⟩

theorem outboxKeeps_holds : Rows.OutboxKeepsSaid :=
  OpenClaim.holds_of_wide 8 Try.f8 rfl rfl rfl rfl rfl rfl rfl ⟨rfl, rfl, rfl, rfl, rfl⟩ rfl rfl rfl rfl rfl (by kernel_rfl) Try.func8 (by kernel_rfl)
    (of_decide_eq_true (by kernel_rfl)) (by unfold Func.isWrapper; first | (rw [if_pos (by decide +kernel)]; kernel_rfl) | (rw [if_neg (by decide +kernel)]; exact ⟨rfl, rfl⟩))
    (fun os started H enc _ => outboxKeeps_lifted os started H enc)
#print axioms outboxKeeps_holds
end Go.Proofs.Ytmkkijgnlohieaa
