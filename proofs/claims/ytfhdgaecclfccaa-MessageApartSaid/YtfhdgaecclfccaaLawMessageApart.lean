/-
  MessageApart: its walk and its row.
-/
import Derived.Test.YtfhdgaecclfccaaX26
set_option maxRecDepth 100000
set_option linter.unusedSimpArgs false
set_option linter.unusedVariables false
namespace Go.Proofs.Ytfhdgaecclfccaa
open Go.Proofs.Ytfhdgaecclfccaa.Sy Go.Proofs.Ytfhdgaecclfccaa.L7 Go.Proofs.Ytfhdgaecclfccaa.Id Go.Proofs.Ytfhdgaecclfccaa.R26 Go.Proofs.Ytfhdgaecclfccaa.V26 Go.Proofs.Ytfhdgaecclfccaa.M26 Go.Proofs.Ytfhdgaecclfccaa.B26 Go.Proofs.Ytfhdgaecclfccaa.Y26 Go.RowKit Go.WideShapes Go.ChangeShapes Go.ChangeAt
def vclapart : VC := (.cal 7 [(.g [(.int .i64), (.int .i64), (.int .i64), (.int .i64), (.int .i64), (.int .i64), (.int .i64), (.int .i64), .str, .str, .str, .bool, (.lst [(.int .i64), (.int .i64)]), (.int .i64), (.int .i64), (.int .i64), (.int .i64), (.int .i64), .str, (.int .i64), (.int .i64), (.int .i64), (.int .i64), (.lst [(.int .i64), (.int .i64)]), (.lst [.str, .str, .str, (.int .i64), (.int .i64), (.int .i64)])])] [(.rc (.cons (.v 0) (.cons (.v 1) (.cons (.v 2) (.cons (.v 3) (.cons (.v 4) (.cons (.v 5) (.cons (.v 6) (.cons (.v 7) (.cons (.v 8) (.cons (.v 9) (.cons (.v 10) (.cons (.v 11) (.cons (.v 12) (.cons (.v 13) (.cons (.v 14) (.cons (.v 15) (.cons (.v 16) (.cons (.v 17) (.cons (.v 18) (.cons (.v 19) (.cons (.v 20) (.cons (.v 21) (.cons (.v 22) (.cons (.v 23) (.cons (.v 24) .nil))))))))))))))))))))))))))] [(.c .bool)] 51
 (.ite (.v 51)
  (.cal 7 [(.g [(.int .i64), (.int .i64), (.int .i64), (.int .i64), (.int .i64), (.int .i64), (.int .i64), (.int .i64), .str, .str, .str, .bool, (.lst [(.int .i64), (.int .i64)]), (.int .i64), (.int .i64), (.int .i64), (.int .i64), (.int .i64), .str, (.int .i64), (.int .i64), (.int .i64), (.int .i64), (.lst [(.int .i64), (.int .i64)]), (.lst [.str, .str, .str, (.int .i64), (.int .i64), (.int .i64)])])] [(.rc (.cons (.v 25) (.cons (.v 26) (.cons (.v 27) (.cons (.v 28) (.cons (.v 29) (.cons (.v 30) (.cons (.v 31) (.cons (.v 32) (.cons (.v 33) (.cons (.v 34) (.cons (.v 35) (.cons (.v 36) (.cons (.v 37) (.cons (.v 38) (.cons (.v 39) (.cons (.v 40) (.cons (.v 41) (.cons (.v 42) (.cons (.v 43) (.cons (.v 44) (.cons (.v 45) (.cons (.v 46) (.cons (.v 47) (.cons (.v 48) (.cons (.v 49) .nil))))))))))))))))))))))))))] [(.c .bool)] 52
   (.ite (.v 52)
    (.cal 17 [(.g [(.int .i64), (.int .i64), (.int .i64), (.int .i64), (.int .i64), (.int .i64), (.int .i64), (.int .i64), .str, .str, .str, .bool, (.lst [(.int .i64), (.int .i64)]), (.int .i64), (.int .i64), (.int .i64), (.int .i64), (.int .i64), .str, (.int .i64), (.int .i64), (.int .i64), (.int .i64), (.lst [(.int .i64), (.int .i64)]), (.lst [.str, .str, .str, (.int .i64), (.int .i64), (.int .i64)])])] [(.rc (.cons (.v 0) (.cons (.v 1) (.cons (.v 2) (.cons (.v 3) (.cons (.v 4) (.cons (.v 5) (.cons (.v 6) (.cons (.v 7) (.cons (.v 8) (.cons (.v 9) (.cons (.v 10) (.cons (.v 11) (.cons (.v 12) (.cons (.v 13) (.cons (.v 14) (.cons (.v 15) (.cons (.v 16) (.cons (.v 17) (.cons (.v 18) (.cons (.v 19) (.cons (.v 20) (.cons (.v 21) (.cons (.v 22) (.cons (.v 23) (.cons (.v 24) .nil))))))))))))))))))))))))))] [(.c (.lst [(.int .u8)])), (.c (.int .i64))] 53
     (.cal 17 [(.g [(.int .i64), (.int .i64), (.int .i64), (.int .i64), (.int .i64), (.int .i64), (.int .i64), (.int .i64), .str, .str, .str, .bool, (.lst [(.int .i64), (.int .i64)]), (.int .i64), (.int .i64), (.int .i64), (.int .i64), (.int .i64), .str, (.int .i64), (.int .i64), (.int .i64), (.int .i64), (.lst [(.int .i64), (.int .i64)]), (.lst [.str, .str, .str, (.int .i64), (.int .i64), (.int .i64)])])] [(.rc (.cons (.v 25) (.cons (.v 26) (.cons (.v 27) (.cons (.v 28) (.cons (.v 29) (.cons (.v 30) (.cons (.v 31) (.cons (.v 32) (.cons (.v 33) (.cons (.v 34) (.cons (.v 35) (.cons (.v 36) (.cons (.v 37) (.cons (.v 38) (.cons (.v 39) (.cons (.v 40) (.cons (.v 41) (.cons (.v 42) (.cons (.v 43) (.cons (.v 44) (.cons (.v 45) (.cons (.v 46) (.cons (.v 47) (.cons (.v 48) (.cons (.v 49) .nil))))))))))))))))))))))))))] [(.c (.lst [(.int .u8)])), (.c (.int .i64))] 55
      (.ite (.cmp .eql (.v 54) (.ki .i64 0))
       (.ite (.cmp .eql (.v 56) (.ki .i64 0))
        (.ev [(.call 16 [(.g [(.int .i64), (.int .i64), (.int .i64), (.int .i64), (.int .i64), (.int .i64), (.int .i64), (.int .i64), .str, .str, .str, .bool, (.lst [(.int .i64), (.int .i64)]), (.int .i64), (.int .i64), (.int .i64), (.int .i64), (.int .i64), .str, (.int .i64), (.int .i64), (.int .i64), (.int .i64), (.lst [(.int .i64), (.int .i64)]), (.lst [.str, .str, .str, (.int .i64), (.int .i64), (.int .i64)])]), (.g [(.int .i64), (.int .i64), (.int .i64), (.int .i64), (.int .i64), (.int .i64), (.int .i64), (.int .i64), .str, .str, .str, .bool, (.lst [(.int .i64), (.int .i64)]), (.int .i64), (.int .i64), (.int .i64), (.int .i64), (.int .i64), .str, (.int .i64), (.int .i64), (.int .i64), (.int .i64), (.lst [(.int .i64), (.int .i64)]), (.lst [.str, .str, .str, (.int .i64), (.int .i64), (.int .i64)])])] [(.rc (.cons (.v 0) (.cons (.v 1) (.cons (.v 2) (.cons (.v 3) (.cons (.v 4) (.cons (.v 5) (.cons (.v 6) (.cons (.v 7) (.cons (.v 8) (.cons (.v 9) (.cons (.v 10) (.cons (.v 11) (.cons (.v 12) (.cons (.v 13) (.cons (.v 14) (.cons (.v 15) (.cons (.v 16) (.cons (.v 17) (.cons (.v 18) (.cons (.v 19) (.cons (.v 20) (.cons (.v 21) (.cons (.v 22) (.cons (.v 23) (.cons (.v 24) .nil)))))))))))))))))))))))))), (.rc (.cons (.v 25) (.cons (.v 26) (.cons (.v 27) (.cons (.v 28) (.cons (.v 29) (.cons (.v 30) (.cons (.v 31) (.cons (.v 32) (.cons (.v 33) (.cons (.v 34) (.cons (.v 35) (.cons (.v 36) (.cons (.v 37) (.cons (.v 38) (.cons (.v 39) (.cons (.v 40) (.cons (.v 41) (.cons (.v 42) (.cons (.v 43) (.cons (.v 44) (.cons (.v 45) (.cons (.v 46) (.cons (.v 47) (.cons (.v 48) (.cons (.v 49) .nil))))))))))))))))))))))))))] [(.c .bool)] 57)]
         (.ite (.beq (.seq (.b2s (.v 53)) (.b2s (.v 55))) (.v 57))
          (.cal 9 [(.g [(.int .i64), (.int .i64), (.int .i64), (.int .i64), (.int .i64), (.int .i64), (.int .i64), (.int .i64), .str, .str, .str, .bool, (.lst [(.int .i64), (.int .i64)]), (.int .i64), (.int .i64), (.int .i64), (.int .i64), (.int .i64), .str, (.int .i64), (.int .i64), (.int .i64), (.int .i64), (.lst [(.int .i64), (.int .i64)]), (.lst [.str, .str, .str, (.int .i64), (.int .i64), (.int .i64)])])] [(.rc (.cons (.v 0) (.cons (.v 1) (.cons (.v 2) (.cons (.v 3) (.cons (.v 4) (.cons (.v 5) (.cons (.v 6) (.cons (.v 7) (.cons (.v 8) (.cons (.v 9) (.cons (.v 10) (.cons (.v 11) (.cons (.v 12) (.cons (.v 13) (.cons (.v 14) (.cons (.v 15) (.cons (.v 16) (.cons (.v 17) (.cons (.v 18) (.cons (.v 19) (.cons (.v 20) (.cons (.v 21) (.cons (.v 22) (.cons (.v 23) (.cons (.v 24) .nil))))))))))))))))))))))))))] [(.c (.int .i64))] 58
           (.ite (.cmp .eql (.v 58) (.ki .i64 0))
            (.ite (.cmp .geq (.v 50) (.ki .i64 1))
             (.ite (.cmp .leq (.v 50) (.ki .i64 25))
              (.cal 12 [(.g [(.int .i64), (.int .i64), (.int .i64), (.int .i64), (.int .i64), (.int .i64), (.int .i64), (.int .i64), .str, .str, .str, .bool, (.lst [(.int .i64), (.int .i64)]), (.int .i64), (.int .i64), (.int .i64), (.int .i64), (.int .i64), .str, (.int .i64), (.int .i64), (.int .i64), (.int .i64), (.lst [(.int .i64), (.int .i64)]), (.lst [.str, .str, .str, (.int .i64), (.int .i64), (.int .i64)])]), (.c (.int .i64))] [(.rc (.cons (.v 0) (.cons (.v 1) (.cons (.v 2) (.cons (.v 3) (.cons (.v 4) (.cons (.v 5) (.cons (.v 6) (.cons (.v 7) (.cons (.v 8) (.cons (.v 9) (.cons (.v 10) (.cons (.v 11) (.cons (.v 12) (.cons (.v 13) (.cons (.v 14) (.cons (.v 15) (.cons (.v 16) (.cons (.v 17) (.cons (.v 18) (.cons (.v 19) (.cons (.v 20) (.cons (.v 21) (.cons (.v 22) (.cons (.v 23) (.cons (.v 24) .nil)))))))))))))))))))))))))), (.v 50)] [(.g [(.int .i64), (.int .i64), (.int .i64), (.int .i64), (.int .i64), (.int .i64), (.int .i64), (.int .i64), .str, .str, .str, .bool, (.lst [(.int .i64), (.int .i64)]), (.int .i64), (.int .i64), (.int .i64), (.int .i64), (.int .i64), .str, (.int .i64), (.int .i64), (.int .i64), (.int .i64), (.lst [(.int .i64), (.int .i64)]), (.lst [.str, .str, .str, (.int .i64), (.int .i64), (.int .i64)])])] 59
               (.cal 9 [(.g [(.int .i64), (.int .i64), (.int .i64), (.int .i64), (.int .i64), (.int .i64), (.int .i64), (.int .i64), .str, .str, .str, .bool, (.lst [(.int .i64), (.int .i64)]), (.int .i64), (.int .i64), (.int .i64), (.int .i64), (.int .i64), .str, (.int .i64), (.int .i64), (.int .i64), (.int .i64), (.lst [(.int .i64), (.int .i64)]), (.lst [.str, .str, .str, (.int .i64), (.int .i64), (.int .i64)])])] [(.rc (.cons (.v 59) (.cons (.v 60) (.cons (.v 61) (.cons (.v 62) (.cons (.v 63) (.cons (.v 64) (.cons (.v 65) (.cons (.v 66) (.cons (.v 67) (.cons (.v 68) (.cons (.v 69) (.cons (.v 70) (.cons (.v 71) (.cons (.v 72) (.cons (.v 73) (.cons (.v 74) (.cons (.v 75) (.cons (.v 76) (.cons (.v 77) (.cons (.v 78) (.cons (.v 79) (.cons (.v 80) (.cons (.v 81) (.cons (.v 82) (.cons (.v 83) .nil))))))))))))))))))))))))))] [(.c (.int .i64))] 84
                (.ite (.cmp .neq (.v 84) (.ki .i64 0))
                 (.ret [(.kb false)])
                 (.cal 14 [(.g [(.int .i64), (.int .i64), (.int .i64), (.int .i64), (.int .i64), (.int .i64), (.int .i64), (.int .i64), .str, .str, .str, .bool, (.lst [(.int .i64), (.int .i64)]), (.int .i64), (.int .i64), (.int .i64), (.int .i64), (.int .i64), .str, (.int .i64), (.int .i64), (.int .i64), (.int .i64), (.lst [(.int .i64), (.int .i64)]), (.lst [.str, .str, .str, (.int .i64), (.int .i64), (.int .i64)])]), (.c (.int .i64))] [(.rc (.cons (.v 0) (.cons (.v 1) (.cons (.v 2) (.cons (.v 3) (.cons (.v 4) (.cons (.v 5) (.cons (.v 6) (.cons (.v 7) (.cons (.v 8) (.cons (.v 9) (.cons (.v 10) (.cons (.v 11) (.cons (.v 12) (.cons (.v 13) (.cons (.v 14) (.cons (.v 15) (.cons (.v 16) (.cons (.v 17) (.cons (.v 18) (.cons (.v 19) (.cons (.v 20) (.cons (.v 21) (.cons (.v 22) (.cons (.v 23) (.cons (.v 24) .nil)))))))))))))))))))))))))), (.v 50)] [(.g [(.int .i64), (.int .i64), (.int .i64), (.int .i64), (.int .i64), (.int .i64), (.int .i64), (.int .i64), .str, .str, .str, .bool, (.lst [(.int .i64), (.int .i64)]), (.int .i64), (.int .i64), (.int .i64), (.int .i64), (.int .i64), .str, (.int .i64), (.int .i64), (.int .i64), (.int .i64), (.lst [(.int .i64), (.int .i64)]), (.lst [.str, .str, .str, (.int .i64), (.int .i64), (.int .i64)])])] 85
                  (.cal 9 [(.g [(.int .i64), (.int .i64), (.int .i64), (.int .i64), (.int .i64), (.int .i64), (.int .i64), (.int .i64), .str, .str, .str, .bool, (.lst [(.int .i64), (.int .i64)]), (.int .i64), (.int .i64), (.int .i64), (.int .i64), (.int .i64), .str, (.int .i64), (.int .i64), (.int .i64), (.int .i64), (.lst [(.int .i64), (.int .i64)]), (.lst [.str, .str, .str, (.int .i64), (.int .i64), (.int .i64)])])] [(.rc (.cons (.v 85) (.cons (.v 86) (.cons (.v 87) (.cons (.v 88) (.cons (.v 89) (.cons (.v 90) (.cons (.v 91) (.cons (.v 92) (.cons (.v 93) (.cons (.v 94) (.cons (.v 95) (.cons (.v 96) (.cons (.v 97) (.cons (.v 98) (.cons (.v 99) (.cons (.v 100) (.cons (.v 101) (.cons (.v 102) (.cons (.v 103) (.cons (.v 104) (.cons (.v 105) (.cons (.v 106) (.cons (.v 107) (.cons (.v 108) (.cons (.v 109) .nil))))))))))))))))))))))))))] [(.c (.int .i64))] 110
                   (.ite (.cmp .neq (.v 110) (.ki .i64 0))
                    (.ret [(.kb false)])
                    (.cal 8 [] [] [(.c .bool)] 111
                     (.ret [(.v 111)]))))))))
              (.cal 8 [] [] [(.c .bool)] 59
               (.ret [(.v 59)])))
             (.cal 8 [] [] [(.c .bool)] 59
              (.ret [(.v 59)])))
            (.cal 8 [] [] [(.c .bool)] 59
             (.ret [(.v 59)]))))
          (.ret [(.kb false)])))
        (.cal 9 [(.g [(.int .i64), (.int .i64), (.int .i64), (.int .i64), (.int .i64), (.int .i64), (.int .i64), (.int .i64), .str, .str, .str, .bool, (.lst [(.int .i64), (.int .i64)]), (.int .i64), (.int .i64), (.int .i64), (.int .i64), (.int .i64), .str, (.int .i64), (.int .i64), (.int .i64), (.int .i64), (.lst [(.int .i64), (.int .i64)]), (.lst [.str, .str, .str, (.int .i64), (.int .i64), (.int .i64)])])] [(.rc (.cons (.v 0) (.cons (.v 1) (.cons (.v 2) (.cons (.v 3) (.cons (.v 4) (.cons (.v 5) (.cons (.v 6) (.cons (.v 7) (.cons (.v 8) (.cons (.v 9) (.cons (.v 10) (.cons (.v 11) (.cons (.v 12) (.cons (.v 13) (.cons (.v 14) (.cons (.v 15) (.cons (.v 16) (.cons (.v 17) (.cons (.v 18) (.cons (.v 19) (.cons (.v 20) (.cons (.v 21) (.cons (.v 22) (.cons (.v 23) (.cons (.v 24) .nil))))))))))))))))))))))))))] [(.c (.int .i64))] 57
         (.ite (.cmp .eql (.v 57) (.ki .i64 0))
          (.ite (.cmp .geq (.v 50) (.ki .i64 1))
           (.ite (.cmp .leq (.v 50) (.ki .i64 25))
            (.cal 12 [(.g [(.int .i64), (.int .i64), (.int .i64), (.int .i64), (.int .i64), (.int .i64), (.int .i64), (.int .i64), .str, .str, .str, .bool, (.lst [(.int .i64), (.int .i64)]), (.int .i64), (.int .i64), (.int .i64), (.int .i64), (.int .i64), .str, (.int .i64), (.int .i64), (.int .i64), (.int .i64), (.lst [(.int .i64), (.int .i64)]), (.lst [.str, .str, .str, (.int .i64), (.int .i64), (.int .i64)])]), (.c (.int .i64))] [(.rc (.cons (.v 0) (.cons (.v 1) (.cons (.v 2) (.cons (.v 3) (.cons (.v 4) (.cons (.v 5) (.cons (.v 6) (.cons (.v 7) (.cons (.v 8) (.cons (.v 9) (.cons (.v 10) (.cons (.v 11) (.cons (.v 12) (.cons (.v 13) (.cons (.v 14) (.cons (.v 15) (.cons (.v 16) (.cons (.v 17) (.cons (.v 18) (.cons (.v 19) (.cons (.v 20) (.cons (.v 21) (.cons (.v 22) (.cons (.v 23) (.cons (.v 24) .nil)))))))))))))))))))))))))), (.v 50)] [(.g [(.int .i64), (.int .i64), (.int .i64), (.int .i64), (.int .i64), (.int .i64), (.int .i64), (.int .i64), .str, .str, .str, .bool, (.lst [(.int .i64), (.int .i64)]), (.int .i64), (.int .i64), (.int .i64), (.int .i64), (.int .i64), .str, (.int .i64), (.int .i64), (.int .i64), (.int .i64), (.lst [(.int .i64), (.int .i64)]), (.lst [.str, .str, .str, (.int .i64), (.int .i64), (.int .i64)])])] 58
             (.cal 9 [(.g [(.int .i64), (.int .i64), (.int .i64), (.int .i64), (.int .i64), (.int .i64), (.int .i64), (.int .i64), .str, .str, .str, .bool, (.lst [(.int .i64), (.int .i64)]), (.int .i64), (.int .i64), (.int .i64), (.int .i64), (.int .i64), .str, (.int .i64), (.int .i64), (.int .i64), (.int .i64), (.lst [(.int .i64), (.int .i64)]), (.lst [.str, .str, .str, (.int .i64), (.int .i64), (.int .i64)])])] [(.rc (.cons (.v 58) (.cons (.v 59) (.cons (.v 60) (.cons (.v 61) (.cons (.v 62) (.cons (.v 63) (.cons (.v 64) (.cons (.v 65) (.cons (.v 66) (.cons (.v 67) (.cons (.v 68) (.cons (.v 69) (.cons (.v 70) (.cons (.v 71) (.cons (.v 72) (.cons (.v 73) (.cons (.v 74) (.cons (.v 75) (.cons (.v 76) (.cons (.v 77) (.cons (.v 78) (.cons (.v 79) (.cons (.v 80) (.cons (.v 81) (.cons (.v 82) .nil))))))))))))))))))))))))))] [(.c (.int .i64))] 83
              (.ite (.cmp .neq (.v 83) (.ki .i64 0))
               (.ret [(.kb false)])
               (.cal 14 [(.g [(.int .i64), (.int .i64), (.int .i64), (.int .i64), (.int .i64), (.int .i64), (.int .i64), (.int .i64), .str, .str, .str, .bool, (.lst [(.int .i64), (.int .i64)]), (.int .i64), (.int .i64), (.int .i64), (.int .i64), (.int .i64), .str, (.int .i64), (.int .i64), (.int .i64), (.int .i64), (.lst [(.int .i64), (.int .i64)]), (.lst [.str, .str, .str, (.int .i64), (.int .i64), (.int .i64)])]), (.c (.int .i64))] [(.rc (.cons (.v 0) (.cons (.v 1) (.cons (.v 2) (.cons (.v 3) (.cons (.v 4) (.cons (.v 5) (.cons (.v 6) (.cons (.v 7) (.cons (.v 8) (.cons (.v 9) (.cons (.v 10) (.cons (.v 11) (.cons (.v 12) (.cons (.v 13) (.cons (.v 14) (.cons (.v 15) (.cons (.v 16) (.cons (.v 17) (.cons (.v 18) (.cons (.v 19) (.cons (.v 20) (.cons (.v 21) (.cons (.v 22) (.cons (.v 23) (.cons (.v 24) .nil)))))))))))))))))))))))))), (.v 50)] [(.g [(.int .i64), (.int .i64), (.int .i64), (.int .i64), (.int .i64), (.int .i64), (.int .i64), (.int .i64), .str, .str, .str, .bool, (.lst [(.int .i64), (.int .i64)]), (.int .i64), (.int .i64), (.int .i64), (.int .i64), (.int .i64), .str, (.int .i64), (.int .i64), (.int .i64), (.int .i64), (.lst [(.int .i64), (.int .i64)]), (.lst [.str, .str, .str, (.int .i64), (.int .i64), (.int .i64)])])] 84
                (.cal 9 [(.g [(.int .i64), (.int .i64), (.int .i64), (.int .i64), (.int .i64), (.int .i64), (.int .i64), (.int .i64), .str, .str, .str, .bool, (.lst [(.int .i64), (.int .i64)]), (.int .i64), (.int .i64), (.int .i64), (.int .i64), (.int .i64), .str, (.int .i64), (.int .i64), (.int .i64), (.int .i64), (.lst [(.int .i64), (.int .i64)]), (.lst [.str, .str, .str, (.int .i64), (.int .i64), (.int .i64)])])] [(.rc (.cons (.v 84) (.cons (.v 85) (.cons (.v 86) (.cons (.v 87) (.cons (.v 88) (.cons (.v 89) (.cons (.v 90) (.cons (.v 91) (.cons (.v 92) (.cons (.v 93) (.cons (.v 94) (.cons (.v 95) (.cons (.v 96) (.cons (.v 97) (.cons (.v 98) (.cons (.v 99) (.cons (.v 100) (.cons (.v 101) (.cons (.v 102) (.cons (.v 103) (.cons (.v 104) (.cons (.v 105) (.cons (.v 106) (.cons (.v 107) (.cons (.v 108) .nil))))))))))))))))))))))))))] [(.c (.int .i64))] 109
                 (.ite (.cmp .neq (.v 109) (.ki .i64 0))
                  (.ret [(.kb false)])
                  (.cal 8 [] [] [(.c .bool)] 110
                   (.ret [(.v 110)]))))))))
            (.cal 8 [] [] [(.c .bool)] 58
             (.ret [(.v 58)])))
           (.cal 8 [] [] [(.c .bool)] 58
            (.ret [(.v 58)])))
          (.cal 8 [] [] [(.c .bool)] 58
           (.ret [(.v 58)])))))
       (.cal 9 [(.g [(.int .i64), (.int .i64), (.int .i64), (.int .i64), (.int .i64), (.int .i64), (.int .i64), (.int .i64), .str, .str, .str, .bool, (.lst [(.int .i64), (.int .i64)]), (.int .i64), (.int .i64), (.int .i64), (.int .i64), (.int .i64), .str, (.int .i64), (.int .i64), (.int .i64), (.int .i64), (.lst [(.int .i64), (.int .i64)]), (.lst [.str, .str, .str, (.int .i64), (.int .i64), (.int .i64)])])] [(.rc (.cons (.v 0) (.cons (.v 1) (.cons (.v 2) (.cons (.v 3) (.cons (.v 4) (.cons (.v 5) (.cons (.v 6) (.cons (.v 7) (.cons (.v 8) (.cons (.v 9) (.cons (.v 10) (.cons (.v 11) (.cons (.v 12) (.cons (.v 13) (.cons (.v 14) (.cons (.v 15) (.cons (.v 16) (.cons (.v 17) (.cons (.v 18) (.cons (.v 19) (.cons (.v 20) (.cons (.v 21) (.cons (.v 22) (.cons (.v 23) (.cons (.v 24) .nil))))))))))))))))))))))))))] [(.c (.int .i64))] 57
        (.ite (.cmp .eql (.v 57) (.ki .i64 0))
         (.ite (.cmp .geq (.v 50) (.ki .i64 1))
          (.ite (.cmp .leq (.v 50) (.ki .i64 25))
           (.cal 12 [(.g [(.int .i64), (.int .i64), (.int .i64), (.int .i64), (.int .i64), (.int .i64), (.int .i64), (.int .i64), .str, .str, .str, .bool, (.lst [(.int .i64), (.int .i64)]), (.int .i64), (.int .i64), (.int .i64), (.int .i64), (.int .i64), .str, (.int .i64), (.int .i64), (.int .i64), (.int .i64), (.lst [(.int .i64), (.int .i64)]), (.lst [.str, .str, .str, (.int .i64), (.int .i64), (.int .i64)])]), (.c (.int .i64))] [(.rc (.cons (.v 0) (.cons (.v 1) (.cons (.v 2) (.cons (.v 3) (.cons (.v 4) (.cons (.v 5) (.cons (.v 6) (.cons (.v 7) (.cons (.v 8) (.cons (.v 9) (.cons (.v 10) (.cons (.v 11) (.cons (.v 12) (.cons (.v 13) (.cons (.v 14) (.cons (.v 15) (.cons (.v 16) (.cons (.v 17) (.cons (.v 18) (.cons (.v 19) (.cons (.v 20) (.cons (.v 21) (.cons (.v 22) (.cons (.v 23) (.cons (.v 24) .nil)))))))))))))))))))))))))), (.v 50)] [(.g [(.int .i64), (.int .i64), (.int .i64), (.int .i64), (.int .i64), (.int .i64), (.int .i64), (.int .i64), .str, .str, .str, .bool, (.lst [(.int .i64), (.int .i64)]), (.int .i64), (.int .i64), (.int .i64), (.int .i64), (.int .i64), .str, (.int .i64), (.int .i64), (.int .i64), (.int .i64), (.lst [(.int .i64), (.int .i64)]), (.lst [.str, .str, .str, (.int .i64), (.int .i64), (.int .i64)])])] 58
            (.cal 9 [(.g [(.int .i64), (.int .i64), (.int .i64), (.int .i64), (.int .i64), (.int .i64), (.int .i64), (.int .i64), .str, .str, .str, .bool, (.lst [(.int .i64), (.int .i64)]), (.int .i64), (.int .i64), (.int .i64), (.int .i64), (.int .i64), .str, (.int .i64), (.int .i64), (.int .i64), (.int .i64), (.lst [(.int .i64), (.int .i64)]), (.lst [.str, .str, .str, (.int .i64), (.int .i64), (.int .i64)])])] [(.rc (.cons (.v 58) (.cons (.v 59) (.cons (.v 60) (.cons (.v 61) (.cons (.v 62) (.cons (.v 63) (.cons (.v 64) (.cons (.v 65) (.cons (.v 66) (.cons (.v 67) (.cons (.v 68) (.cons (.v 69) (.cons (.v 70) (.cons (.v 71) (.cons (.v 72) (.cons (.v 73) (.cons (.v 74) (.cons (.v 75) (.cons (.v 76) (.cons (.v 77) (.cons (.v 78) (.cons (.v 79) (.cons (.v 80) (.cons (.v 81) (.cons (.v 82) .nil))))))))))))))))))))))))))] [(.c (.int .i64))] 83
             (.ite (.cmp .neq (.v 83) (.ki .i64 0))
              (.ret [(.kb false)])
              (.cal 14 [(.g [(.int .i64), (.int .i64), (.int .i64), (.int .i64), (.int .i64), (.int .i64), (.int .i64), (.int .i64), .str, .str, .str, .bool, (.lst [(.int .i64), (.int .i64)]), (.int .i64), (.int .i64), (.int .i64), (.int .i64), (.int .i64), .str, (.int .i64), (.int .i64), (.int .i64), (.int .i64), (.lst [(.int .i64), (.int .i64)]), (.lst [.str, .str, .str, (.int .i64), (.int .i64), (.int .i64)])]), (.c (.int .i64))] [(.rc (.cons (.v 0) (.cons (.v 1) (.cons (.v 2) (.cons (.v 3) (.cons (.v 4) (.cons (.v 5) (.cons (.v 6) (.cons (.v 7) (.cons (.v 8) (.cons (.v 9) (.cons (.v 10) (.cons (.v 11) (.cons (.v 12) (.cons (.v 13) (.cons (.v 14) (.cons (.v 15) (.cons (.v 16) (.cons (.v 17) (.cons (.v 18) (.cons (.v 19) (.cons (.v 20) (.cons (.v 21) (.cons (.v 22) (.cons (.v 23) (.cons (.v 24) .nil)))))))))))))))))))))))))), (.v 50)] [(.g [(.int .i64), (.int .i64), (.int .i64), (.int .i64), (.int .i64), (.int .i64), (.int .i64), (.int .i64), .str, .str, .str, .bool, (.lst [(.int .i64), (.int .i64)]), (.int .i64), (.int .i64), (.int .i64), (.int .i64), (.int .i64), .str, (.int .i64), (.int .i64), (.int .i64), (.int .i64), (.lst [(.int .i64), (.int .i64)]), (.lst [.str, .str, .str, (.int .i64), (.int .i64), (.int .i64)])])] 84
               (.cal 9 [(.g [(.int .i64), (.int .i64), (.int .i64), (.int .i64), (.int .i64), (.int .i64), (.int .i64), (.int .i64), .str, .str, .str, .bool, (.lst [(.int .i64), (.int .i64)]), (.int .i64), (.int .i64), (.int .i64), (.int .i64), (.int .i64), .str, (.int .i64), (.int .i64), (.int .i64), (.int .i64), (.lst [(.int .i64), (.int .i64)]), (.lst [.str, .str, .str, (.int .i64), (.int .i64), (.int .i64)])])] [(.rc (.cons (.v 84) (.cons (.v 85) (.cons (.v 86) (.cons (.v 87) (.cons (.v 88) (.cons (.v 89) (.cons (.v 90) (.cons (.v 91) (.cons (.v 92) (.cons (.v 93) (.cons (.v 94) (.cons (.v 95) (.cons (.v 96) (.cons (.v 97) (.cons (.v 98) (.cons (.v 99) (.cons (.v 100) (.cons (.v 101) (.cons (.v 102) (.cons (.v 103) (.cons (.v 104) (.cons (.v 105) (.cons (.v 106) (.cons (.v 107) (.cons (.v 108) .nil))))))))))))))))))))))))))] [(.c (.int .i64))] 109
                (.ite (.cmp .neq (.v 109) (.ki .i64 0))
                 (.ret [(.kb false)])
                 (.cal 8 [] [] [(.c .bool)] 110
                  (.ret [(.v 110)]))))))))
           (.cal 8 [] [] [(.c .bool)] 58
            (.ret [(.v 58)])))
          (.cal 8 [] [] [(.c .bool)] 58
           (.ret [(.v 58)])))
         (.cal 8 [] [] [(.c .bool)] 58
          (.ret [(.v 58)])))))))
    (.cal 8 [] [] [(.c .bool)] 53
     (.ret [(.v 53)]))))
  (.cal 8 [] [] [(.c .bool)] 52
   (.ret [(.v 52)]))))
theorem lapart_ent : EntOK Try.prog [] ⟨6, [(.g [(.int .i64), (.int .i64), (.int .i64), (.int .i64), (.int .i64), (.int .i64), (.int .i64), (.int .i64), .str, .str, .str, .bool, (.lst [(.int .i64), (.int .i64)]), (.int .i64), (.int .i64), (.int .i64), (.int .i64), (.int .i64), .str, (.int .i64), (.int .i64), (.int .i64), (.int .i64), (.lst [(.int .i64), (.int .i64)]), (.lst [.str, .str, .str, (.int .i64), (.int .i64), (.int .i64)])]), (.g [(.int .i64), (.int .i64), (.int .i64), (.int .i64), (.int .i64), (.int .i64), (.int .i64), (.int .i64), .str, .str, .str, .bool, (.lst [(.int .i64), (.int .i64)]), (.int .i64), (.int .i64), (.int .i64), (.int .i64), (.int .i64), .str, (.int .i64), (.int .i64), (.int .i64), (.int .i64), (.lst [(.int .i64), (.int .i64)]), (.lst [.str, .str, .str, (.int .i64), (.int .i64), (.int .i64)])]), (.c (.int .i64))], [(.c .bool)], vclapart⟩ :=
  ent_of_gen M26.hP Try.func6 rfl (by decide) (sg := fun _ => none) (by kernel_rfl)

set_option maxHeartbeats 4000000 in
theorem law_all (xs : List D) (h : TypTs [tM, tM, tI] xs) : Fun Try.prog [] 6 [tM, tM, tI] xs [.c .bool] (.ok [.bool true]) := by
  obtain ⟨d, _, rfl, h0, _, _, rfl, h1, _, _, rfl, h2, rfl⟩ := h
  obtain ⟨a, rfl, ha⟩ := typ_msg h0
  obtain ⟨b, rfl, hb⟩ := typ_msg h1
  obtain ⟨s, rfl, hs⟩ := typ_int h2
  refine lapart_ent _ _ ?_
  show vclapart.den _ _ _ _ _
  unfold vclapart
  (try simp only [flatD, List.cons_append, List.nil_append, List.append_nil])
  refine den_cal [.bool (smB a)] rfl (small_fn a ha.tl) rfl rfl ?_
  (try simp only [flatD, List.cons_append, List.nil_append, List.append_nil])
  refine den_ite (fun h1 => ?_) (fun h1 => ?_)
  · simp only [E.den, D.toI, D.toB, D.toL, D.toS, D.len, D.mapL, flatD, dE, str_eq, emp_iff] at h1
    refine den_cal [.bool (smB b)] rfl (small_fn b hb.tl) rfl rfl ?_
    (try simp only [flatD, List.cons_append, List.nil_append, List.append_nil])
    refine den_ite (fun h2 => ?_) (fun h2 => ?_)
    · simp only [E.den, D.toI, D.toB, D.toL, D.toS, D.len, D.mapL, flatD, dE, str_eq, emp_iff] at h2
      refine den_cal [bD (encB a), I64d (encE a)] rfl (mencode_fn a ha (smB_ok h1)) rfl rfl ?_
      (try simp only [flatD, List.cons_append, List.nil_append, List.append_nil])
      refine den_cal [bD (encB b), I64d (encE b)] rfl (mencode_fn b hb (smB_ok h2)) rfl rfl ?_
      (try simp only [flatD, List.cons_append, List.nil_append, List.append_nil])
      refine den_ite (fun h3 => ?_) (fun h3 => ?_)
      · simp only [E.den, D.toI, D.toB, D.toL, D.toS, D.len, D.mapL, flatD, dE, str_eq, emp_iff] at h3
        refine den_ite (fun h4 => ?_) (fun h4 => ?_)
        · simp only [E.den, D.toI, D.toB, D.toL, D.toS, D.len, D.mapL, flatD, dE, str_eq, emp_iff] at h4
          refine den_ev ?_
          refine evs_call [.bool (decide (a = b))] rfl (msame_fn a b ha.ok hb.ok) rfl rfl ?_
          (try simp only [flatD, List.cons_append, List.nil_append, List.append_nil])
          refine evs_nil ?_
          refine den_t (by simp only [E.den, D.toI, D.toB, D.toL, D.toS, D.len, D.mapL, flatD, dE]; rw [strD_eq (encB_isB ha (smB_ok h1)) (encB_isB hb (smB_ok h2))]; exact beq_iff_eq.1 (encB_inj ha hb (smB_ok h1) (smB_ok h2) h3 h4)) ?_
          refine den_cal [I64d (msgS a)] rfl (mval_fn' a ha (smB_ok h1)) rfl rfl ?_
          (try simp only [flatD, List.cons_append, List.nil_append, List.append_nil])
          refine den_ite (fun h5 => ?_) (fun h5 => ?_)
          · simp only [E.den, D.toI, D.toB, D.toL, D.toS, D.len, D.mapL, flatD, dE, str_eq, emp_iff] at h5
            refine den_ite (fun h6 => ?_) (fun h6 => ?_)
            · simp only [E.den, D.toI, D.toB, D.toL, D.toS, D.len, D.mapL, flatD, dE, str_eq, emp_iff] at h6
              refine den_ite (fun h7 => ?_) (fun h7 => ?_)
              · simp only [E.den, D.toI, D.toB, D.toL, D.toS, D.len, D.mapL, flatD, dE, str_eq, emp_iff] at h7
                refine den_cal [I64d ((resM 2 a s).ki), I64d ((resM 2 a s).id), I64d ((resM 2 a s).ac), I64d ((resM 2 a s).co), I64d ((resM 2 a s).st), I64d ((resM 2 a s).sq), I64d ((resM 2 a s).at'), I64d ((resM 2 a s).va), .str ((resM 2 a s).tx), .str ((resM 2 a s).tk), .str ((resM 2 a s).te), .bool ((resM 2 a s).off), rdD ((resM 2 a s).rd), I64d ((resM 2 a s).p.id), I64d ((resM 2 a s).p.lv), I64d ((resM 2 a s).p.pu), I64d ((resM 2 a s).p.ki), I64d ((resM 2 a s).p.co), .str ((resM 2 a s).p.tx), I64d ((resM 2 a s).p.fr), I64d ((resM 2 a s).p.to), I64d ((resM 2 a s).p.st), I64d ((resM 2 a s).p.du), rdD ((resM 2 a s).p.pe), tksD ((resM 2 a s).tks)] rfl (mresult_fn a s) rfl rfl ?_
                (try simp only [flatD, List.cons_append, List.nil_append, List.append_nil])
                refine den_cal [I64d (0)] rfl (fun_as (mval_fn' (resM 2 a s) (resM_T (by unfold inI; decide) ha hs) (resM_S _ _ _)) (by rw [(resM_valid (m := a) (s := s) (by assumption) (by assumption) (by assumption)).1] <;> rfl)) rfl rfl ?_
                (try simp only [flatD, List.cons_append, List.nil_append, List.append_nil])
                refine den_f (rfl) ?_
                refine den_cal [I64d ((resM 3 a s).ki), I64d ((resM 3 a s).id), I64d ((resM 3 a s).ac), I64d ((resM 3 a s).co), I64d ((resM 3 a s).st), I64d ((resM 3 a s).sq), I64d ((resM 3 a s).at'), I64d ((resM 3 a s).va), .str ((resM 3 a s).tx), .str ((resM 3 a s).tk), .str ((resM 3 a s).te), .bool ((resM 3 a s).off), rdD ((resM 3 a s).rd), I64d ((resM 3 a s).p.id), I64d ((resM 3 a s).p.lv), I64d ((resM 3 a s).p.pu), I64d ((resM 3 a s).p.ki), I64d ((resM 3 a s).p.co), .str ((resM 3 a s).p.tx), I64d ((resM 3 a s).p.fr), I64d ((resM 3 a s).p.to), I64d ((resM 3 a s).p.st), I64d ((resM 3 a s).p.du), rdD ((resM 3 a s).p.pe), tksD ((resM 3 a s).tks)] rfl (mfailure_fn a s) rfl rfl ?_
                (try simp only [flatD, List.cons_append, List.nil_append, List.append_nil])
                refine den_cal [I64d (0)] rfl (fun_as (mval_fn' (resM 3 a s) (resM_T (by unfold inI; decide) ha hs) (resM_S _ _ _)) (by rw [(resM_valid (m := a) (s := s) (by assumption) (by assumption) (by assumption)).2] <;> rfl)) rfl rfl ?_
                (try simp only [flatD, List.cons_append, List.nil_append, List.append_nil])
                refine den_f (rfl) ?_
                refine den_cal [.bool (true)] rfl (X26.ex_fn) rfl rfl ?_
                (try simp only [flatD, List.cons_append, List.nil_append, List.append_nil])
                refine den_ret ?_
                rfl
              · simp only [E.den, D.toI, D.toB, D.toL, D.toS, D.len, D.mapL, flatD, dE, str_eq, emp_iff] at h7
                refine den_cal [.bool (true)] rfl (X26.ex_fn) rfl rfl ?_
                (try simp only [flatD, List.cons_append, List.nil_append, List.append_nil])
                refine den_ret ?_
                rfl
            · simp only [E.den, D.toI, D.toB, D.toL, D.toS, D.len, D.mapL, flatD, dE, str_eq, emp_iff] at h6
              refine den_cal [.bool (true)] rfl (X26.ex_fn) rfl rfl ?_
              (try simp only [flatD, List.cons_append, List.nil_append, List.append_nil])
              refine den_ret ?_
              rfl
          · simp only [E.den, D.toI, D.toB, D.toL, D.toS, D.len, D.mapL, flatD, dE, str_eq, emp_iff] at h5
            refine den_cal [.bool (true)] rfl (X26.ex_fn) rfl rfl ?_
            (try simp only [flatD, List.cons_append, List.nil_append, List.append_nil])
            refine den_ret ?_
            rfl
        · simp only [E.den, D.toI, D.toB, D.toL, D.toS, D.len, D.mapL, flatD, dE, str_eq, emp_iff] at h4
          refine den_cal [I64d (msgS a)] rfl (mval_fn' a ha (smB_ok h1)) rfl rfl ?_
          (try simp only [flatD, List.cons_append, List.nil_append, List.append_nil])
          refine den_ite (fun h8 => ?_) (fun h8 => ?_)
          · simp only [E.den, D.toI, D.toB, D.toL, D.toS, D.len, D.mapL, flatD, dE, str_eq, emp_iff] at h8
            refine den_ite (fun h9 => ?_) (fun h9 => ?_)
            · simp only [E.den, D.toI, D.toB, D.toL, D.toS, D.len, D.mapL, flatD, dE, str_eq, emp_iff] at h9
              refine den_ite (fun h10 => ?_) (fun h10 => ?_)
              · simp only [E.den, D.toI, D.toB, D.toL, D.toS, D.len, D.mapL, flatD, dE, str_eq, emp_iff] at h10
                refine den_cal [I64d ((resM 2 a s).ki), I64d ((resM 2 a s).id), I64d ((resM 2 a s).ac), I64d ((resM 2 a s).co), I64d ((resM 2 a s).st), I64d ((resM 2 a s).sq), I64d ((resM 2 a s).at'), I64d ((resM 2 a s).va), .str ((resM 2 a s).tx), .str ((resM 2 a s).tk), .str ((resM 2 a s).te), .bool ((resM 2 a s).off), rdD ((resM 2 a s).rd), I64d ((resM 2 a s).p.id), I64d ((resM 2 a s).p.lv), I64d ((resM 2 a s).p.pu), I64d ((resM 2 a s).p.ki), I64d ((resM 2 a s).p.co), .str ((resM 2 a s).p.tx), I64d ((resM 2 a s).p.fr), I64d ((resM 2 a s).p.to), I64d ((resM 2 a s).p.st), I64d ((resM 2 a s).p.du), rdD ((resM 2 a s).p.pe), tksD ((resM 2 a s).tks)] rfl (mresult_fn a s) rfl rfl ?_
                (try simp only [flatD, List.cons_append, List.nil_append, List.append_nil])
                refine den_cal [I64d (0)] rfl (fun_as (mval_fn' (resM 2 a s) (resM_T (by unfold inI; decide) ha hs) (resM_S _ _ _)) (by rw [(resM_valid (m := a) (s := s) (by assumption) (by assumption) (by assumption)).1] <;> rfl)) rfl rfl ?_
                (try simp only [flatD, List.cons_append, List.nil_append, List.append_nil])
                refine den_f (rfl) ?_
                refine den_cal [I64d ((resM 3 a s).ki), I64d ((resM 3 a s).id), I64d ((resM 3 a s).ac), I64d ((resM 3 a s).co), I64d ((resM 3 a s).st), I64d ((resM 3 a s).sq), I64d ((resM 3 a s).at'), I64d ((resM 3 a s).va), .str ((resM 3 a s).tx), .str ((resM 3 a s).tk), .str ((resM 3 a s).te), .bool ((resM 3 a s).off), rdD ((resM 3 a s).rd), I64d ((resM 3 a s).p.id), I64d ((resM 3 a s).p.lv), I64d ((resM 3 a s).p.pu), I64d ((resM 3 a s).p.ki), I64d ((resM 3 a s).p.co), .str ((resM 3 a s).p.tx), I64d ((resM 3 a s).p.fr), I64d ((resM 3 a s).p.to), I64d ((resM 3 a s).p.st), I64d ((resM 3 a s).p.du), rdD ((resM 3 a s).p.pe), tksD ((resM 3 a s).tks)] rfl (mfailure_fn a s) rfl rfl ?_
                (try simp only [flatD, List.cons_append, List.nil_append, List.append_nil])
                refine den_cal [I64d (0)] rfl (fun_as (mval_fn' (resM 3 a s) (resM_T (by unfold inI; decide) ha hs) (resM_S _ _ _)) (by rw [(resM_valid (m := a) (s := s) (by assumption) (by assumption) (by assumption)).2] <;> rfl)) rfl rfl ?_
                (try simp only [flatD, List.cons_append, List.nil_append, List.append_nil])
                refine den_f (rfl) ?_
                refine den_cal [.bool (true)] rfl (X26.ex_fn) rfl rfl ?_
                (try simp only [flatD, List.cons_append, List.nil_append, List.append_nil])
                refine den_ret ?_
                rfl
              · simp only [E.den, D.toI, D.toB, D.toL, D.toS, D.len, D.mapL, flatD, dE, str_eq, emp_iff] at h10
                refine den_cal [.bool (true)] rfl (X26.ex_fn) rfl rfl ?_
                (try simp only [flatD, List.cons_append, List.nil_append, List.append_nil])
                refine den_ret ?_
                rfl
            · simp only [E.den, D.toI, D.toB, D.toL, D.toS, D.len, D.mapL, flatD, dE, str_eq, emp_iff] at h9
              refine den_cal [.bool (true)] rfl (X26.ex_fn) rfl rfl ?_
              (try simp only [flatD, List.cons_append, List.nil_append, List.append_nil])
              refine den_ret ?_
              rfl
          · simp only [E.den, D.toI, D.toB, D.toL, D.toS, D.len, D.mapL, flatD, dE, str_eq, emp_iff] at h8
            refine den_cal [.bool (true)] rfl (X26.ex_fn) rfl rfl ?_
            (try simp only [flatD, List.cons_append, List.nil_append, List.append_nil])
            refine den_ret ?_
            rfl
      · simp only [E.den, D.toI, D.toB, D.toL, D.toS, D.len, D.mapL, flatD, dE, str_eq, emp_iff] at h3
        refine den_cal [I64d (msgS a)] rfl (mval_fn' a ha (smB_ok h1)) rfl rfl ?_
        (try simp only [flatD, List.cons_append, List.nil_append, List.append_nil])
        refine den_ite (fun h11 => ?_) (fun h11 => ?_)
        · simp only [E.den, D.toI, D.toB, D.toL, D.toS, D.len, D.mapL, flatD, dE, str_eq, emp_iff] at h11
          refine den_ite (fun h12 => ?_) (fun h12 => ?_)
          · simp only [E.den, D.toI, D.toB, D.toL, D.toS, D.len, D.mapL, flatD, dE, str_eq, emp_iff] at h12
            refine den_ite (fun h13 => ?_) (fun h13 => ?_)
            · simp only [E.den, D.toI, D.toB, D.toL, D.toS, D.len, D.mapL, flatD, dE, str_eq, emp_iff] at h13
              refine den_cal [I64d ((resM 2 a s).ki), I64d ((resM 2 a s).id), I64d ((resM 2 a s).ac), I64d ((resM 2 a s).co), I64d ((resM 2 a s).st), I64d ((resM 2 a s).sq), I64d ((resM 2 a s).at'), I64d ((resM 2 a s).va), .str ((resM 2 a s).tx), .str ((resM 2 a s).tk), .str ((resM 2 a s).te), .bool ((resM 2 a s).off), rdD ((resM 2 a s).rd), I64d ((resM 2 a s).p.id), I64d ((resM 2 a s).p.lv), I64d ((resM 2 a s).p.pu), I64d ((resM 2 a s).p.ki), I64d ((resM 2 a s).p.co), .str ((resM 2 a s).p.tx), I64d ((resM 2 a s).p.fr), I64d ((resM 2 a s).p.to), I64d ((resM 2 a s).p.st), I64d ((resM 2 a s).p.du), rdD ((resM 2 a s).p.pe), tksD ((resM 2 a s).tks)] rfl (mresult_fn a s) rfl rfl ?_
              (try simp only [flatD, List.cons_append, List.nil_append, List.append_nil])
              refine den_cal [I64d (0)] rfl (fun_as (mval_fn' (resM 2 a s) (resM_T (by unfold inI; decide) ha hs) (resM_S _ _ _)) (by rw [(resM_valid (m := a) (s := s) (by assumption) (by assumption) (by assumption)).1] <;> rfl)) rfl rfl ?_
              (try simp only [flatD, List.cons_append, List.nil_append, List.append_nil])
              refine den_f (rfl) ?_
              refine den_cal [I64d ((resM 3 a s).ki), I64d ((resM 3 a s).id), I64d ((resM 3 a s).ac), I64d ((resM 3 a s).co), I64d ((resM 3 a s).st), I64d ((resM 3 a s).sq), I64d ((resM 3 a s).at'), I64d ((resM 3 a s).va), .str ((resM 3 a s).tx), .str ((resM 3 a s).tk), .str ((resM 3 a s).te), .bool ((resM 3 a s).off), rdD ((resM 3 a s).rd), I64d ((resM 3 a s).p.id), I64d ((resM 3 a s).p.lv), I64d ((resM 3 a s).p.pu), I64d ((resM 3 a s).p.ki), I64d ((resM 3 a s).p.co), .str ((resM 3 a s).p.tx), I64d ((resM 3 a s).p.fr), I64d ((resM 3 a s).p.to), I64d ((resM 3 a s).p.st), I64d ((resM 3 a s).p.du), rdD ((resM 3 a s).p.pe), tksD ((resM 3 a s).tks)] rfl (mfailure_fn a s) rfl rfl ?_
              (try simp only [flatD, List.cons_append, List.nil_append, List.append_nil])
              refine den_cal [I64d (0)] rfl (fun_as (mval_fn' (resM 3 a s) (resM_T (by unfold inI; decide) ha hs) (resM_S _ _ _)) (by rw [(resM_valid (m := a) (s := s) (by assumption) (by assumption) (by assumption)).2] <;> rfl)) rfl rfl ?_
              (try simp only [flatD, List.cons_append, List.nil_append, List.append_nil])
              refine den_f (rfl) ?_
              refine den_cal [.bool (true)] rfl (X26.ex_fn) rfl rfl ?_
              (try simp only [flatD, List.cons_append, List.nil_append, List.append_nil])
              refine den_ret ?_
              rfl
            · simp only [E.den, D.toI, D.toB, D.toL, D.toS, D.len, D.mapL, flatD, dE, str_eq, emp_iff] at h13
              refine den_cal [.bool (true)] rfl (X26.ex_fn) rfl rfl ?_
              (try simp only [flatD, List.cons_append, List.nil_append, List.append_nil])
              refine den_ret ?_
              rfl
          · simp only [E.den, D.toI, D.toB, D.toL, D.toS, D.len, D.mapL, flatD, dE, str_eq, emp_iff] at h12
            refine den_cal [.bool (true)] rfl (X26.ex_fn) rfl rfl ?_
            (try simp only [flatD, List.cons_append, List.nil_append, List.append_nil])
            refine den_ret ?_
            rfl
        · simp only [E.den, D.toI, D.toB, D.toL, D.toS, D.len, D.mapL, flatD, dE, str_eq, emp_iff] at h11
          refine den_cal [.bool (true)] rfl (X26.ex_fn) rfl rfl ?_
          (try simp only [flatD, List.cons_append, List.nil_append, List.append_nil])
          refine den_ret ?_
          rfl
    · simp only [E.den, D.toI, D.toB, D.toL, D.toS, D.len, D.mapL, flatD, dE, str_eq, emp_iff] at h2
      refine den_cal [.bool (true)] rfl (X26.ex_fn) rfl rfl ?_
      (try simp only [flatD, List.cons_append, List.nil_append, List.append_nil])
      refine den_ret ?_
      rfl
  · simp only [E.den, D.toI, D.toB, D.toL, D.toS, D.len, D.mapL, flatD, dE, str_eq, emp_iff] at h1
    refine den_cal [.bool (true)] rfl (X26.ex_fn) rfl rfl ?_
    (try simp only [flatD, List.cons_append, List.nil_append, List.append_nil])
    refine den_ret ?_
    rfl

set_option maxRecDepth 100000 in
theorem messageApart_lifted (os : Os) (started : os.Started) (H : Type) (enc : TypeId × Value → H) :
    ReturnsInHanded {} Try.checked os 6 .any (Rows.messageApartSpec.pre6 enc Try.prog Try.f6 Rows.messageApartRow.domain false) (Rows.messageApartSpec.post enc Try.prog Try.f6 false true false false) := by
  refine returnsInHanded_of_change (C := Try.checked) own started (by kernel_rfl) Try.func6
    (ChangeSpec.witness6 (enc := enc) (C := Try.checked) false ⟨#[], #[.agg #[.int .i64 0, .int .i64 0, .int .i64 0, .int .i64 0, .int .i64 0, .int .i64 0, .int .i64 0, .int .i64 0, .string ⟨#[]⟩, .string ⟨#[]⟩, .string ⟨#[]⟩, .bool false, .slice none 0 0, .int .i64 0, .int .i64 0, .int .i64 0, .int .i64 0, .int .i64 0, .string ⟨#[]⟩, .int .i64 0, .int .i64 0, .int .i64 0, .int .i64 0, .slice none 0 0, .slice none 0 0], .agg #[.int .i64 0, .int .i64 0, .int .i64 0, .int .i64 0, .int .i64 0, .int .i64 0, .int .i64 0, .int .i64 0, .string ⟨#[]⟩, .string ⟨#[]⟩, .string ⟨#[]⟩, .bool false, .slice none 0 0, .int .i64 0, .int .i64 0, .int .i64 0, .int .i64 0, .int .i64 0, .string ⟨#[]⟩, .int .i64 0, .int .i64 0, .int .i64 0, .int .i64 0, .slice none 0 0, .slice none 0 0], .int .i64 0], []⟩ 8 (by kernel_rfl) (by kernel_rfl) (by kernel_rfl) (by kernel_rfl)) ?_
  intro W base args ds gs before hval0 hW hcnd _
  have hval : ∀ (j : Nat) t v, Try.f6.params[j]? = some t → args[j]? = some v → Value.okWide Try.prog W .any base t v := hval0
  obtain ⟨q, q', hA0, _, _, _, _⟩ := id hW
  have hA : DataW.TrodAll enc Try.prog W 0 (fun _ => true) true Try.f6.params.toList args.toList ds q := hA0
  have walk := law_walk (P := Try.prog) (f := 6) (fn := Try.f6) (fun p hp => by cases hp) (Ts := [tM, tM, tI]) (by kernel_rfl) law_all hval hA
  rw [Try.params6] at hA
  obtain ⟨v0, vs0, d0, ds0, p0, q0, hargs0, rfl, rfl, h0, r0⟩ := trodAll_cons hA
  obtain ⟨v1, vs1, d1, ds1, p1, q1, hargs1, rfl, rfl, h1, r1⟩ := trodAll_cons r0
  subst hargs1
  obtain ⟨v2, vs2, d2, ds2, p2, q2, hargs2, rfl, rfl, h2, r2⟩ := trodAll_cons r1
  subst hargs2
  obtain ⟨rfl, rfl, rfl⟩ := trodAll_nil r2
  refine walk.mono fun e W' ⟨he, hb⟩ => ?_
  subst he
  exact ⟨_, rfl, law_post (tb := 4) laidOut rfl (by kernel_rfl) rfl Try.underlying4 hW rfl hb⟩

theorem messageApart_holds : Rows.MessageApartSaid :=
  OpenClaim.holds_of_wide 6 Try.f6 rfl rfl rfl rfl rfl rfl rfl ⟨rfl, rfl, rfl, rfl, rfl⟩ rfl rfl rfl rfl rfl (by kernel_rfl) Try.func6 (by kernel_rfl)
    (of_decide_eq_true (by kernel_rfl)) (by unfold Func.isWrapper; first | (rw [if_pos (by decide +kernel)]; kernel_rfl) | (rw [if_neg (by decide +kernel)]; exact ⟨rfl, rfl⟩))
    (fun os started H enc _ => messageApart_lifted os started H enc)
#print axioms messageApart_holds
end Go.Proofs.Ytfhdgaecclfccaa
