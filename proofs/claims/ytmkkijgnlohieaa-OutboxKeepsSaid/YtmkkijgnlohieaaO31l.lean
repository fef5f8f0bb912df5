/-
  Layer 31: what the laws have in common. No conditions stand ahead of what is proved.
-/
import Derived.Test.YtmkkijgnlohieaaO31x
set_option maxRecDepth 100000
set_option linter.unusedSimpArgs false
set_option linter.unusedVariables false
namespace Go.Proofs.Ytmkkijgnlohieaa.O31l
open Go.Proofs.Ytmkkijgnlohieaa Go.Proofs.Ytmkkijgnlohieaa.Sy Go.Proofs.Ytmkkijgnlohieaa.L7 Go.Proofs.Ytmkkijgnlohieaa.Id Go.Proofs.Ytmkkijgnlohieaa.R26 Go.Proofs.Ytmkkijgnlohieaa.E30 Go.Proofs.Ytmkkijgnlohieaa.O31 Go.Proofs.Ytmkkijgnlohieaa.O31x Go.RowKit Go.WideShapes Go.ChangeShapes Go.ChangeAt
theorem hP : NoNum Try.prog := by unfold NoNum; kernel_rfl
def sgs : Nat → Option (List TS × List TS) := fun _ => none
def vclOutboxValids : VC := (.ite (.cmp .gtr (.len (.v 1)) (.ki .i64 40))
 (.cal 10 [] [] [(.c .bool)] 4
  (.ret [(.v 4)]))
 (.cal 9 [(.c (.lst [.str, .str, (.int .i64), (.int .i64), (.int .i64), (.int .i64), .str, .bool, (.int .i64), (.lst [(.int .i64), (.int .i64)])]))] [(.v 1)] [(.c .bool)] 4
  (.ite (.v 4)
   (.cal 11 [(.c (.int .i64))] [(.v 3)] [(.g [(.int .i64), (.lst [.str, .str, (.int .i64), (.int .i64), (.int .i64), (.int .i64), .str, .bool, (.int .i64), (.lst [(.int .i64), (.int .i64)])]), (.int .i64)]), (.c (.int .i64))] 5
    (.cal 12 [(.c (.int .i64))] [(.v 3)] [(.g [(.int .i64), (.lst [.str, .str, (.int .i64), (.int .i64), (.int .i64), (.int .i64), .str, .bool, (.int .i64), (.lst [(.int .i64), (.int .i64)])]), (.int .i64)]), (.c (.int .i64))] 9
     (.ev [(.call 13 [(.g [(.int .i64), (.lst [.str, .str, (.int .i64), (.int .i64), (.int .i64), (.int .i64), .str, .bool, (.int .i64), (.lst [(.int .i64), (.int .i64)])]), (.int .i64)])] [(.rc (.cons (.v 0) (.cons (.v 1) (.cons (.v 2) .nil))))] [(.c (.int .i64))] 13), (.call 14 [(.g [(.int .i64), (.lst [.str, .str, (.int .i64), (.int .i64), (.int .i64), (.int .i64), .str, .bool, (.int .i64), (.lst [(.int .i64), (.int .i64)])]), (.int .i64)])] [(.rc (.cons (.v 0) (.cons (.v 1) (.cons (.v 2) .nil))))] [(.c (.int .i64))] 14)]
      (.ite (.cmp .eql (.v 13) (.v 14))
       (.ev [(.call 15 [(.g [(.int .i64), (.lst [.str, .str, (.int .i64), (.int .i64), (.int .i64), (.int .i64), .str, .bool, (.int .i64), (.lst [(.int .i64), (.int .i64)])]), (.int .i64)]), (.g [(.int .i64), (.lst [.str, .str, (.int .i64), (.int .i64), (.int .i64), (.int .i64), .str, .bool, (.int .i64), (.lst [(.int .i64), (.int .i64)])]), (.int .i64)])] [(.rc (.cons (.v 5) (.cons (.v 6) (.cons (.v 7) .nil)))), (.rc (.cons (.v 9) (.cons (.v 10) (.cons (.v 11) .nil))))] [(.c .bool)] 15)]
        (.ite (.v 15)
         (.ite (.cmp .eql (.v 8) (.v 12))
          (.ev [(.call 10 [] [] [(.c .bool)] 16)]
           (.ret [(.v 16)]))
          (.ret [(.kb false)]))
         (.ret [(.kb false)])))
       (.ret [(.kb false)])))))
   (.cal 10 [] [] [(.c .bool)] 5
    (.ret [(.v 5)])))))
theorem lOutboxValids_ent : EntOK Try.prog [] ⟨3, [(.g [(.int .i64), (.lst [.str, .str, (.int .i64), (.int .i64), (.int .i64), (.int .i64), .str, .bool, (.int .i64), (.lst [(.int .i64), (.int .i64)])]), (.int .i64)]), (.c (.int .i64))], [(.c .bool)], vclOutboxValids⟩ :=
  ent_of_gen hP Try.func3 rfl (by decide) (sg := sgs) (by kernel_rfl)
def vclOutboxPushes : VC := (.ite (.cmp .gtr (.len (.v 1)) (.ki .i64 40))
 (.cal 10 [] [] [(.c .bool)] 13
  (.ret [(.v 13)]))
 (.cal 9 [(.c (.lst [.str, .str, (.int .i64), (.int .i64), (.int .i64), (.int .i64), .str, .bool, (.int .i64), (.lst [(.int .i64), (.int .i64)])]))] [(.v 1)] [(.c .bool)] 13
  (.ite (.v 13)
   (.cal 9 [(.c (.lst [.str, .str, (.int .i64), (.int .i64), (.int .i64), (.int .i64), .str, .bool, (.int .i64), (.lst [(.int .i64), (.int .i64)])]))] [(.cons (.rc (.cons (.v 3) (.cons (.v 4) (.cons (.v 5) (.cons (.v 6) (.cons (.v 7) (.cons (.v 8) (.cons (.v 9) (.cons (.v 10) (.cons (.v 11) (.cons (.v 12) .nil))))))))))) .nil)] [(.c .bool)] 14
    (.ite (.v 14)
     (.cal 14 [(.g [(.int .i64), (.lst [.str, .str, (.int .i64), (.int .i64), (.int .i64), (.int .i64), .str, .bool, (.int .i64), (.lst [(.int .i64), (.int .i64)])]), (.int .i64)])] [(.rc (.cons (.v 0) (.cons (.v 1) (.cons (.v 2) .nil))))] [(.c (.int .i64))] 15
      (.ite (.cmp .neq (.v 15) (.ki .i64 0))
       (.cal 10 [] [] [(.c .bool)] 16
        (.ret [(.v 16)]))
       (.cal 16 [(.g [(.int .i64), (.lst [.str, .str, (.int .i64), (.int .i64), (.int .i64), (.int .i64), .str, .bool, (.int .i64), (.lst [(.int .i64), (.int .i64)])]), (.int .i64)]), (.g [.str, .str, (.int .i64), (.int .i64), (.int .i64), (.int .i64), .str, .bool, (.int .i64), (.lst [(.int .i64), (.int .i64)])])] [(.rc (.cons (.v 0) (.cons (.v 1) (.cons (.v 2) .nil)))), (.rc (.cons (.v 3) (.cons (.v 4) (.cons (.v 5) (.cons (.v 6) (.cons (.v 7) (.cons (.v 8) (.cons (.v 9) (.cons (.v 10) (.cons (.v 11) (.cons (.v 12) .nil)))))))))))] [(.g [(.int .i64), (.lst [.str, .str, (.int .i64), (.int .i64), (.int .i64), (.int .i64), .str, .bool, (.int .i64), (.lst [(.int .i64), (.int .i64)])]), (.int .i64)]), (.c (.int .i64))] 16
        (.cal 17 [(.g [(.int .i64), (.lst [.str, .str, (.int .i64), (.int .i64), (.int .i64), (.int .i64), .str, .bool, (.int .i64), (.lst [(.int .i64), (.int .i64)])]), (.int .i64)]), (.g [.str, .str, (.int .i64), (.int .i64), (.int .i64), (.int .i64), .str, .bool, (.int .i64), (.lst [(.int .i64), (.int .i64)])])] [(.rc (.cons (.v 0) (.cons (.v 1) (.cons (.v 2) .nil)))), (.rc (.cons (.v 3) (.cons (.v 4) (.cons (.v 5) (.cons (.v 6) (.cons (.v 7) (.cons (.v 8) (.cons (.v 9) (.cons (.v 10) (.cons (.v 11) (.cons (.v 12) .nil)))))))))))] [(.g [(.int .i64), (.lst [.str, .str, (.int .i64), (.int .i64), (.int .i64), (.int .i64), .str, .bool, (.int .i64), (.lst [(.int .i64), (.int .i64)])]), (.int .i64)]), (.c (.int .i64))] 20
         (.cal 15 [(.g [(.int .i64), (.lst [.str, .str, (.int .i64), (.int .i64), (.int .i64), (.int .i64), .str, .bool, (.int .i64), (.lst [(.int .i64), (.int .i64)])]), (.int .i64)]), (.g [(.int .i64), (.lst [.str, .str, (.int .i64), (.int .i64), (.int .i64), (.int .i64), .str, .bool, (.int .i64), (.lst [(.int .i64), (.int .i64)])]), (.int .i64)])] [(.rc (.cons (.v 16) (.cons (.v 17) (.cons (.v 18) .nil)))), (.rc (.cons (.v 20) (.cons (.v 21) (.cons (.v 22) .nil))))] [(.c .bool)] 24
          (.ite (.v 24)
           (.ite (.cmp .eql (.v 19) (.v 23))
            (.cal 13 [(.g [(.int .i64), (.lst [.str, .str, (.int .i64), (.int .i64), (.int .i64), (.int .i64), .str, .bool, (.int .i64), (.lst [(.int .i64), (.int .i64)])]), (.int .i64)])] [(.rc (.cons (.v 16) (.cons (.v 17) (.cons (.v 18) .nil))))] [(.c (.int .i64))] 25
             (.ite (.cmp .eql (.v 25) (.ki .i64 0))
              (.cal 10 [] [] [(.c .bool)] 26
               (.ret [(.v 26)]))
              (.ret [(.kb false)])))
            (.ret [(.kb false)]))
           (.ret [(.kb false)])))))))
     (.cal 10 [] [] [(.c .bool)] 15
      (.ret [(.v 15)]))))
   (.cal 10 [] [] [(.c .bool)] 14
    (.ret [(.v 14)])))))
theorem lOutboxPushes_ent : EntOK Try.prog [] ⟨4, [(.g [(.int .i64), (.lst [.str, .str, (.int .i64), (.int .i64), (.int .i64), (.int .i64), .str, .bool, (.int .i64), (.lst [(.int .i64), (.int .i64)])]), (.int .i64)]), (.g [.str, .str, (.int .i64), (.int .i64), (.int .i64), (.int .i64), .str, .bool, (.int .i64), (.lst [(.int .i64), (.int .i64)])])], [(.c .bool)], vclOutboxPushes⟩ :=
  ent_of_gen hP Try.func4 rfl (by decide) (sg := sgs) (by kernel_rfl)
def vclOutboxAcks : VC := (.ite (.cmp .gtr (.len (.v 1)) (.ki .i64 40))
 (.cal 10 [] [] [(.c .bool)] 5
  (.ret [(.v 5)]))
 (.cal 9 [(.c (.lst [.str, .str, (.int .i64), (.int .i64), (.int .i64), (.int .i64), .str, .bool, (.int .i64), (.lst [(.int .i64), (.int .i64)])]))] [(.v 1)] [(.c .bool)] 5
  (.ite (.v 5)
   (.ite (.cmp .gtr (.len (.v 3)) (.ki .i64 50))
    (.cal 10 [] [] [(.c .bool)] 6
     (.ret [(.v 6)]))
    (.cal 14 [(.g [(.int .i64), (.lst [.str, .str, (.int .i64), (.int .i64), (.int .i64), (.int .i64), .str, .bool, (.int .i64), (.lst [(.int .i64), (.int .i64)])]), (.int .i64)])] [(.rc (.cons (.v 0) (.cons (.v 1) (.cons (.v 2) .nil))))] [(.c (.int .i64))] 6
     (.ite (.cmp .neq (.v 6) (.ki .i64 0))
      (.cal 10 [] [] [(.c .bool)] 7
       (.ret [(.v 7)]))
      (.cal 18 [(.g [(.int .i64), (.lst [.str, .str, (.int .i64), (.int .i64), (.int .i64), (.int .i64), .str, .bool, (.int .i64), (.lst [(.int .i64), (.int .i64)])]), (.int .i64)])] [(.rc (.cons (.v 0) (.cons (.v 1) (.cons (.v 2) .nil))))] [(.g [.str, .str, (.int .i64), (.int .i64), (.int .i64), (.int .i64), .str, .bool, (.int .i64), (.lst [(.int .i64), (.int .i64)])]), (.c .bool)] 7
       (.cal 19 [(.g [(.int .i64), (.lst [.str, .str, (.int .i64), (.int .i64), (.int .i64), (.int .i64), .str, .bool, (.int .i64), (.lst [(.int .i64), (.int .i64)])]), (.int .i64)])] [(.rc (.cons (.v 0) (.cons (.v 1) (.cons (.v 2) .nil))))] [(.g [.str, .str, (.int .i64), (.int .i64), (.int .i64), (.int .i64), .str, .bool, (.int .i64), (.lst [(.int .i64), (.int .i64)])]), (.c .bool)] 18
        (.cal 20 [(.g [(.int .i64), (.lst [.str, .str, (.int .i64), (.int .i64), (.int .i64), (.int .i64), .str, .bool, (.int .i64), (.lst [(.int .i64), (.int .i64)])]), (.int .i64)]), (.c .str), (.c (.int .i64))] [(.rc (.cons (.v 0) (.cons (.v 1) (.cons (.v 2) .nil)))), (.v 3), (.v 4)] [(.g [(.int .i64), (.lst [.str, .str, (.int .i64), (.int .i64), (.int .i64), (.int .i64), .str, .bool, (.int .i64), (.lst [(.int .i64), (.int .i64)])]), (.int .i64)]), (.c (.int .i64))] 29
         (.cal 21 [(.g [(.int .i64), (.lst [.str, .str, (.int .i64), (.int .i64), (.int .i64), (.int .i64), .str, .bool, (.int .i64), (.lst [(.int .i64), (.int .i64)])]), (.int .i64)]), (.c .str), (.c (.int .i64))] [(.rc (.cons (.v 0) (.cons (.v 1) (.cons (.v 2) .nil)))), (.v 3), (.v 4)] [(.g [(.int .i64), (.lst [.str, .str, (.int .i64), (.int .i64), (.int .i64), (.int .i64), .str, .bool, (.int .i64), (.lst [(.int .i64), (.int .i64)])]), (.int .i64)]), (.c (.int .i64))] 33
          (.cal 22 [(.c (.lst [.str, .str, (.int .i64), (.int .i64), (.int .i64), (.int .i64), .str, .bool, (.int .i64), (.lst [(.int .i64), (.int .i64)])])), (.c (.lst [.str, .str, (.int .i64), (.int .i64), (.int .i64), (.int .i64), .str, .bool, (.int .i64), (.lst [(.int .i64), (.int .i64)])]))] [(.cons (.rc (.cons (.v 7) (.cons (.v 8) (.cons (.v 9) (.cons (.v 10) (.cons (.v 11) (.cons (.v 12) (.cons (.v 13) (.cons (.v 14) (.cons (.v 15) (.cons (.v 16) .nil))))))))))) .nil), (.cons (.rc (.cons (.v 18) (.cons (.v 19) (.cons (.v 20) (.cons (.v 21) (.cons (.v 22) (.cons (.v 23) (.cons (.v 24) (.cons (.v 25) (.cons (.v 26) (.cons (.v 27) .nil))))))))))) .nil)] [(.c .bool)] 37
           (.ite (.v 37)
            (.ite (.beq (.v 17) (.v 28))
             (.cal 15 [(.g [(.int .i64), (.lst [.str, .str, (.int .i64), (.int .i64), (.int .i64), (.int .i64), .str, .bool, (.int .i64), (.lst [(.int .i64), (.int .i64)])]), (.int .i64)]), (.g [(.int .i64), (.lst [.str, .str, (.int .i64), (.int .i64), (.int .i64), (.int .i64), .str, .bool, (.int .i64), (.lst [(.int .i64), (.int .i64)])]), (.int .i64)])] [(.rc (.cons (.v 29) (.cons (.v 30) (.cons (.v 31) .nil)))), (.rc (.cons (.v 33) (.cons (.v 34) (.cons (.v 35) .nil))))] [(.c .bool)] 38
              (.ite (.v 38)
               (.ite (.cmp .eql (.v 32) (.v 36))
                (.cal 13 [(.g [(.int .i64), (.lst [.str, .str, (.int .i64), (.int .i64), (.int .i64), (.int .i64), .str, .bool, (.int .i64), (.lst [(.int .i64), (.int .i64)])]), (.int .i64)])] [(.rc (.cons (.v 29) (.cons (.v 30) (.cons (.v 31) .nil))))] [(.c (.int .i64))] 39
                 (.ite (.cmp .eql (.v 39) (.ki .i64 0))
                  (.cal 10 [] [] [(.c .bool)] 40
                   (.ret [(.v 40)]))
                  (.ret [(.kb false)])))
                (.ret [(.kb false)]))
               (.ret [(.kb false)])))
             (.ret [(.kb false)]))
            (.ret [(.kb false)]))))))))))
   (.cal 10 [] [] [(.c .bool)] 6
    (.ret [(.v 6)])))))
theorem lOutboxAcks_ent : EntOK Try.prog [] ⟨5, [(.g [(.int .i64), (.lst [.str, .str, (.int .i64), (.int .i64), (.int .i64), (.int .i64), .str, .bool, (.int .i64), (.lst [(.int .i64), (.int .i64)])]), (.int .i64)]), (.c .str), (.c (.int .i64))], [(.c .bool)], vclOutboxAcks⟩ :=
  ent_of_gen hP Try.func5 rfl (by decide) (sg := sgs) (by kernel_rfl)
def vclOutboxSaves : VC := (.ite (.cmp .gtr (.len (.v 1)) (.ki .i64 40))
 (.cal 10 [] [] [(.c .bool)] 3
  (.ret [(.v 3)]))
 (.cal 9 [(.c (.lst [.str, .str, (.int .i64), (.int .i64), (.int .i64), (.int .i64), .str, .bool, (.int .i64), (.lst [(.int .i64), (.int .i64)])]))] [(.v 1)] [(.c .bool)] 3
  (.ite (.v 3)
   (.cal 23 [(.g [(.int .i64), (.lst [.str, .str, (.int .i64), (.int .i64), (.int .i64), (.int .i64), .str, .bool, (.int .i64), (.lst [(.int .i64), (.int .i64)])]), (.int .i64)])] [(.rc (.cons (.v 0) (.cons (.v 1) (.cons (.v 2) .nil))))] [(.c (.lst [(.int .u8)])), (.c (.int .i64))] 4
    (.cal 24 [(.g [(.int .i64), (.lst [.str, .str, (.int .i64), (.int .i64), (.int .i64), (.int .i64), .str, .bool, (.int .i64), (.lst [(.int .i64), (.int .i64)])]), (.int .i64)])] [(.rc (.cons (.v 0) (.cons (.v 1) (.cons (.v 2) .nil))))] [(.c (.lst [(.int .u8)])), (.c (.int .i64))] 6
     (.ite (.seq (.b2s (.v 4)) (.b2s (.v 6)))
      (.ite (.cmp .neq (.v 5) (.v 7))
       (.ret [(.kb false)])
       (.ite (.cmp .neq (.v 5) (.ki .i64 0))
        (.cal 10 [] [] [(.c .bool)] 8
         (.ret [(.v 8)]))
        (.cal 25 [(.c (.lst [(.int .u8)]))] [(.v 4)] [(.g [(.int .i64), (.lst [.str, .str, (.int .i64), (.int .i64), (.int .i64), (.int .i64), .str, .bool, (.int .i64), (.lst [(.int .i64), (.int .i64)])]), (.int .i64)]), (.c (.int .i64))] 8
         (.cal 15 [(.g [(.int .i64), (.lst [.str, .str, (.int .i64), (.int .i64), (.int .i64), (.int .i64), .str, .bool, (.int .i64), (.lst [(.int .i64), (.int .i64)])]), (.int .i64)]), (.g [(.int .i64), (.lst [.str, .str, (.int .i64), (.int .i64), (.int .i64), (.int .i64), .str, .bool, (.int .i64), (.lst [(.int .i64), (.int .i64)])]), (.int .i64)])] [(.rc (.cons (.v 8) (.cons (.v 9) (.cons (.v 10) .nil)))), (.rc (.cons (.v 0) (.cons (.v 1) (.cons (.v 2) .nil))))] [(.c .bool)] 12
          (.ite (.v 12)
           (.ite (.cmp .eql (.v 11) (.ki .i64 0))
            (.cal 10 [] [] [(.c .bool)] 13
             (.ret [(.v 13)]))
            (.ret [(.kb false)]))
           (.ret [(.kb false)]))))))
      (.ret [(.kb false)]))))
   (.cal 10 [] [] [(.c .bool)] 4
    (.ret [(.v 4)])))))
theorem lOutboxSaves_ent : EntOK Try.prog [] ⟨6, [(.g [(.int .i64), (.lst [.str, .str, (.int .i64), (.int .i64), (.int .i64), (.int .i64), .str, .bool, (.int .i64), (.lst [(.int .i64), (.int .i64)])]), (.int .i64)])], [(.c .bool)], vclOutboxSaves⟩ :=
  ent_of_gen hP Try.func6 rfl (by decide) (sg := sgs) (by kernel_rfl)
def vclOutboxLoads : VC := (.ite (.cmp .gtr (.len (.v 0)) (.ki .i64 600))
 (.cal 10 [] [] [(.c .bool)] 1
  (.ret [(.v 1)]))
 (.cal 25 [(.c (.lst [(.int .u8)]))] [(.v 0)] [(.g [(.int .i64), (.lst [.str, .str, (.int .i64), (.int .i64), (.int .i64), (.int .i64), .str, .bool, (.int .i64), (.lst [(.int .i64), (.int .i64)])]), (.int .i64)]), (.c (.int .i64))] 1
  (.cal 26 [(.c (.lst [(.int .u8)]))] [(.v 0)] [(.g [(.int .i64), (.lst [.str, .str, (.int .i64), (.int .i64), (.int .i64), (.int .i64), .str, .bool, (.int .i64), (.lst [(.int .i64), (.int .i64)])]), (.int .i64)]), (.c (.int .i64))] 5
   (.cal 15 [(.g [(.int .i64), (.lst [.str, .str, (.int .i64), (.int .i64), (.int .i64), (.int .i64), .str, .bool, (.int .i64), (.lst [(.int .i64), (.int .i64)])]), (.int .i64)]), (.g [(.int .i64), (.lst [.str, .str, (.int .i64), (.int .i64), (.int .i64), (.int .i64), .str, .bool, (.int .i64), (.lst [(.int .i64), (.int .i64)])]), (.int .i64)])] [(.rc (.cons (.v 1) (.cons (.v 2) (.cons (.v 3) .nil)))), (.rc (.cons (.v 5) (.cons (.v 6) (.cons (.v 7) .nil))))] [(.c .bool)] 9
    (.ite (.v 9)
     (.ite (.cmp .neq (.v 4) (.v 8))
      (.ret [(.kb false)])
      (.ite (.cmp .neq (.v 4) (.ki .i64 0))
       (.cal 10 [] [] [(.c .bool)] 10
        (.ret [(.v 10)]))
       (.cal 23 [(.g [(.int .i64), (.lst [.str, .str, (.int .i64), (.int .i64), (.int .i64), (.int .i64), .str, .bool, (.int .i64), (.lst [(.int .i64), (.int .i64)])]), (.int .i64)])] [(.rc (.cons (.v 1) (.cons (.v 2) (.cons (.v 3) .nil))))] [(.c (.lst [(.int .u8)])), (.c (.int .i64))] 10
        (.ite (.seq (.b2s (.v 10)) (.b2s (.v 0)))
         (.ite (.cmp .eql (.v 11) (.ki .i64 0))
          (.cal 10 [] [] [(.c .bool)] 12
           (.ret [(.v 12)]))
          (.ret [(.kb false)]))
         (.ret [(.kb false)])))))
     (.ret [(.kb false)]))))))
theorem lOutboxLoads_ent : EntOK Try.prog [] ⟨7, [(.c (.lst [(.int .u8)]))], [(.c .bool)], vclOutboxLoads⟩ :=
  ent_of_gen hP Try.func7 rfl (by decide) (sg := sgs) (by kernel_rfl)
theorem typ_evs {d : D} (h : Typ (.lst [.str, .str, .int .i64, .int .i64, .int .i64, .int .i64, .str, .bool, .int .i64, .lst [.int .i64, .int .i64]]) d) : ∃ l : List Evt, d = evsD l ∧ l.length ≤ maxLen ∧ ∀ x ∈ l, EvT x := by
  unfold Typ at h
  obtain ⟨l, rfl, hl, hx⟩ := h
  obtain ⟨L, rfl, hL⟩ := list_read (g := evD) (q := EvT) (p := fun d => Typs [.str, .str, .int .i64, .int .i64, .int .i64, .int .i64, .str, .bool, .int .i64, .lst [.int .i64, .int .i64]] (d.cells [.str, .str, .int .i64, .int .i64, .int .i64, .int .i64, .str, .bool, .int .i64, .lst [.int .i64, .int .i64]])) (fun d hd => by
    cases d with
    | rc ds =>
      have hd2 : TypT tE (.rc ds) := ⟨ds, rfl, hd⟩
      exact typ_ev hd2
    | _ => simp [D.cells, Typs] at hd) l hx
  exact ⟨L, rfl, by simpa using hl, hL⟩
theorem typ_ob {d : D} (h : TypT tO d) : ∃ o : Ob, d = obD o ∧ inI o.rm ∧ inI o.lo ∧ ∀ x ∈ o.it, EvT x := by
  obtain ⟨ds, rfl, h⟩ := h
  unfold Typs at h
  obtain ⟨_, _, rfl, h0, h⟩ := h
  unfold Typs at h
  obtain ⟨_, _, rfl, h1, h⟩ := h
  unfold Typs at h
  obtain ⟨_, _, rfl, h2, h⟩ := h
  unfold Typs at h
  subst h
  obtain ⟨a, rfl, ha⟩ := typ_int h0
  obtain ⟨l, rfl, _, hl⟩ := typ_evs h1
  obtain ⟨b, rfl, hb⟩ := typ_int h2
  exact ⟨⟨a, l, b⟩, rfl, ha, hb, hl⟩
theorem newS_T {v : Int} (hv : inI v) : ObT (newS v) := by
  unfold newS
  split
  · exact ⟨by unfold inI; decide, by unfold inI; decide, by decide, fun x hx => by cases hx⟩
  · exact ⟨hv, (show inI 0 by unfold inI; decide), Nat.zero_le _, fun x hx => by cases hx⟩
theorem head_T {o : Ob} (ho : ObT o) : EvT (headE o) := by
  unfold headE
  by_cases h : o.it = []
  · rw [h]; exact ev0_T
  · have : 0 < o.it.length := List.length_pos_iff.2 h
    exact ho.it _ (mem_getD ev0 this)
end Go.Proofs.Ytmkkijgnlohieaa.O31l
