/-
  Layer 26: the examples of the chapter, reckoned out.
-/
import Derived.Test.YtfhdgaecclfccaaV26b
import Derived.Test.YtfhdgaecclfccaaS26
import Derived.Test.YtfhdgaecclfccaaId
import Derived.Test.YtfhdgaecclfccaaSy06p
import Derived.Test.YtfhdgaecclfccaaSyXq
import Derived.Recover
import Derived.Tactics
import Derived.Tactics2
import Derived.Test.YtfhdgaecclfccaaR26
set_option maxRecDepth 100000
set_option linter.unusedSimpArgs false
set_option linter.unusedVariables false
namespace Go.Proofs.Ytfhdgaecclfccaa.X26
open Go.Proofs.Ytfhdgaecclfccaa Go.Proofs.Ytfhdgaecclfccaa.Sy Go.Proofs.Ytfhdgaecclfccaa.L7 Go.Proofs.Ytfhdgaecclfccaa.Id Go.Proofs.Ytfhdgaecclfccaa.R26 Go.Proofs.Ytfhdgaecclfccaa.L7n Go.RowKit Go.WideShapes Go.ChangeShapes Go.ChangeAt
theorem hP : NoNum Try.prog := by unfold NoNum; kernel_rfl
def sgs : Nat → Option (List TS × List TS) := M26.sgs
theorem quiet_dec : Quiet Try.prog 43 := by
  refine ⟨⟨_, Try.func43, rfl⟩, fun p q w => ?_⟩
  refine callsD_of_wpS Try.func43 rfl fun c₀ cs hu => ?_
  apply wpS_seq
  apply wpS_region
  simp [wpOpsS, go_sem, recoverD, hu, Try.ntmps43, Exit.thenS]
  refine wpS_of_wp ?_
  go_wp2
  cases c₀
  simp_all [bodyPostS, results, Try.results43]
def vcdec : VC := (.cal 42 [(.c (.lst [(.int .u8)]))] [(.v 0)] [(.c (.lst [(.int .u8)])), (.c (.int .i64))] 1
 (.ite (.cmp .neq (.v 2) (.ki .i64 0))
  (.ret [(.rc (.cons (.ki .i64 0) (.cons (.ki .i64 0) (.cons (.ki .i64 0) (.cons (.ki .i64 0) (.cons (.ki .i64 0) (.cons (.ki .i64 0) (.cons (.ki .i64 0) (.cons (.ki .i64 0) (.cons (.ks ⟨List.toArray []⟩) (.cons (.ks ⟨List.toArray []⟩) (.cons (.ks ⟨List.toArray []⟩) (.cons (.kb false) (.cons .nil (.cons (.ki .i64 0) (.cons (.ki .i64 0) (.cons (.ki .i64 0) (.cons (.ki .i64 0) (.cons (.ki .i64 0) (.cons (.ks ⟨List.toArray []⟩) (.cons (.ki .i64 0) (.cons (.ki .i64 0) (.cons (.ki .i64 0) (.cons (.ki .i64 0) (.cons .nil (.cons .nil .nil)))))))))))))))))))))))))), (.v 2)])
  (.cal 44 [(.c (.lst [(.int .u8)]))] [(.v 1)] [(.g [(.int .i64), (.int .i64), (.int .i64), (.int .i64), (.int .i64), (.int .i64), (.int .i64), (.int .i64), .str, .str, .str, .bool, (.lst [(.int .i64), (.int .i64)]), (.int .i64), (.int .i64), (.int .i64), (.int .i64), (.int .i64), .str, (.int .i64), (.int .i64), (.int .i64), (.int .i64), (.lst [(.int .i64), (.int .i64)]), (.lst [.str, .str, .str, (.int .i64), (.int .i64), (.int .i64)])])] 3
   (.cal 9 [(.g [(.int .i64), (.int .i64), (.int .i64), (.int .i64), (.int .i64), (.int .i64), (.int .i64), (.int .i64), .str, .str, .str, .bool, (.lst [(.int .i64), (.int .i64)]), (.int .i64), (.int .i64), (.int .i64), (.int .i64), (.int .i64), .str, (.int .i64), (.int .i64), (.int .i64), (.int .i64), (.lst [(.int .i64), (.int .i64)]), (.lst [.str, .str, .str, (.int .i64), (.int .i64), (.int .i64)])])] [(.rc (.cons (.v 3) (.cons (.v 4) (.cons (.v 5) (.cons (.v 6) (.cons (.v 7) (.cons (.v 8) (.cons (.v 9) (.cons (.v 10) (.cons (.v 11) (.cons (.v 12) (.cons (.v 13) (.cons (.v 14) (.cons (.v 15) (.cons (.v 16) (.cons (.v 17) (.cons (.v 18) (.cons (.v 19) (.cons (.v 20) (.cons (.v 21) (.cons (.v 22) (.cons (.v 23) (.cons (.v 24) (.cons (.v 25) (.cons (.v 26) (.cons (.v 27) .nil))))))))))))))))))))))))))] [(.c (.int .i64))] 28
    (.ite (.cmp .neq (.v 28) (.ki .i64 0))
     (.ret [(.rc (.cons (.ki .i64 0) (.cons (.ki .i64 0) (.cons (.ki .i64 0) (.cons (.ki .i64 0) (.cons (.ki .i64 0) (.cons (.ki .i64 0) (.cons (.ki .i64 0) (.cons (.ki .i64 0) (.cons (.ks ⟨List.toArray []⟩) (.cons (.ks ⟨List.toArray []⟩) (.cons (.ks ⟨List.toArray []⟩) (.cons (.kb false) (.cons .nil (.cons (.ki .i64 0) (.cons (.ki .i64 0) (.cons (.ki .i64 0) (.cons (.ki .i64 0) (.cons (.ki .i64 0) (.cons (.ks ⟨List.toArray []⟩) (.cons (.ki .i64 0) (.cons (.ki .i64 0) (.cons (.ki .i64 0) (.cons (.ki .i64 0) (.cons .nil (.cons .nil .nil)))))))))))))))))))))))))), (.v 28)])
     (.ret [(.rc (.cons (.v 3) (.cons (.v 4) (.cons (.v 5) (.cons (.v 6) (.cons (.v 7) (.cons (.v 8) (.cons (.v 9) (.cons (.v 10) (.cons (.v 11) (.cons (.v 12) (.cons (.v 13) (.cons (.v 14) (.cons (.v 15) (.cons (.v 16) (.cons (.v 17) (.cons (.v 18) (.cons (.v 19) (.cons (.v 20) (.cons (.v 21) (.cons (.v 22) (.cons (.v 23) (.cons (.v 24) (.cons (.v 25) (.cons (.v 26) (.cons (.v 27) .nil)))))))))))))))))))))))))), (.ki .i64 0)]))))))
theorem dec_q (ds rs : List D) (h : vcdec.den Try.prog [] (fun r' => r' = .ok rs) [] (flatD [(.c (.lst [(.int .u8)]))] ds)) : Fun Try.prog [] 18 [(.c (.lst [(.int .u8)]))] ds [(.g [(.int .i64), (.int .i64), (.int .i64), (.int .i64), (.int .i64), (.int .i64), (.int .i64), (.int .i64), .str, .str, .str, .bool, (.lst [(.int .i64), (.int .i64)]), (.int .i64), (.int .i64), (.int .i64), (.int .i64), (.int .i64), .str, (.int .i64), (.int .i64), (.int .i64), (.int .i64), (.lst [(.int .i64), (.int .i64)]), (.lst [.str, .str, .str, (.int .i64), (.int .i64), (.int .i64)])]), (.c (.int .i64))] (.ok rs) :=
  fun_of_q hP Try.func18 rfl (n := 3) (a := 2) (b := 3) (t := 15) rfl rfl rfl rfl rfl rfl rfl (sg := sgs) quiet_dec (by decide) (by kernel_rfl) h
def vceqtk : VC := (.ite (.cmp .neq (.len (.v 0)) (.len (.v 1)))
 (.ret [(.kb false)])
 (.loop [.bool, (.int .i64)] [(.kb false), (.ki .i64 0)]
  (.ite (.cmp .lss (.v 3) (.len (.v 0)))
   (.ev [(.ob (.cmp .geq (.v 3) (.ki .i64 0))), (.ob (.cmp .lss (.v 3) (.len (.v 0)))), (.ob (.cmp .geq (.v 3) (.ki .i64 0))), (.ob (.cmp .lss (.v 3) (.len (.v 1))))]
    (.ite (.and (.seq (.cell (.get (.v 0) (.v 3)) 0) (.cell (.get (.v 1) (.v 3)) 0)) (.and (.seq (.cell (.get (.v 0) (.v 3)) 1) (.cell (.get (.v 1) (.v 3)) 1)) (.and (.seq (.cell (.get (.v 0) (.v 3)) 2) (.cell (.get (.v 1) (.v 3)) 2)) (.and (.cmp .eql (.cell (.get (.v 0) (.v 3)) 3) (.cell (.get (.v 1) (.v 3)) 3)) (.and (.cmp .eql (.cell (.get (.v 0) (.v 3)) 4) (.cell (.get (.v 1) (.v 3)) 4)) (.and (.cmp .eql (.cell (.get (.v 0) (.v 3)) 5) (.cell (.get (.v 1) (.v 3)) 5)) (.kb true)))))))
     (.back 0 [(.v 2), (.ar .add .i64 (.v 3) (.ki .i64 1))])
     (.ret [(.kb false)])))
   (.ret [(.kb true)]))))
def hdeqtk : List HdL := [{ kind := true, id := 4, nv := 2, tmps := [(.v (.c (.d (.lst [.str, .str, .str, (.int .i64), (.int .i64), (.int .i64)]) (.v 0)))), (.v (.c (.d (.lst [.str, .str, .str, (.int .i64), (.int .i64), (.int .i64)]) (.v 1)))), (.v (.c .any)), (.v (.c .any)), (.v (.c (.d .bool (.v 2)))), (.v (.c .any)), (.v (.c (.d (.lst [.str, .str, .str, (.int .i64), (.int .i64), (.int .i64)]) (.v 0)))), (.v (.c (.d (.int .i64) (.len (.v 0))))), (.v (.c (.d (.lst [.str, .str, .str, (.int .i64), (.int .i64), (.int .i64)]) (.v 1)))), (.v (.c (.d (.int .i64) (.len (.v 1))))), (.v (.c (.d .bool (.cmp .neq (.len (.v 0)) (.len (.v 1)))))), (.v (.c (.d (.lst [.str, .str, .str, (.int .i64), (.int .i64), (.int .i64)]) (.v 0)))), (.v (.c (.d (.int .i64) (.len (.v 0))))), (.v (.c (.d (.int .i64) (.v 3)))), (.v (.c .any)), (.v (.c .any)), (.v (.c .any)), (.v (.c .any)), (.v (.c .any)), (.v (.c .any)), (.v (.c .any)), (.v (.c .any)), (.v (.c .any)), (.v (.c .any)), (.v (.c .any)), (.v (.c .any))], blks := [], shs := [.bool, (.int .i64)], rs := [], bs := [], fz := [] }]
theorem eqtk_ent : EntOK Try.prog [] ⟨39, [(.c (.lst [.str, .str, .str, (.int .i64), (.int .i64), (.int .i64)])), (.c (.lst [.str, .str, .str, (.int .i64), (.int .i64), (.int .i64)]))], [(.c .bool)], vceqtk⟩ :=
  ent_of_genH hP Try.func39 rfl (by decide) (jn := []) (hd := hdeqtk) (sg := sgs) (by kernel_rfl)
def vceqpe : VC := (.ite (.cmp .neq (.len (.v 0)) (.len (.v 1)))
 (.ret [(.kb false)])
 (.loop [.bool, (.int .i64)] [(.kb false), (.ki .i64 0)]
  (.ite (.cmp .lss (.v 3) (.len (.v 0)))
   (.ev [(.ob (.cmp .geq (.v 3) (.ki .i64 0))), (.ob (.cmp .lss (.v 3) (.len (.v 0)))), (.ob (.cmp .geq (.v 3) (.ki .i64 0))), (.ob (.cmp .lss (.v 3) (.len (.v 1))))]
    (.ite (.and (.cmp .eql (.cell (.get (.v 0) (.v 3)) 0) (.cell (.get (.v 1) (.v 3)) 0)) (.and (.cmp .eql (.cell (.get (.v 0) (.v 3)) 1) (.cell (.get (.v 1) (.v 3)) 1)) (.kb true)))
     (.back 0 [(.v 2), (.ar .add .i64 (.v 3) (.ki .i64 1))])
     (.ret [(.kb false)])))
   (.ret [(.kb true)]))))
def hdeqpe : List HdL := [{ kind := true, id := 4, nv := 2, tmps := [(.v (.c (.d (.lst [(.int .i64), (.int .i64)]) (.v 0)))), (.v (.c (.d (.lst [(.int .i64), (.int .i64)]) (.v 1)))), (.v (.c .any)), (.v (.c .any)), (.v (.c (.d .bool (.v 2)))), (.v (.c .any)), (.v (.c (.d (.lst [(.int .i64), (.int .i64)]) (.v 0)))), (.v (.c (.d (.int .i64) (.len (.v 0))))), (.v (.c (.d (.lst [(.int .i64), (.int .i64)]) (.v 1)))), (.v (.c (.d (.int .i64) (.len (.v 1))))), (.v (.c (.d .bool (.cmp .neq (.len (.v 0)) (.len (.v 1)))))), (.v (.c (.d (.lst [(.int .i64), (.int .i64)]) (.v 0)))), (.v (.c (.d (.int .i64) (.len (.v 0))))), (.v (.c (.d (.int .i64) (.v 3)))), (.v (.c .any)), (.v (.c .any)), (.v (.c .any)), (.v (.c .any)), (.v (.c .any)), (.v (.c .any)), (.v (.c .any)), (.v (.c .any)), (.v (.c .any)), (.v (.c .any)), (.v (.c .any)), (.v (.c .any))], blks := [], shs := [.bool, (.int .i64)], rs := [], bs := [], fz := [] }]
theorem eqpe_ent : EntOK Try.prog [] ⟨57, [(.c (.lst [(.int .i64), (.int .i64)])), (.c (.lst [(.int .i64), (.int .i64)]))], [(.c .bool)], vceqpe⟩ :=
  ent_of_genH hP Try.func57 rfl (by decide) (jn := []) (hd := hdeqpe) (sg := sgs) (by kernel_rfl)
def nIdx : NEnt := ⟨67, [.c (.lst [.int .u8]), .c (.int .u8)], [.c (.int .i64)], fun ds => match ds with
  | [.lst l, .int .u8 c] => (match bOf l with | some b => (if decide (0 ≤ c) && decide (c ≤ 255) then some (.ok [.int .i64 (idxI b c)]) else none) | none => none)
  | _ => none⟩
theorem nIdx_ok : NEntOK Try.prog [] nIdx := by
  intro ds r h
  simp only [nIdx] at h
  split at h
  · rename_i l c
    split at h
    · rename_i b hb
      split at h
      · rename_i hl
        cases h
        simp only [Bool.and_eq_true, decide_eq_true_eq] at hl
        obtain ⟨h1, h2⟩ := bOf_eq hb
        subst h1
        exact idx_fn b c h2 hl.1 hl.2
      · cases h
    · cases h
  · cases h
def natX : List NEnt := nIdx :: nats
theorem natX_ok : ∀ e ∈ natX, NEntOK Try.prog [] e := by
  intro e he
  rcases List.mem_cons.1 he with rfl | he
  · exact nIdx_ok
  · exact nats_ok e he
def entX : List Ent := [⟨17, [(.g [(.int .i64), (.int .i64), (.int .i64), (.int .i64), (.int .i64), (.int .i64), (.int .i64), (.int .i64), .str, .str, .str, .bool, (.lst [(.int .i64), (.int .i64)]), (.int .i64), (.int .i64), (.int .i64), (.int .i64), (.int .i64), .str, (.int .i64), (.int .i64), (.int .i64), (.int .i64), (.lst [(.int .i64), (.int .i64)]), (.lst [.str, .str, .str, (.int .i64), (.int .i64), (.int .i64)])])], [(.c (.lst [(.int .u8)])), (.c (.int .i64))], M26.vcmencode⟩,
  ⟨41, [(.g [(.int .i64), (.int .i64), (.int .i64), (.int .i64), (.int .i64), (.int .i64), (.int .i64), (.int .i64), .str, .str, .str, .bool, (.lst [(.int .i64), (.int .i64)]), (.int .i64), (.int .i64), (.int .i64), (.int .i64), (.int .i64), .str, (.int .i64), (.int .i64), (.int .i64), (.int .i64), (.lst [(.int .i64), (.int .i64)]), (.lst [.str, .str, .str, (.int .i64), (.int .i64), (.int .i64)])])], [(.c (.lst [(.int .u8)]))], M26.vcencoded⟩,
  ⟨64, [(.g [(.int .i64), (.int .i64), (.int .i64), (.int .i64), (.int .i64), .str, (.int .i64), (.int .i64), (.int .i64), (.int .i64), (.lst [(.int .i64), (.int .i64)])])], [(.c (.lst [(.int .u8)]))], M26.vcencprof⟩,
  ⟨65, [(.g [.str, .str, .str, (.int .i64), (.int .i64), (.int .i64)])], [(.c (.lst [(.int .u8)]))], M26.vcenctok⟩,
  ⟨60, [(.p [(.r [(.int .i64), (.lst [(.int .u8)])])]), (.c (.int .i64)), (.c (.int .i64))], [], M26.vcrnum⟩,
  ⟨61, [(.p [(.r [(.int .i64), (.lst [(.int .u8)])])]), (.c (.int .i64)), (.c .str)], [], M26.vcrtext⟩,
  ⟨63, [(.p [(.r [(.int .i64), (.lst [(.int .u8)])])]), (.c (.int .i64)), (.c (.lst [(.lst [(.int .u8)])]))], [], M26.vcritems⟩,
  ⟨66, [(.c (.lst [(.int .i64), (.lst [(.int .u8)])]))], [(.c (.lst [(.int .u8)]))], M26.vcrbytes⟩,
  ⟨9, [(.g [(.int .i64), (.int .i64), (.int .i64), (.int .i64), (.int .i64), (.int .i64), (.int .i64), (.int .i64), .str, .str, .str, .bool, (.lst [(.int .i64), (.int .i64)]), (.int .i64), (.int .i64), (.int .i64), (.int .i64), (.int .i64), .str, (.int .i64), (.int .i64), (.int .i64), (.int .i64), (.lst [(.int .i64), (.int .i64)]), (.lst [.str, .str, .str, (.int .i64), (.int .i64), (.int .i64)])])], [(.c (.int .i64))], V26.vcmval⟩,
  ⟨21, [(.g [(.int .i64), (.int .i64), (.int .i64), (.int .i64), (.int .i64), (.int .i64), (.int .i64), (.int .i64), .str, .str, .str, .bool, (.lst [(.int .i64), (.int .i64)]), (.int .i64), (.int .i64), (.int .i64), (.int .i64), (.int .i64), .str, (.int .i64), (.int .i64), (.int .i64), (.int .i64), (.lst [(.int .i64), (.int .i64)]), (.lst [.str, .str, .str, (.int .i64), (.int .i64), (.int .i64)])]), (.c (.int .i64))], [(.c .bool)], V26.vcmnum⟩,
  ⟨22, [(.g [(.int .i64), (.int .i64), (.int .i64), (.int .i64), (.int .i64), (.int .i64), (.int .i64), (.int .i64), .str, .str, .str, .bool, (.lst [(.int .i64), (.int .i64)]), (.int .i64), (.int .i64), (.int .i64), (.int .i64), (.int .i64), .str, (.int .i64), (.int .i64), (.int .i64), (.int .i64), (.lst [(.int .i64), (.int .i64)]), (.lst [.str, .str, .str, (.int .i64), (.int .i64), (.int .i64)])]), (.c (.int .i64))], [(.c .bool)], V26.vcmnam⟩,
  ⟨23, [(.g [(.int .i64), (.int .i64), (.int .i64), (.int .i64), (.int .i64), (.int .i64), (.int .i64), (.int .i64), .str, .str, .str, .bool, (.lst [(.int .i64), (.int .i64)]), (.int .i64), (.int .i64), (.int .i64), (.int .i64), (.int .i64), .str, (.int .i64), (.int .i64), (.int .i64), (.int .i64), (.lst [(.int .i64), (.int .i64)]), (.lst [.str, .str, .str, (.int .i64), (.int .i64), (.int .i64)])]), (.c (.int .i64))], [(.c (.int .i64))], V26.vcmlis⟩,
  ⟨20, [(.g [(.int .i64), (.int .i64), (.int .i64), (.int .i64), (.int .i64), (.int .i64), (.int .i64), (.int .i64), .str, .str, .str, .bool, (.lst [(.int .i64), (.int .i64)]), (.int .i64), (.int .i64), (.int .i64), (.int .i64), (.int .i64), .str, (.int .i64), (.int .i64), (.int .i64), (.int .i64), (.lst [(.int .i64), (.int .i64)]), (.lst [.str, .str, .str, (.int .i64), (.int .i64), (.int .i64)])])], [(.c (.int .i64))], V26.vcpres⟩,
  ⟨19, [(.c (.int .i64)), (.c (.int .i64))], [(.c (.int .i64)), (.c .bool)], V26.vcusd⟩,
  ⟨45, [(.c (.int .i64))], [(.c (.int .i64)), (.c .bool)], V26.vcuic⟩,
  ⟨48, [(.g [.str, .str, .str, (.int .i64), (.int .i64), (.int .i64)])], [(.c (.int .i64))], V26.vcentry⟩,
  ⟨81, [(.g [.str, .str, .str, (.int .i64), (.int .i64), (.int .i64)])], [(.c (.int .i64))], V26.vctval⟩,
  ⟨16, [(.g [(.int .i64), (.int .i64), (.int .i64), (.int .i64), (.int .i64), (.int .i64), (.int .i64), (.int .i64), .str, .str, .str, .bool, (.lst [(.int .i64), (.int .i64)]), (.int .i64), (.int .i64), (.int .i64), (.int .i64), (.int .i64), .str, (.int .i64), (.int .i64), (.int .i64), (.int .i64), (.lst [(.int .i64), (.int .i64)]), (.lst [.str, .str, .str, (.int .i64), (.int .i64), (.int .i64)])]), (.g [(.int .i64), (.int .i64), (.int .i64), (.int .i64), (.int .i64), (.int .i64), (.int .i64), (.int .i64), .str, .str, .str, .bool, (.lst [(.int .i64), (.int .i64)]), (.int .i64), (.int .i64), (.int .i64), (.int .i64), (.int .i64), .str, (.int .i64), (.int .i64), (.int .i64), (.int .i64), (.lst [(.int .i64), (.int .i64)]), (.lst [.str, .str, .str, (.int .i64), (.int .i64), (.int .i64)])])], [(.c .bool)], M26.vcmsame⟩,
  ⟨38, [(.g [(.int .i64), (.int .i64), (.int .i64), (.int .i64), (.int .i64), .str, (.int .i64), (.int .i64), (.int .i64), (.int .i64), (.lst [(.int .i64), (.int .i64)])]), (.g [(.int .i64), (.int .i64), (.int .i64), (.int .i64), (.int .i64), .str, (.int .i64), (.int .i64), (.int .i64), (.int .i64), (.lst [(.int .i64), (.int .i64)])])], [(.c .bool)], M26.vcmsameprof⟩,
  ⟨37, [(.c (.lst [(.int .i64), (.int .i64)])), (.c (.lst [(.int .i64), (.int .i64)]))], [(.c .bool)], R26.vceqrd⟩,
  ⟨39, [(.c (.lst [.str, .str, .str, (.int .i64), (.int .i64), (.int .i64)])), (.c (.lst [.str, .str, .str, (.int .i64), (.int .i64), (.int .i64)]))], [(.c .bool)], vceqtk⟩,
  ⟨57, [(.c (.lst [(.int .i64), (.int .i64)])), (.c (.lst [(.int .i64), (.int .i64)]))], [(.c .bool)], vceqpe⟩,
  ⟨12, [(.g [(.int .i64), (.int .i64), (.int .i64), (.int .i64), (.int .i64), (.int .i64), (.int .i64), (.int .i64), .str, .str, .str, .bool, (.lst [(.int .i64), (.int .i64)]), (.int .i64), (.int .i64), (.int .i64), (.int .i64), (.int .i64), .str, (.int .i64), (.int .i64), (.int .i64), (.int .i64), (.lst [(.int .i64), (.int .i64)]), (.lst [.str, .str, .str, (.int .i64), (.int .i64), (.int .i64)])]), (.c (.int .i64))], [(.g [(.int .i64), (.int .i64), (.int .i64), (.int .i64), (.int .i64), (.int .i64), (.int .i64), (.int .i64), .str, .str, .str, .bool, (.lst [(.int .i64), (.int .i64)]), (.int .i64), (.int .i64), (.int .i64), (.int .i64), (.int .i64), .str, (.int .i64), (.int .i64), (.int .i64), (.int .i64), (.lst [(.int .i64), (.int .i64)]), (.lst [.str, .str, .str, (.int .i64), (.int .i64), (.int .i64)])])], M26.vcmresult⟩,
  ⟨14, [(.g [(.int .i64), (.int .i64), (.int .i64), (.int .i64), (.int .i64), (.int .i64), (.int .i64), (.int .i64), .str, .str, .str, .bool, (.lst [(.int .i64), (.int .i64)]), (.int .i64), (.int .i64), (.int .i64), (.int .i64), (.int .i64), .str, (.int .i64), (.int .i64), (.int .i64), (.int .i64), (.lst [(.int .i64), (.int .i64)]), (.lst [.str, .str, .str, (.int .i64), (.int .i64), (.int .i64)])]), (.c (.int .i64))], [(.g [(.int .i64), (.int .i64), (.int .i64), (.int .i64), (.int .i64), (.int .i64), (.int .i64), (.int .i64), .str, .str, .str, .bool, (.lst [(.int .i64), (.int .i64)]), (.int .i64), (.int .i64), (.int .i64), (.int .i64), (.int .i64), .str, (.int .i64), (.int .i64), (.int .i64), (.int .i64), (.lst [(.int .i64), (.int .i64)]), (.lst [.str, .str, .str, (.int .i64), (.int .i64), (.int .i64)])])], M26.vcmfailure⟩,
  ⟨44, [(.c (.lst [(.int .u8)]))], [(.g [(.int .i64), (.int .i64), (.int .i64), (.int .i64), (.int .i64), (.int .i64), (.int .i64), (.int .i64), .str, .str, .str, .bool, (.lst [(.int .i64), (.int .i64)]), (.int .i64), (.int .i64), (.int .i64), (.int .i64), (.int .i64), .str, (.int .i64), (.int .i64), (.int .i64), (.int .i64), (.lst [(.int .i64), (.int .i64)]), (.lst [.str, .str, .str, (.int .i64), (.int .i64), (.int .i64)])])], M26.vcdecoded⟩,
  ⟨69, [(.c (.lst [(.int .u8)]))], [(.c (.lst [(.int .i64), (.lst [(.int .u8)])]))], M26.vctakerec⟩,
  ⟨76, [.i 25 (.int .i64), .c (.lst [.int .u8])], [], S26.vcset⟩,
  ⟨71, [(.c (.lst [(.int .u8)]))], [(.c (.int .i64))], M26.vctakenum⟩,
  ⟨70, [(.c .bool)], [], M26.vcchk⟩,
  ⟨40, [(.c (.lst [(.int .u8)]))], [(.r [(.int .u8)]), (.c (.int .i64))], M26.vcpack⟩,
  ⟨42, [(.c (.lst [(.int .u8)]))], [(.c (.lst [(.int .u8)])), (.c (.int .i64))], M26.vcunpack⟩,
  ⟨68, [(.c (.lst [(.int .u8)])), (.c .bool)], [(.r [(.int .u8)]), (.c (.int .i64))], M26.vccontent⟩,
  ⟨58, [(.r [(.int .u8)]), (.c (.int .u8))], [(.r [(.int .u8)])], M26.vcfput⟩,
  ⟨59, [(.c (.lst [(.int .u8)]))], [(.c (.int .i64))], M26.vcfsum⟩]
theorem entX_ok : ∀ e ∈ entX, EntOK Try.prog [] e := by
  intro e he
  simp only [entX, List.mem_cons, List.not_mem_nil, or_false] at he
  rcases he with rfl | rfl | rfl | rfl | rfl | rfl | rfl | rfl | rfl | rfl | rfl | rfl | rfl | rfl | rfl | rfl | rfl | rfl | rfl | rfl | rfl | rfl | rfl | rfl | rfl | rfl | rfl | rfl | rfl | rfl | rfl | rfl | rfl | rfl
  · exact M26.mencode_ent
  · exact M26.encoded_ent
  · exact M26.encprof_ent
  · exact M26.enctok_ent
  · exact M26.rnum_ent
  · exact M26.rtext_ent
  · exact M26.ritems_ent
  · exact M26.rbytes_ent
  · exact V26.mval_ent
  · exact V26.mnum_ent
  · exact V26.mnam_ent
  · exact V26.mlis_ent
  · exact V26.pres_ent
  · exact V26.usd_ent
  · exact V26.uic_ent
  · exact V26.entry_ent
  · exact V26.tval_ent
  · exact M26.msame_ent
  · exact M26.msameprof_ent
  · exact R26.eqrd_ent
  · exact eqtk_ent
  · exact eqpe_ent
  · exact M26.mresult_ent
  · exact M26.mfailure_ent
  · exact M26.decoded_ent
  · exact M26.takerec_ent
  · exact S26.set_ent
  · exact M26.takenum_ent
  · exact M26.chk_ent
  · exact M26.pack_ent
  · exact M26.unpack_ent
  · exact M26.content_ent
  · exact M26.fput_ent
  · exact M26.fsum_ent
def phiX : Phi := evalG (natPhi natX) 400 entX
theorem phiX_ok : PhiOK Try.prog [] phiX := evalG_sound (natPhi_sound natX_ok) entX_ok
def nDec : NEnt := ⟨18, [(.c (.lst [(.int .u8)]))], [(.g [(.int .i64), (.int .i64), (.int .i64), (.int .i64), (.int .i64), (.int .i64), (.int .i64), (.int .i64), .str, .str, .str, .bool, (.lst [(.int .i64), (.int .i64)]), (.int .i64), (.int .i64), (.int .i64), (.int .i64), (.int .i64), .str, (.int .i64), (.int .i64), (.int .i64), (.int .i64), (.lst [(.int .i64), (.int .i64)]), (.lst [.str, .str, .str, (.int .i64), (.int .i64), (.int .i64)])]), (.c (.int .i64))], runQ phiX vcdec 400 [(.c (.lst [(.int .u8)]))]⟩
theorem nDec_ok : NEntOK Try.prog [] nDec := runQ_sound phiX_ok dec_q
theorem natY_ok : ∀ e ∈ nDec :: natX, NEntOK Try.prog [] e := by
  intro e he
  rcases List.mem_cons.1 he with rfl | he
  · exact nDec_ok
  · exact natX_ok e he
def entY : List Ent := ⟨8, [], [.c .bool], M26.vcexample⟩ :: entX
theorem entY_ok : ∀ e ∈ entY, EntOK Try.prog [] e := by
  intro e he
  rcases List.mem_cons.1 he with rfl | he
  · exact M26.example_ent
  · exact entX_ok e he
theorem ex_fn : Fun Try.prog [] 8 [] [] [tB] (.ok [.bool true]) := fun_of_evalG natY_ok entY_ok 400 (by kernel_rfl)

end Go.Proofs.Ytfhdgaecclfccaa.X26
set_option maxRecDepth 100000
set_option linter.unusedSimpArgs false
set_option linter.unusedVariables false
namespace Go.Proofs.Ytfhdgaecclfccaa.Y26
open Go.Proofs.Ytfhdgaecclfccaa Go.Proofs.Ytfhdgaecclfccaa.Sy Go.Proofs.Ytfhdgaecclfccaa.L7 Go.Proofs.Ytfhdgaecclfccaa.Id Go.Proofs.Ytfhdgaecclfccaa.R26 Go.RowKit Go.WideShapes Go.ChangeShapes Go.ChangeAt

end Go.Proofs.Ytfhdgaecclfccaa.Y26
set_option maxRecDepth 100000
set_option linter.unusedSimpArgs false
set_option linter.unusedVariables false
namespace Go.Proofs.Ytfhdgaecclfccaa.B26
open Go.Proofs.Ytfhdgaecclfccaa Go.Proofs.Ytfhdgaecclfccaa.Sy Go.Proofs.Ytfhdgaecclfccaa.L7 Go.Proofs.Ytfhdgaecclfccaa.Id Go.Proofs.Ytfhdgaecclfccaa.R26 Go.Proofs.Ytfhdgaecclfccaa.V26 Go.Proofs.Ytfhdgaecclfccaa.M26 Go.Proofs.Ytfhdgaecclfccaa.X26 Go.RowKit Go.WideShapes Go.ChangeShapes Go.ChangeAt
theorem hP : NoNum Try.prog := by unfold NoNum; kernel_rfl
def sgs : Nat → Option (List TS × List TS) := fun _ => none
theorem eqpe_fn (a b : List (Int × Int)) (ha : a.length ≤ maxLen) (hb : b.length ≤ maxLen) : Fun Try.prog [] 57 [tR, tR] [rdD a, rdD b] [tB] (.ok [.bool (decide (a = b))]) := by
  refine X26.eqpe_ent _ _ ?_
  show X26.vceqpe.den _ _ _ _ _
  unfold X26.vceqpe
  have hmx : maxLen ≤ 9223372036854775807 := by decide
  refine den_ite (fun h => den_ret ?_) (fun h => ?_)
  · simp only [E.den, D.toI, D.toB, D.toL, D.toS, D.len, D.mapL, flatD, dE] at h
    have hne : a ≠ b := fun e => h (by rw [e])
    simp only [E.den, D.toI, D.toB, D.toL, D.toS, D.len, D.mapL, flatD, dE]
    simp [hne]
  simp only [E.den, D.toI, D.toB, D.toL, D.toS, D.len, D.mapL, flatD, dE] at h
  refine den_loop (fun xs => ∃ (q : Bool) (i : Nat), xs = [.bool q, I64d i] ∧ i ≤ a.length ∧ a.take i = b.take i) (fun xs => a.length - (xs.getD 1 default).toI.toNat) ⟨false, 0, rfl, by omega, rfl⟩ ?_
  simp only [AllSh]
  intro q n _ _ ⟨_, i, he, hi, htk⟩
  simp only [List.cons.injEq, D.int.injEq, D.bool.injEq, true_and, and_true] at he
  obtain ⟨rfl, rfl⟩ := he
  (try simp only [List.cons_append, List.nil_append])
  refine den_ite (fun h2 => ?_) (fun h2 => ?_)
  · simp only [E.den, D.toI, D.toB, D.toL, D.toS, D.len, D.mapL, flatD, dE] at h2
    have hia : i < a.length := by omega
    have hib : i < b.length := by omega
    have ga := getD_map (g := rD) (0, 0) hia
    have gb := getD_map (g := rD) (0, 0) hib
    have hw : IntKind.wrap .i64 ((i : Int) + 1) = ((i + 1 : Nat) : Int) := by rw [wrap_i64 (by omega) (by omega)]; omega
    refine den_ev (evs_ob (by simp only [E.den, D.toI, D.toB, D.toL, D.toS, D.len, D.mapL, flatD, dE]; omega) (evs_ob (by simp only [E.den, D.toI, D.toB, D.toL, D.toS, D.len, D.mapL, flatD, dE]; omega) (evs_ob (by simp only [E.den, D.toI, D.toB, D.toL, D.toS, D.len, D.mapL, flatD, dE]; omega) (evs_ob (by simp only [E.den, D.toI, D.toB, D.toL, D.toS, D.len, D.mapL, flatD, dE]; omega) (evs_nil ?_)))))
    refine den_ite (fun h3 => ?_) (fun h3 => ?_)
    · simp only [E.den, D.toI, D.toB, D.toL, D.toS, D.len, D.mapL, flatD, dE, ga, gb, str_eq] at h3
      refine den_back rfl ⟨q, i + 1, (by simp only [E.den, D.toI, D.toB, D.toL, D.toS, D.len, D.mapL, flatD, dE]; rw [hw]), by omega, take_step (0, 0) hia hib htk ?_⟩ (by simp only []; simp only [E.den, D.toI, D.toB, D.toL, D.toS, D.len, D.mapL, flatD, dE]; rw [hw]; omega)
      generalize a.getD i (0, 0) = x at *
      generalize b.getD i (0, 0) = y at *
      cases x
      cases y
      simp_all
    · simp only [E.den, D.toI, D.toB, D.toL, D.toS, D.len, D.mapL, flatD, dE, ga, gb, str_eq] at h3
      refine den_ret ?_
      have hne : a ≠ b := fun e => by rw [e] at h3; simp at h3
      simp only [E.den, D.toI, D.toB, D.toL, D.toS, D.len, D.mapL, flatD, dE]
      simp [hne]
  · simp only [E.den, D.toI, D.toB, D.toL, D.toS, D.len, D.mapL, flatD, dE] at h2
    have hia : i = a.length := by omega
    subst hia
    have heq : a = b := take_all (by omega) htk
    refine den_ret ?_
    simp only [E.den, D.toI, D.toB, D.toL, D.toS, D.len, D.mapL, flatD, dE]
    simp [heq]
theorem eqtk_fn (a b : List Tok) (ha : a.length ≤ maxLen) (hb : b.length ≤ maxLen) : Fun Try.prog [] 39 [tTk, tTk] [tksD a, tksD b] [tB] (.ok [.bool (decide (a = b))]) := by
  refine X26.eqtk_ent _ _ ?_
  show X26.vceqtk.den _ _ _ _ _
  unfold X26.vceqtk
  have hmx : maxLen ≤ 9223372036854775807 := by decide
  refine den_ite (fun h => den_ret ?_) (fun h => ?_)
  · simp only [E.den, D.toI, D.toB, D.toL, D.toS, D.len, D.mapL, flatD, dE] at h
    have hne : a ≠ b := fun e => h (by rw [e])
    simp only [E.den, D.toI, D.toB, D.toL, D.toS, D.len, D.mapL, flatD, dE]
    simp [hne]
  simp only [E.den, D.toI, D.toB, D.toL, D.toS, D.len, D.mapL, flatD, dE] at h
  refine den_loop (fun xs => ∃ (q : Bool) (i : Nat), xs = [.bool q, I64d i] ∧ i ≤ a.length ∧ a.take i = b.take i) (fun xs => a.length - (xs.getD 1 default).toI.toNat) ⟨false, 0, rfl, by omega, rfl⟩ ?_
  simp only [AllSh]
  intro q n _ _ ⟨_, i, he, hi, htk⟩
  simp only [List.cons.injEq, D.int.injEq, D.bool.injEq, true_and, and_true] at he
  obtain ⟨rfl, rfl⟩ := he
  (try simp only [List.cons_append, List.nil_append])
  refine den_ite (fun h2 => ?_) (fun h2 => ?_)
  · simp only [E.den, D.toI, D.toB, D.toL, D.toS, D.len, D.mapL, flatD, dE] at h2
    have hia : i < a.length := by omega
    have hib : i < b.length := by omega
    have ga := getD_map (g := tkD) tok0 hia
    have gb := getD_map (g := tkD) tok0 hib
    have hw : IntKind.wrap .i64 ((i : Int) + 1) = ((i + 1 : Nat) : Int) := by rw [wrap_i64 (by omega) (by omega)]; omega
    refine den_ev (evs_ob (by simp only [E.den, D.toI, D.toB, D.toL, D.toS, D.len, D.mapL, flatD, dE]; omega) (evs_ob (by simp only [E.den, D.toI, D.toB, D.toL, D.toS, D.len, D.mapL, flatD, dE]; omega) (evs_ob (by simp only [E.den, D.toI, D.toB, D.toL, D.toS, D.len, D.mapL, flatD, dE]; omega) (evs_ob (by simp only [E.den, D.toI, D.toB, D.toL, D.toS, D.len, D.mapL, flatD, dE]; omega) (evs_nil ?_)))))
    refine den_ite (fun h3 => ?_) (fun h3 => ?_)
    · simp only [E.den, D.toI, D.toB, D.toL, D.toS, D.len, D.mapL, flatD, dE, ga, gb, str_eq] at h3
      refine den_back rfl ⟨q, i + 1, (by simp only [E.den, D.toI, D.toB, D.toL, D.toS, D.len, D.mapL, flatD, dE]; rw [hw]), by omega, take_step tok0 hia hib htk ?_⟩ (by simp only []; simp only [E.den, D.toI, D.toB, D.toL, D.toS, D.len, D.mapL, flatD, dE]; rw [hw]; omega)
      generalize a.getD i tok0 = x at *
      generalize b.getD i tok0 = y at *
      cases x
      cases y
      simp_all
    · simp only [E.den, D.toI, D.toB, D.toL, D.toS, D.len, D.mapL, flatD, dE, ga, gb, str_eq] at h3
      refine den_ret ?_
      have hne : a ≠ b := fun e => by rw [e] at h3; simp at h3
      simp only [E.den, D.toI, D.toB, D.toL, D.toS, D.len, D.mapL, flatD, dE]
      simp [hne]
  · simp only [E.den, D.toI, D.toB, D.toL, D.toS, D.len, D.mapL, flatD, dE] at h2
    have hia : i = a.length := by omega
    subst hia
    have heq : a = b := take_all (by omega) htk
    refine den_ret ?_
    simp only [E.den, D.toI, D.toB, D.toL, D.toS, D.len, D.mapL, flatD, dE]
    simp [heq]
theorem msameprof_fn (a b : Prof) (ha : a.pe.length ≤ maxLen) (hb : b.pe.length ≤ maxLen) : Fun Try.prog [] 38 [tPr, tPr] [.rc (prL a), .rc (prL b)] [tB] (.ok [.bool (decide (a = b))]) := by
  refine msameprof_ent _ _ ?_
  show vcmsameprof.den _ _ _ _ _
  unfold vcmsameprof
  refine den_ite (fun h1 => ?_) (fun h1 => ?_)
  · simp only [E.den, D.toI, D.toB, D.toL, D.toS, D.len, D.mapL, flatD, dE, str_eq] at h1
    refine den_ite (fun h2 => ?_) (fun h2 => ?_)
    · simp only [E.den, D.toI, D.toB, D.toL, D.toS, D.len, D.mapL, flatD, dE, str_eq] at h2
      refine den_ite (fun h3 => ?_) (fun h3 => ?_)
      · simp only [E.den, D.toI, D.toB, D.toL, D.toS, D.len, D.mapL, flatD, dE, str_eq] at h3
        refine den_ite (fun h4 => ?_) (fun h4 => ?_)
        · simp only [E.den, D.toI, D.toB, D.toL, D.toS, D.len, D.mapL, flatD, dE, str_eq] at h4
          refine den_ite (fun h5 => ?_) (fun h5 => ?_)
          · simp only [E.den, D.toI, D.toB, D.toL, D.toS, D.len, D.mapL, flatD, dE, str_eq] at h5
            refine den_ite (fun h6 => ?_) (fun h6 => ?_)
            · simp only [E.den, D.toI, D.toB, D.toL, D.toS, D.len, D.mapL, flatD, dE, str_eq] at h6
              refine den_ite (fun h7 => ?_) (fun h7 => ?_)
              · simp only [E.den, D.toI, D.toB, D.toL, D.toS, D.len, D.mapL, flatD, dE, str_eq] at h7
                refine den_ite (fun h8 => ?_) (fun h8 => ?_)
                · simp only [E.den, D.toI, D.toB, D.toL, D.toS, D.len, D.mapL, flatD, dE, str_eq] at h8
                  refine den_ite (fun h9 => ?_) (fun h9 => ?_)
                  · simp only [E.den, D.toI, D.toB, D.toL, D.toS, D.len, D.mapL, flatD, dE, str_eq] at h9
                    refine den_cal [.bool (decide (a.pe = b.pe))] rfl (eqpe_fn a.pe b.pe ha hb) rfl rfl ?_
                    refine den_ret ?_
                    simp only [E.den, D.toI, D.toB, D.toL, D.toS, D.len, D.mapL, flatD, dE]
                    have heq : (a = b) ↔ (a.pe = b.pe) := by (cases a; cases b; simp_all)
                    simp only [heq]
                  · simp only [E.den, D.toI, D.toB, D.toL, D.toS, D.len, D.mapL, flatD, dE, str_eq] at h9
                    refine den_ret ?_
                    have hne : a ≠ b := by (intro e; subst e; simp_all)
                    simp only [E.den, D.toI, D.toB, D.toL, D.toS, D.len, D.mapL, flatD, dE]
                    simp [hne]
                · simp only [E.den, D.toI, D.toB, D.toL, D.toS, D.len, D.mapL, flatD, dE, str_eq] at h8
                  refine den_ret ?_
                  have hne : a ≠ b := by (intro e; subst e; simp_all)
                  simp only [E.den, D.toI, D.toB, D.toL, D.toS, D.len, D.mapL, flatD, dE]
                  simp [hne]
              · simp only [E.den, D.toI, D.toB, D.toL, D.toS, D.len, D.mapL, flatD, dE, str_eq] at h7
                refine den_ret ?_
                have hne : a ≠ b := by (intro e; subst e; simp_all)
                simp only [E.den, D.toI, D.toB, D.toL, D.toS, D.len, D.mapL, flatD, dE]
                simp [hne]
            · simp only [E.den, D.toI, D.toB, D.toL, D.toS, D.len, D.mapL, flatD, dE, str_eq] at h6
              refine den_ret ?_
              have hne : a ≠ b := by (intro e; subst e; simp_all)
              simp only [E.den, D.toI, D.toB, D.toL, D.toS, D.len, D.mapL, flatD, dE]
              simp [hne]
          · simp only [E.den, D.toI, D.toB, D.toL, D.toS, D.len, D.mapL, flatD, dE, str_eq] at h5
            refine den_ret ?_
            have hne : a ≠ b := by (intro e; subst e; simp_all)
            simp only [E.den, D.toI, D.toB, D.toL, D.toS, D.len, D.mapL, flatD, dE]
            simp [hne]
        · simp only [E.den, D.toI, D.toB, D.toL, D.toS, D.len, D.mapL, flatD, dE, str_eq] at h4
          refine den_ret ?_
          have hne : a ≠ b := by (intro e; subst e; simp_all)
          simp only [E.den, D.toI, D.toB, D.toL, D.toS, D.len, D.mapL, flatD, dE]
          simp [hne]
      · simp only [E.den, D.toI, D.toB, D.toL, D.toS, D.len, D.mapL, flatD, dE, str_eq] at h3
        refine den_ret ?_
        have hne : a ≠ b := by (intro e; subst e; simp_all)
        simp only [E.den, D.toI, D.toB, D.toL, D.toS, D.len, D.mapL, flatD, dE]
        simp [hne]
    · simp only [E.den, D.toI, D.toB, D.toL, D.toS, D.len, D.mapL, flatD, dE, str_eq] at h2
      refine den_ret ?_
      have hne : a ≠ b := by (intro e; subst e; simp_all)
      simp only [E.den, D.toI, D.toB, D.toL, D.toS, D.len, D.mapL, flatD, dE]
      simp [hne]
  · simp only [E.den, D.toI, D.toB, D.toL, D.toS, D.len, D.mapL, flatD, dE, str_eq] at h1
    refine den_ret ?_
    have hne : a ≠ b := by (intro e; subst e; simp_all)
    simp only [E.den, D.toI, D.toB, D.toL, D.toS, D.len, D.mapL, flatD, dE]
    simp [hne]
theorem msame_fn (a b : Msg) (ha : msOK a) (hb : msOK b) : Fun Try.prog [] 16 [tM, tM] [msD a, msD b] [tB] (.ok [.bool (decide (a = b))]) := by
  refine msame_ent _ _ ?_
  show vcmsame.den _ _ _ _ _
  unfold vcmsame
  refine den_ite (fun h1 => ?_) (fun h1 => ?_)
  · simp only [E.den, D.toI, D.toB, D.toL, D.toS, D.len, D.mapL, flatD, dE, str_eq] at h1
    refine den_ite (fun h2 => ?_) (fun h2 => ?_)
    · simp only [E.den, D.toI, D.toB, D.toL, D.toS, D.len, D.mapL, flatD, dE, str_eq] at h2
      refine den_ite (fun h3 => ?_) (fun h3 => ?_)
      · simp only [E.den, D.toI, D.toB, D.toL, D.toS, D.len, D.mapL, flatD, dE, str_eq] at h3
        refine den_ite (fun h4 => ?_) (fun h4 => ?_)
        · simp only [E.den, D.toI, D.toB, D.toL, D.toS, D.len, D.mapL, flatD, dE, str_eq] at h4
          refine den_ite (fun h5 => ?_) (fun h5 => ?_)
          · simp only [E.den, D.toI, D.toB, D.toL, D.toS, D.len, D.mapL, flatD, dE, str_eq] at h5
            refine den_ite (fun h6 => ?_) (fun h6 => ?_)
            · simp only [E.den, D.toI, D.toB, D.toL, D.toS, D.len, D.mapL, flatD, dE, str_eq] at h6
              refine den_ite (fun h7 => ?_) (fun h7 => ?_)
              · simp only [E.den, D.toI, D.toB, D.toL, D.toS, D.len, D.mapL, flatD, dE, str_eq] at h7
                refine den_ite (fun h8 => ?_) (fun h8 => ?_)
                · simp only [E.den, D.toI, D.toB, D.toL, D.toS, D.len, D.mapL, flatD, dE, str_eq] at h8
                  refine den_ite (fun h9 => ?_) (fun h9 => ?_)
                  · simp only [E.den, D.toI, D.toB, D.toL, D.toS, D.len, D.mapL, flatD, dE, str_eq] at h9
                    refine den_ite (fun h10 => ?_) (fun h10 => ?_)
                    · simp only [E.den, D.toI, D.toB, D.toL, D.toS, D.len, D.mapL, flatD, dE, str_eq] at h10
                      refine den_ite (fun h11 => ?_) (fun h11 => ?_)
                      · simp only [E.den, D.toI, D.toB, D.toL, D.toS, D.len, D.mapL, flatD, dE, str_eq] at h11
                        refine den_ite (fun h12 => ?_) (fun h12 => ?_)
                        · simp only [E.den, D.toI, D.toB, D.toL, D.toS, D.len, D.mapL, flatD, dE, str_eq] at h12
                          refine den_cal [.bool (decide (a.rd = b.rd))] rfl (eqrd_fn a.rd b.rd ha.1 hb.1) rfl rfl ?_
                          refine den_ite (fun h13 => ?_) (fun h13 => ?_)
                          · simp only [E.den, D.toI, D.toB, D.toL, D.toS, D.len, D.mapL, flatD, dE, str_eq] at h13
                            refine den_cal [.bool (decide (a.p = b.p))] rfl (msameprof_fn a.p b.p ha.2.1 hb.2.1) rfl rfl ?_
                            refine den_ite (fun h14 => ?_) (fun h14 => ?_)
                            · simp only [E.den, D.toI, D.toB, D.toL, D.toS, D.len, D.mapL, flatD, dE, str_eq] at h14
                              refine den_cal [.bool (decide (a.tks = b.tks))] rfl (eqtk_fn a.tks b.tks ha.2.2 hb.2.2) rfl rfl ?_
                              refine den_ret ?_
                              simp only [E.den, D.toI, D.toB, D.toL, D.toS, D.len, D.mapL, flatD, dE]
                              have heq : (a = b) ↔ (a.tks = b.tks) := by (cases a; cases b; simp_all)
                              simp only [heq]
                            · simp only [E.den, D.toI, D.toB, D.toL, D.toS, D.len, D.mapL, flatD, dE, str_eq] at h14
                              refine den_ret ?_
                              have hne : a ≠ b := by (intro e; subst e; simp_all)
                              simp only [E.den, D.toI, D.toB, D.toL, D.toS, D.len, D.mapL, flatD, dE]
                              simp [hne]
                          · simp only [E.den, D.toI, D.toB, D.toL, D.toS, D.len, D.mapL, flatD, dE, str_eq] at h13
                            refine den_ret ?_
                            have hne : a ≠ b := by (intro e; subst e; simp_all)
                            simp only [E.den, D.toI, D.toB, D.toL, D.toS, D.len, D.mapL, flatD, dE]
                            simp [hne]
                        · simp only [E.den, D.toI, D.toB, D.toL, D.toS, D.len, D.mapL, flatD, dE, str_eq] at h12
                          refine den_ret ?_
                          have hne : a ≠ b := by (intro e; subst e; simp_all)
                          simp only [E.den, D.toI, D.toB, D.toL, D.toS, D.len, D.mapL, flatD, dE]
                          simp [hne]
                      · simp only [E.den, D.toI, D.toB, D.toL, D.toS, D.len, D.mapL, flatD, dE, str_eq] at h11
                        refine den_ret ?_
                        have hne : a ≠ b := by (intro e; subst e; simp_all)
                        simp only [E.den, D.toI, D.toB, D.toL, D.toS, D.len, D.mapL, flatD, dE]
                        simp [hne]
                    · simp only [E.den, D.toI, D.toB, D.toL, D.toS, D.len, D.mapL, flatD, dE, str_eq] at h10
                      refine den_ret ?_
                      have hne : a ≠ b := by (intro e; subst e; simp_all)
                      simp only [E.den, D.toI, D.toB, D.toL, D.toS, D.len, D.mapL, flatD, dE]
                      simp [hne]
                  · simp only [E.den, D.toI, D.toB, D.toL, D.toS, D.len, D.mapL, flatD, dE, str_eq] at h9
                    refine den_ret ?_
                    have hne : a ≠ b := by (intro e; subst e; simp_all)
                    simp only [E.den, D.toI, D.toB, D.toL, D.toS, D.len, D.mapL, flatD, dE]
                    simp [hne]
                · simp only [E.den, D.toI, D.toB, D.toL, D.toS, D.len, D.mapL, flatD, dE, str_eq] at h8
                  refine den_ret ?_
                  have hne : a ≠ b := by (intro e; subst e; simp_all)
                  simp only [E.den, D.toI, D.toB, D.toL, D.toS, D.len, D.mapL, flatD, dE]
                  simp [hne]
              · simp only [E.den, D.toI, D.toB, D.toL, D.toS, D.len, D.mapL, flatD, dE, str_eq] at h7
                refine den_ret ?_
                have hne : a ≠ b := by (intro e; subst e; simp_all)
                simp only [E.den, D.toI, D.toB, D.toL, D.toS, D.len, D.mapL, flatD, dE]
                simp [hne]
            · simp only [E.den, D.toI, D.toB, D.toL, D.toS, D.len, D.mapL, flatD, dE, str_eq] at h6
              refine den_ret ?_
              have hne : a ≠ b := by (intro e; subst e; simp_all)
              simp only [E.den, D.toI, D.toB, D.toL, D.toS, D.len, D.mapL, flatD, dE]
              simp [hne]
          · simp only [E.den, D.toI, D.toB, D.toL, D.toS, D.len, D.mapL, flatD, dE, str_eq] at h5
            refine den_ret ?_
            have hne : a ≠ b := by (intro e; subst e; simp_all)
            simp only [E.den, D.toI, D.toB, D.toL, D.toS, D.len, D.mapL, flatD, dE]
            simp [hne]
        · simp only [E.den, D.toI, D.toB, D.toL, D.toS, D.len, D.mapL, flatD, dE, str_eq] at h4
          refine den_ret ?_
          have hne : a ≠ b := by (intro e; subst e; simp_all)
          simp only [E.den, D.toI, D.toB, D.toL, D.toS, D.len, D.mapL, flatD, dE]
          simp [hne]
      · simp only [E.den, D.toI, D.toB, D.toL, D.toS, D.len, D.mapL, flatD, dE, str_eq] at h3
        refine den_ret ?_
        have hne : a ≠ b := by (intro e; subst e; simp_all)
        simp only [E.den, D.toI, D.toB, D.toL, D.toS, D.len, D.mapL, flatD, dE]
        simp [hne]
    · simp only [E.den, D.toI, D.toB, D.toL, D.toS, D.len, D.mapL, flatD, dE, str_eq] at h2
      refine den_ret ?_
      have hne : a ≠ b := by (intro e; subst e; simp_all)
      simp only [E.den, D.toI, D.toB, D.toL, D.toS, D.len, D.mapL, flatD, dE]
      simp [hne]
  · simp only [E.den, D.toI, D.toB, D.toL, D.toS, D.len, D.mapL, flatD, dE, str_eq] at h1
    refine den_ret ?_
    have hne : a ≠ b := by (intro e; subst e; simp_all)
    simp only [E.den, D.toI, D.toB, D.toL, D.toS, D.len, D.mapL, flatD, dE]
    simp [hne]
def resM (k : Int) (m : Msg) (s : Int) : Msg := ⟨k, m.id, m.ac, 0, s, 0, 0, 0, ⟨#[]⟩, ⟨#[]⟩, ⟨#[]⟩, false, [], prof0, []⟩
theorem resM_ok (k : Int) (m : Msg) (s : Int) : msOK (resM k m s) := ⟨Nat.zero_le _, Nat.zero_le _, Nat.zero_le _⟩
theorem mresult_fn (m : Msg) (s : Int) : Fun Try.prog [] 12 [tM, tI] [msD m, I64d s] [tM] (.ok [msD (resM 2 m s)]) := by
  refine mresult_ent _ _ ?_
  show vcmresult.den _ _ _ _ _
  unfold vcmresult
  refine den_ret ?_
  rfl
theorem mfailure_fn (m : Msg) (s : Int) : Fun Try.prog [] 14 [tM, tI] [msD m, I64d s] [tM] (.ok [msD (resM 3 m s)]) := by
  refine mfailure_ent _ _ ?_
  show vcmfailure.den _ _ _ _ _
  unfold vcmfailure
  refine den_ret ?_
  rfl
def vcrresult : VC := (.ret [(.rc (.cons (.ki .i64 2) (.cons (.v 1) (.cons (.v 2) (.cons (.ki .i64 0) (.cons (.v 25) (.cons (.ki .i64 0) (.cons (.ki .i64 0) (.cons (.ki .i64 0) (.cons (.ks ⟨List.toArray []⟩) (.cons (.ks ⟨List.toArray []⟩) (.cons (.ks ⟨List.toArray []⟩) (.cons (.kb false) (.cons .nil (.cons (.ki .i64 0) (.cons (.ki .i64 0) (.cons (.ki .i64 0) (.cons (.ki .i64 0) (.cons (.ki .i64 0) (.cons (.ks ⟨List.toArray []⟩) (.cons (.ki .i64 0) (.cons (.ki .i64 0) (.cons (.ki .i64 0) (.cons (.ki .i64 0) (.cons .nil (.cons .nil .nil))))))))))))))))))))))))))])
theorem rresult_ent : EntOK Try.prog [] ⟨13, [(.g [(.int .i64), (.int .i64), (.int .i64), (.int .i64), (.int .i64), (.int .i64), (.int .i64), (.int .i64), .str, .str, .str, .bool, (.lst [(.int .i64), (.int .i64)]), (.int .i64), (.int .i64), (.int .i64), (.int .i64), (.int .i64), .str, (.int .i64), (.int .i64), (.int .i64), (.int .i64), (.lst [(.int .i64), (.int .i64)]), (.lst [.str, .str, .str, (.int .i64), (.int .i64), (.int .i64)])]), (.c (.int .i64))], [(.g [(.int .i64), (.int .i64), (.int .i64), (.int .i64), (.int .i64), (.int .i64), (.int .i64), (.int .i64), .str, .str, .str, .bool, (.lst [(.int .i64), (.int .i64)]), (.int .i64), (.int .i64), (.int .i64), (.int .i64), (.int .i64), .str, (.int .i64), (.int .i64), (.int .i64), (.int .i64), (.lst [(.int .i64), (.int .i64)]), (.lst [.str, .str, .str, (.int .i64), (.int .i64), (.int .i64)])])], vcrresult⟩ :=
  ent_of_gen hP Try.func13 rfl (by decide) (sg := sgs) (by kernel_rfl)
theorem rresult_fn (m : Msg) (s : Int) : Fun Try.prog [] 13 [tM, tI] [msD m, I64d s] [tM] (.ok [msD (resM 2 m s)]) := by
  refine rresult_ent _ _ ?_
  show vcrresult.den _ _ _ _ _
  unfold vcrresult
  refine den_ret ?_
  rfl
def vcrfailure : VC := (.ret [(.rc (.cons (.ki .i64 3) (.cons (.v 1) (.cons (.v 2) (.cons (.ki .i64 0) (.cons (.v 25) (.cons (.ki .i64 0) (.cons (.ki .i64 0) (.cons (.ki .i64 0) (.cons (.ks ⟨List.toArray []⟩) (.cons (.ks ⟨List.toArray []⟩) (.cons (.ks ⟨List.toArray []⟩) (.cons (.kb false) (.cons .nil (.cons (.ki .i64 0) (.cons (.ki .i64 0) (.cons (.ki .i64 0) (.cons (.ki .i64 0) (.cons (.ki .i64 0) (.cons (.ks ⟨List.toArray []⟩) (.cons (.ki .i64 0) (.cons (.ki .i64 0) (.cons (.ki .i64 0) (.cons (.ki .i64 0) (.cons .nil (.cons .nil .nil))))))))))))))))))))))))))])
theorem rfailure_ent : EntOK Try.prog [] ⟨15, [(.g [(.int .i64), (.int .i64), (.int .i64), (.int .i64), (.int .i64), (.int .i64), (.int .i64), (.int .i64), .str, .str, .str, .bool, (.lst [(.int .i64), (.int .i64)]), (.int .i64), (.int .i64), (.int .i64), (.int .i64), (.int .i64), .str, (.int .i64), (.int .i64), (.int .i64), (.int .i64), (.lst [(.int .i64), (.int .i64)]), (.lst [.str, .str, .str, (.int .i64), (.int .i64), (.int .i64)])]), (.c (.int .i64))], [(.g [(.int .i64), (.int .i64), (.int .i64), (.int .i64), (.int .i64), (.int .i64), (.int .i64), (.int .i64), .str, .str, .str, .bool, (.lst [(.int .i64), (.int .i64)]), (.int .i64), (.int .i64), (.int .i64), (.int .i64), (.int .i64), .str, (.int .i64), (.int .i64), (.int .i64), (.int .i64), (.lst [(.int .i64), (.int .i64)]), (.lst [.str, .str, .str, (.int .i64), (.int .i64), (.int .i64)])])], vcrfailure⟩ :=
  ent_of_gen hP Try.func15 rfl (by decide) (sg := sgs) (by kernel_rfl)
theorem rfailure_fn (m : Msg) (s : Int) : Fun Try.prog [] 15 [tM, tI] [msD m, I64d s] [tM] (.ok [msD (resM 3 m s)]) := by
  refine rfailure_ent _ _ ?_
  show vcrfailure.den _ _ _ _ _
  unfold vcrfailure
  refine den_ret ?_
  rfl
def tkSm (i : Nat) (t : Tok) : Bool := decide (t.id.size ≤ 200 ∧ t.gr.size ≤ 200 ∧ t.co.size ≤ 200 ∧ i ≤ 130)
def tksSm : Nat → List Tok → Bool
  | _, [] => true
  | i, t :: l => tkSm i t && tksSm (i + 1) l
def smB (m : Msg) : Bool := tksSm 0 m.tks && decide (m.rd.length ≤ 130 ∧ m.p.pe.length ≤ 40 ∧ m.tx.size ≤ 200 ∧ m.tk.size ≤ 200 ∧ m.te.size ≤ 200 ∧ m.p.tx.size ≤ 200)
theorem tks_step {l : List Tok} {i : Nat} (h : i < l.length) : tksSm i (l.drop i) = (tkSm i (l.getD i tok0) && tksSm (i + 1) (l.drop (i + 1))) := by
  rw [List.drop_eq_getElem_cons h]
  simp [tksSm, List.getD_eq_getElem?_getD, h]
theorem small_fn (m : Msg) (hl : m.tks.length ≤ maxLen) : Fun Try.prog [] 7 [tM] [msD m] [tB] (.ok [.bool (smB m)]) := by
  refine small_ent _ _ ?_
  show vcsmall.den _ _ _ _ _
  unfold vcsmall
  have hmx : maxLen ≤ 9223372036854775807 := by decide
  refine den_loop (fun xs => ∃ (q : Bool) (i : Nat), xs = [.bool q, I64d i] ∧ i ≤ m.tks.length ∧ tksSm 0 m.tks = tksSm i (m.tks.drop i)) (fun xs => m.tks.length - (xs.getD 1 default).toI.toNat) ⟨false, 0, rfl, by omega, rfl⟩ ?_
  simp only [AllSh]
  intro q n _ _ ⟨_, i, he, hi, htk⟩
  simp only [List.cons.injEq, D.int.injEq, D.bool.injEq, true_and, and_true] at he
  obtain ⟨rfl, rfl⟩ := he
  (try simp only [List.cons_append, List.nil_append])
  refine den_ite (fun h2 => ?_) (fun h2 => ?_)
  · simp only [E.den, D.toI, D.toB, D.toL, D.toS, D.len, D.mapL, flatD, dE] at h2
    have hia : i < m.tks.length := by omega
    have ga := getD_map (g := tkD) tok0 hia
    have hst := tks_step hia
    have hw : IntKind.wrap .i64 ((i : Int) + 1) = ((i + 1 : Nat) : Int) := by rw [wrap_i64 (by omega) (by omega)]; omega
    refine den_ev (evs_ob (by simp only [E.den, D.toI, D.toB, D.toL, D.toS, D.len, D.mapL, flatD, dE]; omega) (evs_ob (by simp only [E.den, D.toI, D.toB, D.toL, D.toS, D.len, D.mapL, flatD, dE]; omega) (evs_nil ?_)))
    refine den_ite (fun h3 => ?_) (fun h3 => ?_)
    · simp only [E.den, D.toI, D.toB, D.toL, D.toS, D.len, D.mapL, flatD, dE, ga] at h3
      refine den_ret ?_
      simp only [E.den, D.toI, D.toB, D.toL, D.toS, D.len, D.mapL, flatD, dE]
      have hx : tkSm i (m.tks.getD i tok0) = false := by (simp only [tkSm, decide_eq_false_iff_not]; omega)
      have hsm : smB m = false := by (unfold smB; rw [htk, hst, hx]; rfl)
      rw [hsm]
    simp only [E.den, D.toI, D.toB, D.toL, D.toS, D.len, D.mapL, flatD, dE, ga] at h3
    refine den_ev (evs_ob (by simp only [E.den, D.toI, D.toB, D.toL, D.toS, D.len, D.mapL, flatD, dE]; omega) (evs_ob (by simp only [E.den, D.toI, D.toB, D.toL, D.toS, D.len, D.mapL, flatD, dE]; omega) (evs_nil ?_)))
    refine den_ite (fun h4 => ?_) (fun h4 => ?_)
    · simp only [E.den, D.toI, D.toB, D.toL, D.toS, D.len, D.mapL, flatD, dE, ga] at h4
      refine den_ret ?_
      simp only [E.den, D.toI, D.toB, D.toL, D.toS, D.len, D.mapL, flatD, dE]
      have hx : tkSm i (m.tks.getD i tok0) = false := by (simp only [tkSm, decide_eq_false_iff_not]; omega)
      have hsm : smB m = false := by (unfold smB; rw [htk, hst, hx]; rfl)
      rw [hsm]
    simp only [E.den, D.toI, D.toB, D.toL, D.toS, D.len, D.mapL, flatD, dE, ga] at h4
    refine den_ev (evs_ob (by simp only [E.den, D.toI, D.toB, D.toL, D.toS, D.len, D.mapL, flatD, dE]; omega) (evs_ob (by simp only [E.den, D.toI, D.toB, D.toL, D.toS, D.len, D.mapL, flatD, dE]; omega) (evs_nil ?_)))
    refine den_ite (fun h5 => ?_) (fun h5 => ?_)
    · simp only [E.den, D.toI, D.toB, D.toL, D.toS, D.len, D.mapL, flatD, dE, ga] at h5
      refine den_ret ?_
      simp only [E.den, D.toI, D.toB, D.toL, D.toS, D.len, D.mapL, flatD, dE]
      have hx : tkSm i (m.tks.getD i tok0) = false := by (simp only [tkSm, decide_eq_false_iff_not]; omega)
      have hsm : smB m = false := by (unfold smB; rw [htk, hst, hx]; rfl)
      rw [hsm]
    simp only [E.den, D.toI, D.toB, D.toL, D.toS, D.len, D.mapL, flatD, dE, ga] at h5
    refine den_ite (fun h6 => ?_) (fun h6 => ?_)
    · simp only [E.den, D.toI, D.toB, D.toL, D.toS, D.len, D.mapL, flatD, dE, ga] at h6
      refine den_ret ?_
      simp only [E.den, D.toI, D.toB, D.toL, D.toS, D.len, D.mapL, flatD, dE]
      have hx : tkSm i (m.tks.getD i tok0) = false := by (simp only [tkSm, decide_eq_false_iff_not]; omega)
      have hsm : smB m = false := by (unfold smB; rw [htk, hst, hx]; rfl)
      rw [hsm]
    simp only [E.den, D.toI, D.toB, D.toL, D.toS, D.len, D.mapL, flatD, dE, ga] at h6
    have hx : tkSm i (m.tks.getD i tok0) = true := by (simp only [tkSm, decide_eq_true_eq]; omega)
    rw [hx, Bool.true_and] at hst
    refine den_back rfl ⟨q, i + 1, (by simp only [E.den, D.toI, D.toB, D.toL, D.toS, D.len, D.mapL, flatD, dE]; rw [hw]), by omega, htk.trans hst⟩ (by simp only []; simp only [E.den, D.toI, D.toB, D.toL, D.toS, D.len, D.mapL, flatD, dE]; rw [hw]; omega)
  · simp only [E.den, D.toI, D.toB, D.toL, D.toS, D.len, D.mapL, flatD, dE] at h2
    have hia : i = m.tks.length := by omega
    subst hia
    have htk : tksSm 0 m.tks = true := by rw [htk, List.drop_length]; rfl
    refine den_ite (fun h11 => ?_) (fun h11 => ?_)
    · simp only [E.den, D.toI, D.toB, D.toL, D.toS, D.len, D.mapL, flatD, dE] at h11
      refine den_ite (fun h12 => ?_) (fun h12 => ?_)
      · simp only [E.den, D.toI, D.toB, D.toL, D.toS, D.len, D.mapL, flatD, dE] at h12
        refine den_ite (fun h13 => ?_) (fun h13 => ?_)
        · simp only [E.den, D.toI, D.toB, D.toL, D.toS, D.len, D.mapL, flatD, dE] at h13
          refine den_ite (fun h14 => ?_) (fun h14 => ?_)
          · simp only [E.den, D.toI, D.toB, D.toL, D.toS, D.len, D.mapL, flatD, dE] at h14
            refine den_ite (fun h15 => ?_) (fun h15 => ?_)
            · simp only [E.den, D.toI, D.toB, D.toL, D.toS, D.len, D.mapL, flatD, dE] at h15
              refine den_ret ?_
              simp only [E.den, D.toI, D.toB, D.toL, D.toS, D.len, D.mapL, flatD, dE]
              (first | (simp [smB, *]; done) | (simp [smB, *]; omega) | (simp only [smB, htk, Bool.true_and, FR.ok.injEq, List.cons.injEq, D.bool.injEq, and_true, decide_eq_decide, Bool.false_eq, decide_eq_false_iff_not]; omega))
            · simp only [E.den, D.toI, D.toB, D.toL, D.toS, D.len, D.mapL, flatD, dE] at h15
              refine den_ret ?_
              simp only [E.den, D.toI, D.toB, D.toL, D.toS, D.len, D.mapL, flatD, dE]
              (first | (simp [smB, *]; done) | (simp [smB, *]; omega) | (simp only [smB, htk, Bool.true_and, FR.ok.injEq, List.cons.injEq, D.bool.injEq, and_true, decide_eq_decide, Bool.false_eq, decide_eq_false_iff_not]; omega))
          · simp only [E.den, D.toI, D.toB, D.toL, D.toS, D.len, D.mapL, flatD, dE] at h14
            refine den_ret ?_
            simp only [E.den, D.toI, D.toB, D.toL, D.toS, D.len, D.mapL, flatD, dE]
            (first | (simp [smB, *]; done) | (simp [smB, *]; omega) | (simp only [smB, htk, Bool.true_and, FR.ok.injEq, List.cons.injEq, D.bool.injEq, and_true, decide_eq_decide, Bool.false_eq, decide_eq_false_iff_not]; omega))
        · simp only [E.den, D.toI, D.toB, D.toL, D.toS, D.len, D.mapL, flatD, dE] at h13
          refine den_ret ?_
          simp only [E.den, D.toI, D.toB, D.toL, D.toS, D.len, D.mapL, flatD, dE]
          (first | (simp [smB, *]; done) | (simp [smB, *]; omega) | (simp only [smB, htk, Bool.true_and, FR.ok.injEq, List.cons.injEq, D.bool.injEq, and_true, decide_eq_decide, Bool.false_eq, decide_eq_false_iff_not]; omega))
      · simp only [E.den, D.toI, D.toB, D.toL, D.toS, D.len, D.mapL, flatD, dE] at h12
        refine den_ret ?_
        simp only [E.den, D.toI, D.toB, D.toL, D.toS, D.len, D.mapL, flatD, dE]
        (first | (simp [smB, *]; done) | (simp [smB, *]; omega) | (simp only [smB, htk, Bool.true_and, FR.ok.injEq, List.cons.injEq, D.bool.injEq, and_true, decide_eq_decide, Bool.false_eq, decide_eq_false_iff_not]; omega))
    · simp only [E.den, D.toI, D.toB, D.toL, D.toS, D.len, D.mapL, flatD, dE] at h11
      refine den_ret ?_
      simp only [E.den, D.toI, D.toB, D.toL, D.toS, D.len, D.mapL, flatD, dE]
      (first | (simp [smB, *]; done) | (simp [smB, *]; omega) | (simp only [smB, htk, Bool.true_and, FR.ok.injEq, List.cons.injEq, D.bool.injEq, and_true, decide_eq_decide, Bool.false_eq, decide_eq_false_iff_not]; omega))
end Go.Proofs.Ytfhdgaecclfccaa.B26
