/-
  Layer 26: the examples of the chapter, reckoned out.
-/
import Derived.Test.YtfhdgaecclfccaaGreatV26b
import Derived.Test.YtfhdgaecclfccaaGreatS26
import Derived.Test.YtfhdgaecclfccaaGreatId
import Derived.Test.YtfhdgaecclfccaaGreatSy06p
import Derived.Test.YtfhdgaecclfccaaGreatSyXq
import Derived.Recover
import Derived.Tactics
import Derived.Tactics2
import Derived.Test.YtfhdgaecclfccaaGreatR26
set_option maxRecDepth 100000
set_option linter.unusedSimpArgs false
set_option linter.unusedVariables false
namespace Go.Proofs.YtfhdgaecclfccaaGreat.X26
open Go.Proofs.YtfhdgaecclfccaaGreat Go.Proofs.YtfhdgaecclfccaaGreat.Sy Go.Proofs.YtfhdgaecclfccaaGreat.L7 Go.Proofs.YtfhdgaecclfccaaGreat.Id Go.Proofs.YtfhdgaecclfccaaGreat.R26 Go.Proofs.YtfhdgaecclfccaaGreat.L7n Go.RowKit Go.WideShapes Go.ChangeShapes Go.ChangeAt
theorem hP : NoNum Tryz.prog := by unfold NoNum; kernel_rfl
def sgs : Nat → Option (List TS × List TS) := M26.sgs
theorem quiet_dec : Quiet Tryz.prog 19 := by
  refine ⟨⟨_, Tryz.func19, rfl⟩, fun p q w => ?_⟩
  refine callsD_of_wpS Tryz.func19 rfl fun c₀ cs hu => ?_
  apply wpS_seq
  apply wpS_region
  simp [wpOpsS, go_sem, recoverD, hu, Tryz.ntmps19, Exit.thenS]
  refine wpS_of_wp ?_
  go_wp2
  cases c₀
  simp_all [bodyPostS, results, Tryz.results19]
def vcdec : VC := (.cal 18 [(.c (.lst [(.int .u8)]))] [(.v 0)] [(.c (.lst [(.int .u8)])), (.c (.int .i64))] 1
 (.ite (.cmp .neq (.v 2) (.ki .i64 0))
  (.ret [(.rc (.cons (.ki .i64 0) (.cons (.ki .i64 0) (.cons (.ki .i64 0) (.cons (.ki .i64 0) (.cons (.ki .i64 0) (.cons (.ki .i64 0) (.cons (.ki .i64 0) (.cons (.ki .i64 0) (.cons (.ks ⟨List.toArray []⟩) (.cons (.ks ⟨List.toArray []⟩) (.cons (.ks ⟨List.toArray []⟩) (.cons (.kb false) (.cons .nil (.cons (.ki .i64 0) (.cons (.ki .i64 0) (.cons (.ki .i64 0) (.cons (.ki .i64 0) (.cons (.ki .i64 0) (.cons (.ks ⟨List.toArray []⟩) (.cons (.ki .i64 0) (.cons (.ki .i64 0) (.cons (.ki .i64 0) (.cons (.ki .i64 0) (.cons .nil (.cons .nil .nil)))))))))))))))))))))))))), (.v 2)])
  (.cal 20 [(.c (.lst [(.int .u8)]))] [(.v 1)] [(.g shM6)] 3
   (.cal 9 [(.g shM6)] [(.rc (.cons (.v 3) (.cons (.v 4) (.cons (.v 5) (.cons (.v 6) (.cons (.v 7) (.cons (.v 8) (.cons (.v 9) (.cons (.v 10) (.cons (.v 11) (.cons (.v 12) (.cons (.v 13) (.cons (.v 14) (.cons (.v 15) (.cons (.v 16) (.cons (.v 17) (.cons (.v 18) (.cons (.v 19) (.cons (.v 20) (.cons (.v 21) (.cons (.v 22) (.cons (.v 23) (.cons (.v 24) (.cons (.v 25) (.cons (.v 26) (.cons (.v 27) .nil))))))))))))))))))))))))))] [(.c (.int .i64))] 28
    (.ite (.cmp .neq (.v 28) (.ki .i64 0))
     (.ret [(.rc (.cons (.ki .i64 0) (.cons (.ki .i64 0) (.cons (.ki .i64 0) (.cons (.ki .i64 0) (.cons (.ki .i64 0) (.cons (.ki .i64 0) (.cons (.ki .i64 0) (.cons (.ki .i64 0) (.cons (.ks ⟨List.toArray []⟩) (.cons (.ks ⟨List.toArray []⟩) (.cons (.ks ⟨List.toArray []⟩) (.cons (.kb false) (.cons .nil (.cons (.ki .i64 0) (.cons (.ki .i64 0) (.cons (.ki .i64 0) (.cons (.ki .i64 0) (.cons (.ki .i64 0) (.cons (.ks ⟨List.toArray []⟩) (.cons (.ki .i64 0) (.cons (.ki .i64 0) (.cons (.ki .i64 0) (.cons (.ki .i64 0) (.cons .nil (.cons .nil .nil)))))))))))))))))))))))))), (.v 28)])
     (.ret [(.rc (.cons (.v 3) (.cons (.v 4) (.cons (.v 5) (.cons (.v 6) (.cons (.v 7) (.cons (.v 8) (.cons (.v 9) (.cons (.v 10) (.cons (.v 11) (.cons (.v 12) (.cons (.v 13) (.cons (.v 14) (.cons (.v 15) (.cons (.v 16) (.cons (.v 17) (.cons (.v 18) (.cons (.v 19) (.cons (.v 20) (.cons (.v 21) (.cons (.v 22) (.cons (.v 23) (.cons (.v 24) (.cons (.v 25) (.cons (.v 26) (.cons (.v 27) .nil)))))))))))))))))))))))))), (.ki .i64 0)]))))))
theorem dec_q (ds rs : List D) (h : vcdec.den Tryz.prog [] (fun r' => r' = .ok rs) [] (flatD [(.c (.lst [(.int .u8)]))] ds)) : Fun Tryz.prog [] 8 [(.c (.lst [(.int .u8)]))] ds [(.g shM6), (.c (.int .i64))] (.ok rs) :=
  fun_of_q hP Tryz.func8 rfl (n := 3) (a := 2) (b := 3) (t := 15) rfl rfl rfl rfl rfl rfl rfl (sg := sgs) quiet_dec (by decide) (by kernel_rfl) h
def vceqtk : VC := (.ite (.cmp .neq (.len (.v 0)) (.len (.v 1)))
 (.ret [(.kb false)])
 (.loop [.bool, (.int .i64)] [(.kb false), (.ki .i64 0)]
  (.ite (.cmp .lss (.v 3) (.len (.v 0)))
   (.ev [(.ob (.cmp .geq (.v 3) (.ki .i64 0))), (.ob (.cmp .lss (.v 3) (.len (.v 0)))), (.ob (.cmp .geq (.v 3) (.ki .i64 0))), (.ob (.cmp .lss (.v 3) (.len (.v 1))))]
    (.ite (.and (.seq (.cell (.get (.v 0) (.v 3)) 0) (.cell (.get (.v 1) (.v 3)) 0)) (.and (.seq (.cell (.get (.v 0) (.v 3)) 1) (.cell (.get (.v 1) (.v 3)) 1)) (.and (.seq (.cell (.get (.v 0) (.v 3)) 2) (.cell (.get (.v 1) (.v 3)) 2)) (.and (.cmp .eql (.cell (.get (.v 0) (.v 3)) 3) (.cell (.get (.v 1) (.v 3)) 3)) (.and (.cmp .eql (.cell (.get (.v 0) (.v 3)) 4) (.cell (.get (.v 1) (.v 3)) 4)) (.and (.cmp .eql (.cell (.get (.v 0) (.v 3)) 5) (.cell (.get (.v 1) (.v 3)) 5)) (.kb true)))))))
     (.back 0 [(.v 2), (.ar .add .i64 (.v 3) (.ki .i64 1))])
     (.ret [(.kb false)])))
   (.ret [(.kb true)]))))
def hdeqtk : List HdL := [{ kind := true, id := 4, nv := 2, tmps := [(.v (.c (.d (.lst [.str, .str, .str, sI, sI, sI]) (.v 0)))), (.v (.c (.d (.lst [.str, .str, .str, sI, sI, sI]) (.v 1)))), (.v (.c .any)), (.v (.c .any)), (.v (.c (.d .bool (.v 2)))), (.v (.c .any)), (.v (.c (.d (.lst [.str, .str, .str, sI, sI, sI]) (.v 0)))), (.v (.c (.d sI (.len (.v 0))))), (.v (.c (.d (.lst [.str, .str, .str, sI, sI, sI]) (.v 1)))), (.v (.c (.d sI (.len (.v 1))))), (.v (.c (.d .bool (.cmp .neq (.len (.v 0)) (.len (.v 1)))))), (.v (.c (.d (.lst [.str, .str, .str, sI, sI, sI]) (.v 0)))), (.v (.c (.d sI (.len (.v 0))))), (vI 3) ] ++ an6 12, blks := [], shs := [.bool, sI], rs := [], bs := [], fz := [] }]
theorem eqtk_ent : EntOK Tryz.prog [] ⟨28, [(.c (.lst [.str, .str, .str, (.int .i64), (.int .i64), (.int .i64)])), (.c (.lst [.str, .str, .str, (.int .i64), (.int .i64), (.int .i64)]))], [(.c .bool)], vceqtk⟩ :=
  ent_of_genH hP Tryz.func28 rfl (by decide) (jn := []) (hd := hdeqtk) (sg := sgs) (by kernel_rfl)
def vceqpe : VC := (.ite (.cmp .neq (.len (.v 0)) (.len (.v 1)))
 (.ret [(.kb false)])
 (.loop [.bool, (.int .i64)] [(.kb false), (.ki .i64 0)]
  (.ite (.cmp .lss (.v 3) (.len (.v 0)))
   (.ev [(.ob (.cmp .geq (.v 3) (.ki .i64 0))), (.ob (.cmp .lss (.v 3) (.len (.v 0)))), (.ob (.cmp .geq (.v 3) (.ki .i64 0))), (.ob (.cmp .lss (.v 3) (.len (.v 1))))]
    (.ite (.and (.cmp .eql (.cell (.get (.v 0) (.v 3)) 0) (.cell (.get (.v 1) (.v 3)) 0)) (.and (.cmp .eql (.cell (.get (.v 0) (.v 3)) 1) (.cell (.get (.v 1) (.v 3)) 1)) (.kb true)))
     (.back 0 [(.v 2), (.ar .add .i64 (.v 3) (.ki .i64 1))])
     (.ret [(.kb false)])))
   (.ret [(.kb true)]))))
def hdeqpe : List HdL := [{ kind := true, id := 4, nv := 2, tmps := [(.v (.c (.d lII (.v 0)))), (.v (.c (.d lII (.v 1)))), (.v (.c .any)), (.v (.c .any)), (.v (.c (.d .bool (.v 2)))), (.v (.c .any)), (.v (.c (.d lII (.v 0)))), (.v (.c (.d sI (.len (.v 0))))), (.v (.c (.d lII (.v 1)))), (.v (.c (.d sI (.len (.v 1))))), (.v (.c (.d .bool (.cmp .neq (.len (.v 0)) (.len (.v 1)))))), (.v (.c (.d lII (.v 0)))), (.v (.c (.d sI (.len (.v 0))))), (vI 3) ] ++ an6 12, blks := [], shs := [.bool, sI], rs := [], bs := [], fz := [] }]
theorem eqpe_ent : EntOK Tryz.prog [] ⟨74, [(.c (.lst [(.int .i64), (.int .i64)])), (.c (.lst [(.int .i64), (.int .i64)]))], [(.c .bool)], vceqpe⟩ :=
  ent_of_genH hP Tryz.func74 rfl (by decide) (jn := []) (hd := hdeqpe) (sg := sgs) (by kernel_rfl)
def nIdx : NEnt := ⟨60, [.c (.lst [.int .u8]), .c (.int .u8)], [.c (.int .i64)], fun ds => match ds with
  | [.lst l, .int .u8 c] => (match bOf l with | some b => (if decide (0 ≤ c) && decide (c ≤ 255) then some (.ok [.int .i64 (idxI b c)]) else none) | none => none)
  | _ => none⟩
theorem nIdx_ok : NEntOK Tryz.prog [] nIdx := by
  intro ds r h
  simp only [nIdx] at h
  split at h
  · rename_i l c
    split at h
    · rename_i b hb
      split at h
      · rename_i hl
        cases h
        simp only [Bool.and_eq_true, decide_eq_true_eq] at hl
        obtain ⟨h1, h2⟩ := bOf_eq hb
        subst h1
        exact idx_fn b c h2 hl.1 hl.2
      · cases h
    · cases h
  · cases h
def natX : List NEnt := nIdx :: nats
theorem natX_ok : ∀ e ∈ natX, NEntOK Tryz.prog [] e := by
  intro e he
  rcases List.mem_cons.1 he with rfl | he
  · exact nIdx_ok
  · exact nats_ok e he
def entX : List Ent := [⟨6, [(.g shM6)], [(.c (.lst [(.int .u8)])), (.c (.int .i64))], M26.vcmencode⟩,
  ⟨14, [(.g shM6)], [(.c (.lst [(.int .u8)]))], M26.vcencoded⟩,
  ⟨35, [(.g shP6)], [(.c (.lst [(.int .u8)]))], M26.vcencprof⟩,
  ⟨36, [(.g [.str, .str, .str, (.int .i64), (.int .i64), (.int .i64)])], [(.c (.lst [(.int .u8)]))], M26.vcenctok⟩,
  ⟨31, [(.p [(.r [(.int .i64), (.lst [(.int .u8)])])]), (.c (.int .i64)), (.c (.int .i64))], [], M26.vcrnum⟩,
  ⟨32, [(.p [(.r [(.int .i64), (.lst [(.int .u8)])])]), (.c (.int .i64)), (.c .str)], [], M26.vcrtext⟩,
  ⟨34, [(.p [(.r [(.int .i64), (.lst [(.int .u8)])])]), (.c (.int .i64)), (.c (.lst [(.lst [(.int .u8)])]))], [], M26.vcritems⟩,
  ⟨37, [(.c (.lst [(.int .i64), (.lst [(.int .u8)])]))], [(.c (.lst [(.int .u8)]))], M26.vcrbytes⟩,
  ⟨9, [(.g shM6)], [(.c (.int .i64))], V26.vcmval⟩,
  ⟨23, [(.g shM6), (.c (.int .i64))], [(.c .bool)], V26.vcmnum⟩,
  ⟨24, [(.g shM6), (.c (.int .i64))], [(.c .bool)], V26.vcmnam⟩,
  ⟨25, [(.g shM6), (.c (.int .i64))], [(.c (.int .i64))], V26.vcmlis⟩,
  ⟨22, [(.g shM6)], [(.c (.int .i64))], V26.vcpres⟩,
  ⟨21, [(.c (.int .i64)), (.c (.int .i64))], [(.c (.int .i64)), (.c .bool)], V26.vcusd⟩,
  ⟨70, [(.c (.int .i64))], [(.c (.int .i64)), (.c .bool)], V26.vcuic⟩,
  ⟨73, [(.g [.str, .str, .str, (.int .i64), (.int .i64), (.int .i64)])], [(.c (.int .i64))], V26.vcentry⟩,
  ⟨100, [(.g [.str, .str, .str, (.int .i64), (.int .i64), (.int .i64)])], [(.c (.int .i64))], V26.vctval⟩,
  ⟨10, [(.g shM6), (.g shM6)], [(.c .bool)], M26.vcmsame⟩,
  ⟨27, [(.g shP6), (.g shP6)], [(.c .bool)], M26.vcmsameprof⟩,
  ⟨26, [(.c (.lst [(.int .i64), (.int .i64)])), (.c (.lst [(.int .i64), (.int .i64)]))], [(.c .bool)], R26.vceqrd⟩,
  ⟨28, [(.c (.lst [.str, .str, .str, (.int .i64), (.int .i64), (.int .i64)])), (.c (.lst [.str, .str, .str, (.int .i64), (.int .i64), (.int .i64)]))], [(.c .bool)], vceqtk⟩,
  ⟨74, [(.c (.lst [(.int .i64), (.int .i64)])), (.c (.lst [(.int .i64), (.int .i64)]))], [(.c .bool)], vceqpe⟩,
  ⟨11, [(.g shM6), (.c (.int .i64))], [(.g shM6)], M26.vcmresult⟩,
  ⟨12, [(.g shM6), (.c (.int .i64))], [(.g shM6)], M26.vcmfailure⟩,
  ⟨20, [(.c (.lst [(.int .u8)]))], [(.g shM6)], M26.vcdecoded⟩,
  ⟨62, [(.c (.lst [(.int .u8)]))], [(.c (.lst [(.int .i64), (.lst [(.int .u8)])]))], M26.vctakerec⟩,
  ⟨69, [.i 25 (.int .i64), .c (.lst [.int .u8])], [], S26.vcset⟩,
  ⟨64, [(.c (.lst [(.int .u8)]))], [(.c (.int .i64))], M26.vctakenum⟩,
  ⟨63, [(.c .bool)], [], M26.vcchk⟩,
  ⟨13, [(.c (.lst [(.int .u8)]))], [(.r [(.int .u8)]), (.c (.int .i64))], M26.vcpack⟩,
  ⟨18, [(.c (.lst [(.int .u8)]))], [(.c (.lst [(.int .u8)])), (.c (.int .i64))], M26.vcunpack⟩,
  ⟨61, [(.c (.lst [(.int .u8)])), (.c .bool)], [(.r [(.int .u8)]), (.c (.int .i64))], M26.vccontent⟩,
  ⟨29, [(.r [(.int .u8)]), (.c (.int .u8))], [(.r [(.int .u8)])], M26.vcfput⟩,
  ⟨30, [(.c (.lst [(.int .u8)]))], [(.c (.int .i64))], M26.vcfsum⟩]
theorem entX_ok : ∀ e ∈ entX, EntOK Tryz.prog [] e := by
  intro e he
  simp only [entX, List.mem_cons, List.not_mem_nil, or_false] at he
  rcases he with rfl | rfl | rfl | rfl | rfl | rfl | rfl | rfl | rfl | rfl | rfl | rfl | rfl | rfl | rfl | rfl | rfl | rfl | rfl | rfl | rfl | rfl | rfl | rfl | rfl | rfl | rfl | rfl | rfl | rfl | rfl | rfl | rfl | rfl
  · exact M26.mencode_ent
  · exact M26.encoded_ent
  · exact M26.encprof_ent
  · exact M26.enctok_ent
  · exact M26.rnum_ent
  · exact M26.rtext_ent
  · exact M26.ritems_ent
  · exact M26.rbytes_ent
  · exact V26.mval_ent
  · exact V26.mnum_ent
  · exact V26.mnam_ent
  · exact V26.mlis_ent
  · exact V26.pres_ent
  · exact V26.usd_ent
  · exact V26.uic_ent
  · exact V26.entry_ent
  · exact V26.tval_ent
  · exact M26.msame_ent
  · exact M26.msameprof_ent
  · exact R26.eqrd_ent
  · exact eqtk_ent
  · exact eqpe_ent
  · exact M26.mresult_ent
  · exact M26.mfailure_ent
  · exact M26.decoded_ent
  · exact M26.takerec_ent
  · exact S26.set_ent
  · exact M26.takenum_ent
  · exact M26.chk_ent
  · exact M26.pack_ent
  · exact M26.unpack_ent
  · exact M26.content_ent
  · exact M26.fput_ent
  · exact M26.fsum_ent
def phiX : Phi := evalG (natPhi natX) 400 entX
theorem phiX_ok : PhiOK Tryz.prog [] phiX := evalG_sound (natPhi_sound natX_ok) entX_ok
def nDec : NEnt := ⟨8, [(.c (.lst [(.int .u8)]))], [(.g shM6), (.c (.int .i64))], runQ phiX vcdec 400 [(.c (.lst [(.int .u8)]))]⟩
theorem nDec_ok : NEntOK Tryz.prog [] nDec := runQ_sound phiX_ok dec_q
theorem natY_ok : ∀ e ∈ nDec :: natX, NEntOK Tryz.prog [] e := by
  intro e he
  rcases List.mem_cons.1 he with rfl | he
  · exact nDec_ok
  · exact natX_ok e he
def entY : List Ent := ⟨5, [], [.c .bool], M26.vcexample⟩ :: entX
theorem entY_ok : ∀ e ∈ entY, EntOK Tryz.prog [] e := by
  intro e he
  rcases List.mem_cons.1 he with rfl | he
  · exact M26.example_ent
  · exact entX_ok e he
theorem ex_fn : Fun Tryz.prog [] 5 [] [] [tB] (.ok [.bool true]) := fun_of_evalG natY_ok entY_ok 400 (by kernel_rfl)

end Go.Proofs.YtfhdgaecclfccaaGreat.X26
set_option maxRecDepth 100000
set_option linter.unusedSimpArgs false
set_option linter.unusedVariables false
namespace Go.Proofs.YtfhdgaecclfccaaGreat.Y26
open Go.Proofs.YtfhdgaecclfccaaGreat Go.Proofs.YtfhdgaecclfccaaGreat.Sy Go.Proofs.YtfhdgaecclfccaaGreat.L7 Go.Proofs.YtfhdgaecclfccaaGreat.Id Go.Proofs.YtfhdgaecclfccaaGreat.R26 Go.RowKit Go.WideShapes Go.ChangeShapes Go.ChangeAt
theorem txtF_len (t : Int) (s : ByteArray) : (txtF t s).length ≤ 1 := by unfold txtF; split <;> simp
theorem numF_len (t n : Int) : (numF t n).length ≤ 1 := by unfold numF; split <;> simp
theorem flagF_len (t : Int) (b : Bool) : (flagF t b).length ≤ 1 := by unfold flagF; split <;> simp
theorem listF_len (t : Int) (p : List (List Int)) : (listF t p).length ≤ 1 := by unfold listF; split <;> simp
def rdP (l : List (Int × Int)) : List (List Int) := (l.flatMap pairL).map putS
theorem pairs_len (l : List (Int × Int)) : (l.flatMap pairL).length = 2 * l.length := by
  induction l with
  | nil => rfl
  | cons x l ih => rw [List.flatMap_cons, List.length_append, ih]; simp [pairL]; omega
theorem rdP_len (l : List (Int × Int)) : (rdP l).length = 2 * l.length := by unfold rdP; rw [List.length_map, pairs_len]
theorem rdP_small (l : List (Int × Int)) : ∀ x ∈ rdP l, x.length ≤ 10 := by
  intro x hx
  obtain ⟨n, _, rfl⟩ := List.mem_map.1 hx
  exact (putS_len n).2
theorem putL_len {p : List (List Int)} {n : Nat} (hs : ∀ x ∈ p, x.length ≤ 10) : (putL p).length ≤ 10 + 20 * p.length := by
  have h1 := putS_len p.length
  have h2 : (p.flatMap putD).length ≤ 20 * p.length := by
    clear h1
    induction p with
    | nil => simp
    | cons x p ih =>
      have h3 := putS_len x.length
      have h4 := hs x (by simp)
      have h5 := ih fun y hy => hs y (by simp [hy])
      rw [List.flatMap_cons, List.length_append, List.length_cons]
      unfold putD at h5 ⊢
      rw [List.length_append]
      omega
  unfold putL
  rw [List.length_append]
  omega
theorem txtF_data {t : Int} {s : ByteArray} {n : Nat} (h : s.size ≤ n) : ∀ x ∈ txtF t s, x.2.length ≤ n := by
  unfold txtF
  split
  · intro x hx; cases hx
  · intro x hx
    simp only [List.mem_singleton] at hx
    subst hx
    rw [sB_len]
    exact h
theorem numF_data (t n : Int) : ∀ x ∈ numF t n, x.2.length ≤ 10 := by
  unfold numF
  split
  · intro x hx; cases hx
  · intro x hx
    simp only [List.mem_singleton] at hx
    subst hx
    exact (putS_len n).2
theorem flagF_data (t : Int) (b : Bool) : ∀ x ∈ flagF t b, x.2.length ≤ 10 := by
  unfold flagF
  split
  · intro x hx
    simp only [List.mem_singleton] at hx
    subst hx
    exact (putS_len 1).2
  · intro x hx; cases hx
theorem listF_data {t : Int} {p : List (List Int)} (hs : ∀ x ∈ p, x.length ≤ 10) : ∀ x ∈ listF t p, x.2.length ≤ 10 + 20 * p.length := by
  unfold listF
  split
  · intro x hx; cases hx
  · intro x hx
    simp only [List.mem_singleton] at hx
    subst hx
    exact putL_len (n := 0) hs
def Asc : Int → List Fld → Prop
  | _, [] => True
  | b, x :: l => b < x.1 ∧ x.1 ≤ 1000 ∧ Asc x.1 l
theorem asc_put : ∀ (l : List Fld) (b : Int), 0 ≤ b → Asc b l → ∃ r, putG b l = .ok r
  | [], b, _, _ => ⟨[], rfl⟩
  | (t, d) :: l, b, h0, h => by
    obtain ⟨h1, h2, h3⟩ := h
    simp only at h1 h2 h3
    obtain ⟨r, hr⟩ := asc_put l t (by omega) h3
    simp only [putG]
    rw [if_neg (by omega), if_neg (by omega), hr]
    exact ⟨_, rfl⟩
def Bet (a c : Int) (l : List Fld) : Prop := ∀ b, b ≤ a → ∀ m, Asc c m → Asc b (l ++ m)
theorem bet_one {a t : Int} {d : List Int} (h : a < t) (h2 : t ≤ 1000) : Bet a t [(t, d)] := fun b hb m hm => ⟨by simp only; omega, h2, hm⟩
theorem asc_le : ∀ {l : List Fld} {b c : Int}, b ≤ c → Asc c l → Asc b l
  | [], _, _, _, _ => trivial
  | x :: l, b, c, h, hl => ⟨Int.lt_of_le_of_lt h hl.1, hl.2⟩
theorem bet_nil {a t : Int} (h : a ≤ t) : Bet a t [] := fun b hb m hm => asc_le (by omega) hm
theorem bet_txt {a t : Int} {s : ByteArray} (h : a < t) (h2 : t ≤ 1000) : Bet a t (txtF t s) := by unfold txtF; split <;> (first | exact bet_nil (by omega) | exact bet_one h h2)
theorem bet_num {a t n : Int} (h : a < t) (h2 : t ≤ 1000) : Bet a t (numF t n) := by unfold numF; split <;> (first | exact bet_nil (by omega) | exact bet_one h h2)
theorem bet_list {a t : Int} {p : List (List Int)} (h : a < t) (h2 : t ≤ 1000) : Bet a t (listF t p) := by unfold listF; split <;> (first | exact bet_nil (by omega) | exact bet_one h h2)
theorem bet_app {a b c : Int} {l m : List Fld} (h : Bet a b l) (k : Bet b c m) : Bet a c (l ++ m) := fun x hx r hr => by rw [List.append_assoc]; exact h x hx _ (k b (Int.le_refl _) r hr)
theorem txtF_isB (t : Int) (s : ByteArray) : ∀ x ∈ txtF t s, isB x.2 := by
  unfold txtF
  split
  · intro x hx; cases hx
  · intro x hx
    simp only [List.mem_singleton] at hx
    subst hx
    exact sB_isB s
theorem numF_isB {t n : Int} (hn : in64 n) : ∀ x ∈ numF t n, isB x.2 := by
  unfold numF
  split
  · intro x hx; cases hx
  · intro x hx
    simp only [List.mem_singleton] at hx
    subst hx
    exact putS_isB hn
theorem flagF_isB (t : Int) (b : Bool) : ∀ x ∈ flagF t b, isB x.2 := by
  unfold flagF
  split
  · intro x hx
    simp only [List.mem_singleton] at hx
    subst hx
    exact putS_isB (n := 1) (by unfold in64; omega)
  · intro x hx; cases hx
theorem rdP_isB {l : List (Int × Int)} (h : ∀ x ∈ l, inI x.1 ∧ inI x.2) : ∀ x ∈ rdP l, isB x := by
  intro x hx
  obtain ⟨n, hn, rfl⟩ := List.mem_map.1 hx
  obtain ⟨y, hy, hn⟩ := List.mem_flatMap.1 hn
  have := h y hy
  simp only [pairL, List.mem_cons, List.not_mem_nil, or_false] at hn
  rcases hn with rfl | rfl
  · exact putS_isB this.1
  · exact putS_isB this.2
theorem putL_isB {p : List (List Int)} (h : ∀ x ∈ p, isB x) (hs : ∀ x ∈ p, x.length ≤ 1000000) (hl : p.length ≤ 256) : isB (putL p) := (putListS_isB h hs (putListS_in hl)).1
theorem listF_isB {t : Int} {p : List (List Int)} (h : ∀ x ∈ p, isB x) (hs : ∀ x ∈ p, x.length ≤ 1000000) (hl : p.length ≤ 256) : ∀ x ∈ listF t p, isB x.2 := by
  unfold listF
  split
  · intro x hx; cases hx
  · intro x hx
    simp only [List.mem_singleton] at hx
    subst hx
    exact putL_isB h hs hl
theorem bet_asc {a c : Int} {l : List Fld} (h : Bet a c l) : Asc a l := by
  have := h a (Int.le_refl _) [] trivial
  rwa [List.append_nil] at this

end Go.Proofs.YtfhdgaecclfccaaGreat.Y26
set_option maxRecDepth 100000
set_option linter.unusedSimpArgs false
set_option linter.unusedVariables false
namespace Go.Proofs.YtfhdgaecclfccaaGreat.B26
open Go.Proofs.YtfhdgaecclfccaaGreat Go.Proofs.YtfhdgaecclfccaaGreat.Sy Go.Proofs.YtfhdgaecclfccaaGreat.L7 Go.Proofs.YtfhdgaecclfccaaGreat.Id Go.Proofs.YtfhdgaecclfccaaGreat.R26 Go.Proofs.YtfhdgaecclfccaaGreat.V26 Go.Proofs.YtfhdgaecclfccaaGreat.M26 Go.Proofs.YtfhdgaecclfccaaGreat.X26 Go.RowKit Go.WideShapes Go.ChangeShapes Go.ChangeAt
theorem hP : NoNum Tryz.prog := by unfold NoNum; kernel_rfl
def sgs : Nat → Option (List TS × List TS) := fun _ => none
def tkSm (i : Nat) (t : Tok) : Bool := decide (t.id.size ≤ 200 ∧ t.gr.size ≤ 200 ∧ t.co.size ≤ 200 ∧ i ≤ 130)
def tksSm : Nat → List Tok → Bool
  | _, [] => true
  | i, t :: l => tkSm i t && tksSm (i + 1) l
def smB (m : Msg) : Bool := tksSm 0 m.tks && decide (m.rd.length ≤ 130 ∧ m.p.pe.length ≤ 40 ∧ m.tx.size ≤ 200 ∧ m.tk.size ≤ 200 ∧ m.te.size ≤ 200 ∧ m.p.tx.size ≤ 200)
theorem tks_step {l : List Tok} {i : Nat} (h : i < l.length) : tksSm i (l.drop i) = (tkSm i (l.getD i tok0) && tksSm (i + 1) (l.drop (i + 1))) := by
  rw [List.drop_eq_getElem_cons h]
  simp [tksSm, List.getD_eq_getElem?_getD, h]
structure SmM (m : Msg) : Prop where
  tks : m.tks.length ≤ 131
  tk : ∀ t ∈ m.tks, t.id.size ≤ 200 ∧ t.gr.size ≤ 200 ∧ t.co.size ≤ 200
  rd : m.rd.length ≤ 130
  pe : m.p.pe.length ≤ 40
  tx : m.tx.size ≤ 200
  tk' : m.tk.size ≤ 200
  te : m.te.size ≤ 200
  ptx : m.p.tx.size ≤ 200
theorem tksSm_len : ∀ {l : List Tok} {i : Nat}, i ≤ 131 → tksSm i l = true → l.length + i ≤ 131 ∧ ∀ t ∈ l, t.id.size ≤ 200 ∧ t.gr.size ≤ 200 ∧ t.co.size ≤ 200
  | [], i, hi, _ => ⟨by simpa using hi, fun t ht => by cases ht⟩
  | t :: l, i, _, h => by
    simp only [tksSm, tkSm, Bool.and_eq_true, decide_eq_true_eq] at h
    obtain ⟨h1, h2⟩ := tksSm_len (i := i + 1) (by omega) h.2
    refine ⟨by simp only [List.length_cons]; omega, fun x hx => ?_⟩
    rcases List.mem_cons.1 hx with rfl | hx
    · exact ⟨h.1.1, h.1.2.1, h.1.2.2.1⟩
    · exact h2 x hx
theorem smB_ok {m : Msg} (h : smB m = true) : SmM m := by
  simp only [smB, Bool.and_eq_true, decide_eq_true_eq] at h
  obtain ⟨h1, h2⟩ := tksSm_len (Nat.zero_le _) h.1
  exact ⟨by simpa using h1, h2, h.2.1, h.2.2.1, h.2.2.2.1, h.2.2.2.2.1, h.2.2.2.2.2.1, h.2.2.2.2.2.2⟩
theorem small_fn (m : Msg) (hl : m.tks.length ≤ maxLen) : Fun Tryz.prog [] 4 [tM] [msD m] [tB] (.ok [.bool (smB m)]) := by
  refine small_ent _ _ ?_
  show vcsmall.den _ _ _ _ _
  unfold vcsmall
  have hmx : maxLen ≤ 9223372036854775807 := by decide
  refine den_loop (fun xs => ∃ (q : Bool) (i : Nat), xs = [.bool q, I64d i] ∧ i ≤ m.tks.length ∧ tksSm 0 m.tks = tksSm i (m.tks.drop i)) (fun xs => m.tks.length - (xs.getD 1 default).toI.toNat) ⟨false, 0, rfl, by omega, rfl⟩ ?_
  simp only [AllSh]
  intro q n _ _ ⟨_, i, he, hi, htk⟩
  simp only [List.cons.injEq, D.int.injEq, D.bool.injEq, true_and, and_true] at he
  obtain ⟨rfl, rfl⟩ := he
  (try simp only [dN])
  refine den_ite (fun h2 => ?_) (fun h2 => ?_)
  · simp only [dF, dE] at h2
    have hia : i < m.tks.length := by omega
    have ga := getD_map (g := tkD) tok0 hia
    have hst := tks_step hia
    have hw : IntKind.wrap .i64 ((i : Int) + 1) = ((i + 1 : Nat) : Int) := by rw [wrap_i64 (by omega) (by omega)]; omega
    refine den_ev (evs_ob (by simp only [dF, dE]; omega) (evs_ob (by simp only [dF, dE]; omega) (evs_nil ?_)))
    refine den_ite (fun h3 => ?_) (fun h3 => ?_)
    · simp only [dF, dE, ga] at h3
      refine den_ret ?_
      simp only [dF, dE]
      have hx : tkSm i (m.tks.getD i tok0) = false := by (simp only [tkSm, decide_eq_false_iff_not]; omega)
      have hsm : smB m = false := by (unfold smB; rw [htk, hst, hx]; rfl)
      rw [hsm]
    simp only [dF, dE, ga] at h3
    refine den_ev (evs_ob (by simp only [dF, dE]; omega) (evs_ob (by simp only [dF, dE]; omega) (evs_nil ?_)))
    refine den_ite (fun h4 => ?_) (fun h4 => ?_)
    · simp only [dF, dE, ga] at h4
      refine den_ret ?_
      simp only [dF, dE]
      have hx : tkSm i (m.tks.getD i tok0) = false := by (simp only [tkSm, decide_eq_false_iff_not]; omega)
      have hsm : smB m = false := by (unfold smB; rw [htk, hst, hx]; rfl)
      rw [hsm]
    simp only [dF, dE, ga] at h4
    refine den_ev (evs_ob (by simp only [dF, dE]; omega) (evs_ob (by simp only [dF, dE]; omega) (evs_nil ?_)))
    refine den_ite (fun h5 => ?_) (fun h5 => ?_)
    · simp only [dF, dE, ga] at h5
      refine den_ret ?_
      simp only [dF, dE]
      have hx : tkSm i (m.tks.getD i tok0) = false := by (simp only [tkSm, decide_eq_false_iff_not]; omega)
      have hsm : smB m = false := by (unfold smB; rw [htk, hst, hx]; rfl)
      rw [hsm]
    simp only [dF, dE, ga] at h5
    refine den_ite (fun h6 => ?_) (fun h6 => ?_)
    · simp only [dF, dE, ga] at h6
      refine den_ret ?_
      simp only [dF, dE]
      have hx : tkSm i (m.tks.getD i tok0) = false := by (simp only [tkSm, decide_eq_false_iff_not]; omega)
      have hsm : smB m = false := by (unfold smB; rw [htk, hst, hx]; rfl)
      rw [hsm]
    simp only [dF, dE, ga] at h6
    have hx : tkSm i (m.tks.getD i tok0) = true := by (simp only [tkSm, decide_eq_true_eq]; omega)
    rw [hx, Bool.true_and] at hst
    refine den_back rfl ⟨q, i + 1, (by simp only [dF, dE]; rw [hw]), by omega, htk.trans hst⟩ (by simp only []; simp only [dF, dE]; rw [hw]; omega)
  · simp only [dF, dE] at h2
    have hia : i = m.tks.length := by omega
    subst hia
    have htk : tksSm 0 m.tks = true := by rw [htk, List.drop_length]; rfl
    refine den_ite (fun h11 => ?_) (fun h11 => ?_)
    · simp only [dF, dE] at h11
      refine den_ite (fun h12 => ?_) (fun h12 => ?_)
      · simp only [dF, dE] at h12
        refine den_ite (fun h13 => ?_) (fun h13 => ?_)
        · simp only [dF, dE] at h13
          refine den_ite (fun h14 => ?_) (fun h14 => ?_)
          · simp only [dF, dE] at h14
            refine den_ite (fun h15 => ?_) (fun h15 => ?_)
            · simp only [dF, dE] at h15
              refine den_ret ?_
              simp only [dF, dE]
              (first | (simp [smB, *]; done) | (simp [smB, *]; omega) | (simp only [smB, htk, Bool.true_and, FR.ok.injEq, List.cons.injEq, D.bool.injEq, and_true, decide_eq_decide, Bool.false_eq, decide_eq_false_iff_not]; omega))
            · simp only [dF, dE] at h15
              refine den_ret ?_
              simp only [dF, dE]
              (first | (simp [smB, *]; done) | (simp [smB, *]; omega) | (simp only [smB, htk, Bool.true_and, FR.ok.injEq, List.cons.injEq, D.bool.injEq, and_true, decide_eq_decide, Bool.false_eq, decide_eq_false_iff_not]; omega))
          · simp only [dF, dE] at h14
            refine den_ret ?_
            simp only [dF, dE]
            (first | (simp [smB, *]; done) | (simp [smB, *]; omega) | (simp only [smB, htk, Bool.true_and, FR.ok.injEq, List.cons.injEq, D.bool.injEq, and_true, decide_eq_decide, Bool.false_eq, decide_eq_false_iff_not]; omega))
        · simp only [dF, dE] at h13
          refine den_ret ?_
          simp only [dF, dE]
          (first | (simp [smB, *]; done) | (simp [smB, *]; omega) | (simp only [smB, htk, Bool.true_and, FR.ok.injEq, List.cons.injEq, D.bool.injEq, and_true, decide_eq_decide, Bool.false_eq, decide_eq_false_iff_not]; omega))
      · simp only [dF, dE] at h12
        refine den_ret ?_
        simp only [dF, dE]
        (first | (simp [smB, *]; done) | (simp [smB, *]; omega) | (simp only [smB, htk, Bool.true_and, FR.ok.injEq, List.cons.injEq, D.bool.injEq, and_true, decide_eq_decide, Bool.false_eq, decide_eq_false_iff_not]; omega))
    · simp only [dF, dE] at h11
      refine den_ret ?_
      simp only [dF, dE]
      (first | (simp [smB, *]; done) | (simp [smB, *]; omega) | (simp only [smB, htk, Bool.true_and, FR.ok.injEq, List.cons.injEq, D.bool.injEq, and_true, decide_eq_decide, Bool.false_eq, decide_eq_false_iff_not]; omega))
theorem mval_fn' (m : Msg) (h : MsT m) (hs : SmM m) : Fun Tryz.prog [] 9 [tM] [msD m] [tI] (.ok [I64d (msgS m)]) := mval_fn m h.tx h.tk h.te h.rd.1 h.tl h.tks h.p.tx (by have := hs.pe; omega)
theorem rmval_fn' (m : Msg) (h : MsT m) (hs : SmM m) : Fun Tryz.prog [] 15 [tM] [msD m] [tI] (.ok [I64d (msgS m)]) := rmval_fn m h.tx h.tk h.te h.rd.1 h.tl h.tks h.p.tx (by have := hs.pe; omega)


end Go.Proofs.YtfhdgaecclfccaaGreat.B26
set_option maxRecDepth 100000
set_option linter.unusedSimpArgs false
set_option linter.unusedVariables false
namespace Go.Proofs.YtfhdgaecclfccaaGreat.Y26
open Go.Proofs.YtfhdgaecclfccaaGreat Go.Proofs.YtfhdgaecclfccaaGreat.Sy Go.Proofs.YtfhdgaecclfccaaGreat.L7 Go.Proofs.YtfhdgaecclfccaaGreat.Id Go.Proofs.YtfhdgaecclfccaaGreat.R26 Go.Proofs.YtfhdgaecclfccaaGreat.V26 Go.Proofs.YtfhdgaecclfccaaGreat.M26 Go.Proofs.YtfhdgaecclfccaaGreat.X26 Go.Proofs.YtfhdgaecclfccaaGreat.B26 Go.RowKit Go.WideShapes Go.ChangeShapes Go.ChangeAt
theorem hP : NoNum Tryz.prog := by unfold NoNum; kernel_rfl
def numsF : Int → List Int → List Fld
  | _, [] => []
  | t, n :: l => numF t n ++ numsF (t + 1) l
theorem numsF_len : ∀ (t : Int) (l : List Int), (numsF t l).length ≤ l.length
  | _, [] => Nat.le_refl _
  | t, n :: l => by
    have h := numsF_len (t + 1) l
    have h2 := numF_len t n
    simp only [numsF, List.length_append, List.length_cons]
    omega
theorem numsF_step : ∀ {l : List Int} {t : Int} {i : Nat}, i < l.length → numsF t (l.take (i + 1)) = numsF t (l.take i) ++ numF (t + i) (l.getD i 0)
  | [], _, _, h => by simp at h
  | n :: l, t, 0, _ => by simp [numsF]
  | n :: l, t, i + 1, h => by
    have h' : i < l.length := by simpa using h
    have e : t + 1 + (i : Int) = t + ((i + 1 : Nat) : Int) := by omega
    simp only [List.take_succ_cons, numsF, List.getD_cons_succ]
    rw [numsF_step h', List.append_assoc, e]
def AllP {α : Type} (p : α → Prop) : List α → Prop
  | [] => True
  | x :: l => p x ∧ AllP p l
theorem all_get {p : Int → Prop} : ∀ (l : List Int) (i : Nat), i < l.length → AllP p l → p (l.getD i 0)
  | [], _, h, _ => by simp at h
  | x :: l, 0, _, h => h.1
  | x :: l, i + 1, h, hp => by
    simp only [List.getD_cons_succ]
    exact all_get l i (by simpa using h) hp.2
theorem numsF_data : ∀ (t : Int) (l : List Int), ∀ x ∈ numsF t l, x.2.length ≤ 10
  | _, [], x, hx => by cases hx
  | t, n :: l, x, hx => by
    rcases List.mem_append.1 hx with hx | hx
    · exact numF_data t n x hx
    · exact numsF_data (t + 1) l x hx
def putB (l : List Fld) : List Int := match putF l with | .ok b => b | .error _ => []
def fldT (t : Tok) : List Fld := txtF 1 t.id ++ txtF 2 t.gr ++ txtF 3 t.co ++ numsF 4 [t.ki, t.st, t.ex]
def tokB (t : Tok) : List Int := putB (fldT t)
def fldP (p : Prof) : List Fld := numsF 1 [p.id, p.lv, p.pu, p.ki, p.co] ++ txtF 6 p.tx ++ numsF 7 [p.fr, p.to, p.st, p.du] ++ listF 11 (rdP p.pe)
def prfF (p : Prof) : List Fld := if putB (fldP p) = [] then [] else [(14, putB (fldP p))]
def fldM (m : Msg) : List Fld := numsF 1 [m.ki, m.id, m.ac, m.co, m.st, m.sq, m.at', m.va] ++ txtF 9 m.tx ++ txtF 10 m.tk ++ txtF 11 m.te ++ flagF 12 m.off ++ listF 13 (rdP m.rd) ++ prfF m.p ++ listF 15 (m.tks.map tokB)
def byM (m : Msg) : List Int := putB (fldM m)
theorem prfF_len (p : Prof) : (prfF p).length ≤ 1 := by unfold prfF; split <;> simp
abbrev tP : TS := .p [.r [.int .i64, .lst [.int .u8]]]
theorem mrnum_fn (l : List Fld) (t n : Int) (hn : in64 n) (hl : l.length ≤ 1000) : Fun Tryz.prog [] 31 [tP, tI, tI] [.rc [fsD l], I64d t, I64d n] [] (.ok [.rc [fsD (l ++ numF t n)]]) := by
  refine M26.rnum_ent _ _ ?_
  show M26.vcrnum.den _ _ _ _ _
  unfold M26.vcrnum
  refine den_ite (fun h => ?_) (fun h => den_ret ?_)
  · simp only [dF, dE] at h
    refine den_cal [bD (putS n)] rfl (putint_fn n hn) rfl rfl ?_
    refine den_ev (evs_ob (by simp only [dF, dE]; omega) (evs_nil (den_ret ?_)))
    simp only [dF, dE]
    simp [numF, h]
  · simp only [dF, dE] at h
    simp only [dF, dE]
    simp [numF, h]
theorem mrtext_fn (l : List Fld) (t : Int) (s : ByteArray) (hl : l.length ≤ 1000) : Fun Tryz.prog [] 32 [tP, tI, tZ] [.rc [fsD l], I64d t, .str s] [] (.ok [.rc [fsD (l ++ txtF t s)]]) := by
  refine M26.rtext_ent _ _ ?_
  show M26.vcrtext.den _ _ _ _ _
  unfold M26.vcrtext
  refine den_ite (fun h => den_ret ?_) (fun h => ?_)
  · simp only [dF, dE, str_eq, emp_iff] at h
    simp only [dF, dE]
    simp [txtF, h]
  · simp only [dF, dE, str_eq, emp_iff] at h
    refine den_ev (evs_ob (by simp only [dF, dE]; omega) (evs_nil (den_ret ?_)))
    simp only [dF, dE, bytesD_eq]
    simp [txtF, h]
theorem mritems_fn (l : List Fld) (t : Int) (p : List (List Int)) (hl : l.length ≤ 1000) (hp : p.length ≤ 256) (hs : ∀ x ∈ p, x.length ≤ 1000000) : Fun Tryz.prog [] 34 [tP, tI, tYY] [.rc [fsD l], I64d t, bbD p] [] (.ok [.rc [fsD (l ++ listF t p)]]) := by
  refine M26.ritems_ent _ _ ?_
  show M26.vcritems.den _ _ _ _ _
  unfold M26.vcritems
  refine den_ite (fun h => ?_) (fun h => den_ret ?_)
  · simp only [dF, dE] at h
    have hne : p ≠ [] := fun e => by rw [e] at h; simp at h
    have hpl := putl_fn p (by omega) hs
    rw [putListS_in hp] at hpl
    refine den_cal [bD (putL p), I64d 0] rfl hpl rfl rfl ?_
    refine den_ev (evs_ob (by simp only [dF, dE]; omega) (evs_nil (den_ret ?_)))
    simp only [dF, dE]
    simp [listF, hne]
  · simp only [dF, dE] at h
    have hne : p = [] := List.length_eq_zero_iff.1 (by omega)
    simp only [dF, dE]
    simp [listF, hne]
theorem mrbytes_fn (l : List Fld) (hl : l.length ≤ 1000) (hs : ∀ x ∈ l, x.2.length ≤ 1000000) : Fun Tryz.prog [] 37 [tF] [fsD l] [tY] (.ok [bD (putB l)]) := by
  refine M26.rbytes_ent _ _ ?_
  show M26.vcrbytes.den _ _ _ _ _
  unfold M26.vcrbytes
  have hp := L7.put_fn l (by omega) hs
  unfold putB
  cases he : putF l with
  | ok b =>
    rw [he] at hp
    exact den_cal [bD b, I64d 0] rfl hp rfl rfl (den_ret rfl)
  | error e =>
    rw [he] at hp
    exact den_cal [bD [], I64d e] rfl hp rfl rfl (den_ret rfl)
structure TkS (t : Tok) : Prop where
  id : t.id.size ≤ 200
  gr : t.gr.size ≤ 200
  co : t.co.size ≤ 200
theorem fldT_len (t : Tok) : (fldT t).length ≤ 6 := by
  have a1 := txtF_len 1 t.id
  have a2 := txtF_len 2 t.gr
  have a3 := txtF_len 3 t.co
  have a4 := numsF_len 4 [t.ki, t.st, t.ex]
  simp only [fldT, List.length_append]
  simp only [List.length_cons, List.length_nil] at a4
  omega
theorem fldT_data {t : Tok} (h : TkS t) : ∀ x ∈ fldT t, x.2.length ≤ 200 := by
  intro x hx
  simp only [fldT, List.mem_append] at hx
  rcases hx with ((hx | hx) | hx) | hx
  · exact txtF_data h.id x hx
  · exact txtF_data h.gr x hx
  · exact txtF_data h.co x hx
  · exact Nat.le_trans (numsF_data _ _ x hx) (by omega)
theorem putG_len : ∀ (l : List Fld) (b0 : Int) (b : List Int) (n : Nat), (∀ x ∈ l, x.2.length ≤ n) → putG b0 l = .ok b → b.length ≤ l.length * (n + 20)
  | [], _, b, n, _, h => by simp only [putG, Except.ok.injEq] at h; subst h; simp
  | x :: l, b0, b, n, hx, h => by
    unfold putG at h
    split at h
    · cases h
    split at h
    · cases h
    cases hr : putG x.1 l with
    | error e => rw [hr] at h; cases h
    | ok r =>
      rw [hr] at h
      simp only [consA, Except.ok.injEq] at h
      have ih := putG_len l x.1 r n (fun y hy => hx y (by simp [hy])) hr
      have h1 := (putS_len x.1).2
      have h2 := (putS_len x.2.length).2
      have h3 := hx x (by simp)
      subst h
      simp only [List.length_append, List.length_cons, putD, Nat.add_mul, Nat.one_mul]
      omega
theorem putB_len {l : List Fld} {n : Nat} (h : ∀ x ∈ l, x.2.length ≤ n) : (putB l).length ≤ l.length * (n + 20) := by
  unfold putB putF
  split
  · rename_i b hb
    split at hb
    · cases hb
    · exact putG_len l 0 b n h hb
  · simp
theorem tokB_len {t : Tok} (h : TkS t) : (tokB t).length ≤ 2000 := by
  have h1 := putB_len (fldT_data h)
  have h2 := fldT_len t
  unfold tokB
  have : (fldT t).length * (200 + 20) ≤ 6 * 220 := Nat.mul_le_mul h2 (Nat.le_refl _)
  omega
theorem fldP_len (p : Prof) : (fldP p).length ≤ 11 := by
  have a1 := numsF_len 1 [p.id, p.lv, p.pu, p.ki, p.co]
  have a2 := txtF_len 6 p.tx
  have a3 := numsF_len 7 [p.fr, p.to, p.st, p.du]
  have a4 := listF_len 11 (rdP p.pe)
  simp only [fldP, List.length_append]
  simp only [List.length_cons, List.length_nil] at a1 a3
  omega
theorem fldP_data {p : Prof} (h1 : p.tx.size ≤ 200) (h2 : p.pe.length ≤ 40) : ∀ x ∈ fldP p, x.2.length ≤ 2000 := by
  intro x hx
  simp only [fldP, List.mem_append] at hx
  rcases hx with ((hx | hx) | hx) | hx
  · exact Nat.le_trans (numsF_data _ _ x hx) (by omega)
  · exact Nat.le_trans (txtF_data h1 x hx) (by omega)
  · exact Nat.le_trans (numsF_data _ _ x hx) (by omega)
  · have := listF_data (t := 11) (rdP_small p.pe) x hx
    have := rdP_len p.pe
    omega
theorem prfB_len {p : Prof} (h1 : p.tx.size ≤ 200) (h2 : p.pe.length ≤ 40) : (putB (fldP p)).length ≤ 30000 := by
  have a1 := putB_len (fldP_data h1 h2)
  have a2 := fldP_len p
  have : (fldP p).length * (2000 + 20) ≤ 11 * 2020 := Nat.mul_le_mul a2 (Nat.le_refl _)
  omega
theorem putL_len2 {p : List (List Int)} {n : Nat} (hs : ∀ x ∈ p, x.length ≤ n) : (putL p).length ≤ 10 + p.length * (n + 10) := by
  unfold putL
  rw [List.length_append]
  have h1 := (putS_len p.length).2
  have h2 : (p.flatMap putD).length ≤ p.length * (n + 10) := by
    clear h1
    induction p with
    | nil => simp
    | cons x l ih =>
      have h3 := hs x (by simp)
      have h4 := ih fun y hy => hs y (by simp [hy])
      have h5 := (putS_len x.length).2
      simp only [List.flatMap_cons, List.length_append, putD, List.length_cons, Nat.add_mul, Nat.one_mul]
      omega
  omega
theorem listF_data2 {t : Int} {p : List (List Int)} {n : Nat} (hs : ∀ x ∈ p, x.length ≤ n) : ∀ x ∈ listF t p, x.2.length ≤ 10 + p.length * (n + 10) := by
  intro x hx
  unfold listF at hx
  split at hx
  · cases hx
  · simp only [List.mem_singleton] at hx
    subst hx
    exact putL_len2 hs
theorem tks_S {m : Msg} (h : SmM m) {t : Tok} (ht : t ∈ m.tks) : TkS t := ⟨(h.tk t ht).1, (h.tk t ht).2.1, (h.tk t ht).2.2⟩
theorem tksB_len {m : Msg} (h : SmM m) : ∀ x ∈ m.tks.map tokB, x.length ≤ 2000 := by
  intro x hx
  obtain ⟨t, ht, rfl⟩ := List.mem_map.1 hx
  exact tokB_len (tks_S h ht)
theorem fldM_len (m : Msg) : (fldM m).length ≤ 15 := by
  have a1 := numsF_len 1 [m.ki, m.id, m.ac, m.co, m.st, m.sq, m.at', m.va]
  have a2 := txtF_len 9 m.tx
  have a3 := txtF_len 10 m.tk
  have a4 := txtF_len 11 m.te
  have a5 := flagF_len 12 m.off
  have a6 := listF_len 13 (rdP m.rd)
  have a7 := prfF_len m.p
  have a8 := listF_len 15 (m.tks.map tokB)
  simp only [fldM, List.length_append]
  simp only [List.length_cons, List.length_nil] at a1
  omega
theorem fldM_data {m : Msg} (h : SmM m) : ∀ x ∈ fldM m, x.2.length ≤ 300000 := by
  intro x hx
  simp only [fldM, List.mem_append] at hx
  have z1 := h.tx
  have z2 := h.tk'
  have z3 := h.te
  have z4 := h.rd
  have z5 := h.tks
  rcases hx with ((((((hx | hx) | hx) | hx) | hx) | hx) | hx) | hx
  · exact Nat.le_trans (numsF_data _ _ x hx) (by omega)
  · exact Nat.le_trans (txtF_data h.tx x hx) (by omega)
  · exact Nat.le_trans (txtF_data h.tk' x hx) (by omega)
  · exact Nat.le_trans (txtF_data h.te x hx) (by omega)
  · exact Nat.le_trans (flagF_data _ _ x hx) (by omega)
  · have := listF_data (t := 13) (rdP_small m.rd) x hx
    have := rdP_len m.rd
    omega
  · have := prfB_len h.ptx h.pe
    unfold prfF at hx
    split at hx
    · cases hx
    · simp only [List.mem_singleton] at hx
      subst hx
      simp only
      omega
  · have h1 := listF_data2 (t := 15) (tksB_len h) x hx
    have h2 : (m.tks.map tokB).length * (2000 + 10) ≤ 131 * 2010 := Nat.mul_le_mul (by simpa using z5) (Nat.le_refl _)
    omega
theorem enctok_fn (t : Tok) (h : TkT t) (hs : TkS t) : Fun Tryz.prog [] 36 [.g [.str, .str, .str, .int .i64, .int .i64, .int .i64]] [tkD t] [tY] (.ok [bD (tokB t)]) := by
  refine M26.enctok_ent _ _ ?_
  show M26.vcenctok.den _ _ _ _ _
  unfold M26.vcenctok
  have a1 := txtF_len 1 t.id
  have a2 := txtF_len 2 t.gr
  have a3 := txtF_len 3 t.co
  obtain ⟨l0, hl0⟩ : ∃ l : List Fld, l = ([] : List Fld) := ⟨_, rfl⟩
  have bl0 : l0.length ≤ 0 := by rw [hl0]; (try simp only [List.length_append, List.length_nil]); omega
  obtain ⟨l1, hl1⟩ : ∃ l : List Fld, l = l0 ++ txtF 1 t.id := ⟨_, rfl⟩
  have bl1 : l1.length ≤ 1 := by rw [hl1]; (try simp only [List.length_append, List.length_nil]); omega
  refine den_cal [fsD l1] rfl (fun_as (mrtext_fn l0 1 t.id (by omega)) (by rw [hl1] <;> rfl)) (by rw [hl0]; rfl) rfl ?_
  (try simp only [dN])
  obtain ⟨l2, hl2⟩ : ∃ l : List Fld, l = l1 ++ txtF 2 t.gr := ⟨_, rfl⟩
  have bl2 : l2.length ≤ 2 := by rw [hl2]; (try simp only [List.length_append, List.length_nil]); omega
  refine den_cal [fsD l2] rfl (fun_as (mrtext_fn l1 2 t.gr (by omega)) (by rw [hl2] <;> rfl)) rfl rfl ?_
  (try simp only [dN])
  obtain ⟨l3, hl3⟩ : ∃ l : List Fld, l = l2 ++ txtF 3 t.co := ⟨_, rfl⟩
  have bl3 : l3.length ≤ 3 := by rw [hl3]; (try simp only [List.length_append, List.length_nil]); omega
  refine den_cal [fsD l3] rfl (fun_as (mrtext_fn l2 3 t.co (by omega)) (by rw [hl3] <;> rfl)) rfl rfl ?_
  (try simp only [dN])
  refine den_loop (fun xs => ∃ i : Nat, xs = [fsD (l3 ++ numsF 4 (List.take i [t.ki, t.st, t.ex])), I64d i] ∧ i ≤ 3) (fun xs => 3 - (xs.getD 1 default).toI.toNat) ⟨0, by (rw [List.take_zero]; simp only [numsF, List.append_nil] <;> rfl), by omega⟩ ?_
  simp only [AllSh]
  intro _ _ n _ _ ⟨i, hq, hi⟩
  simp only [List.cons.injEq, D.int.injEq, D.lst.injEq, true_and, and_true] at hq
  obtain ⟨rfl, rfl⟩ := hq
  (try simp only [dN])
  refine den_ite (fun h3 => ?_) (fun h3 => ?_)
  · simp only [dF, dE] at h3
    have hi' : i < 3 := by omega
    have hw : IntKind.wrap .i64 ((i : Int) + 1) = ((i + 1 : Nat) : Int) := by rw [wrap_i64 (by omega) (by omega)]; omega
    have hwt : IntKind.wrap .i64 ((i : Int) + 4) = 4 + (i : Int) := by rw [wrap_i64 (by omega) (by omega)]; omega
    have hg : ([I64d t.ki, I64d t.st, I64d t.ex] : List D).getD i default = I64d ([t.ki, t.st, t.ex].getD i 0) := getD_map (g := I64d) (l := [t.ki, t.st, t.ex]) 0 hi'
    have hin : in64 ([t.ki, t.st, t.ex].getD i 0) := all_get (p := in64) [t.ki, t.st, t.ex] i hi' ⟨h.ki, h.st, h.ex, trivial⟩
    have hln := numsF_len 4 (List.take i [t.ki, t.st, t.ex])
    rw [List.length_take] at hln
    refine den_ev (evs_ob (by simp only [dF, dE]; omega) (evs_ob (by simp only [dF, dE]; omega) (evs_nil ?_)))
    refine den_cal [fsD (l3 ++ numsF 4 (List.take (i + 1) [t.ki, t.st, t.ex]))] rfl (fun_as (mrnum_fn (l3 ++ numsF 4 (List.take i [t.ki, t.st, t.ex])) (4 + i) ([t.ki, t.st, t.ex].getD i 0) hin (by (try simp only [List.length_append]); omega)) (by rw [numsF_step (l := [t.ki, t.st, t.ex]) hi'] <;> (try rw [List.append_assoc]) <;> rfl)) (by simp only [dF, dE, hwt, hg] <;> rfl) rfl ?_
    refine den_back rfl ⟨i + 1, (by simp only [dF, dE]; rw [hw]), by omega⟩ (by simp only []; simp only [dF, dE]; rw [hw]; omega)
  · simp only [dF, dE] at h3
    have hik : i = 3 := by omega
    subst hik
    have hf : l3 ++ numsF 4 (List.take 3 [t.ki, t.st, t.ex]) = fldT t := by (rw [hl3, hl2, hl1, hl0]; rfl)
    rw [hf]
    refine den_cal [bD (putB (fldT t))] rfl (mrbytes_fn (fldT t) (by have := fldT_len t; omega) (fun x hx => by have := fldT_data hs x hx; omega)) rfl rfl ?_
    exact den_ret rfl
theorem encprof_fn (p : Prof) (h : PrT p) (h1 : p.tx.size ≤ 200) (h2 : p.pe.length ≤ 40) : Fun Tryz.prog [] 35 [tPr] [.rc (prL p)] [tY] (.ok [bD (putB (fldP p))]) := by
  refine M26.encprof_ent _ _ ?_
  show M26.vcencprof.den _ _ _ _ _
  unfold M26.vcencprof
  refine den_loop (fun xs => ∃ i : Nat, xs = [fsD (numsF 1 (List.take i [p.id, p.lv, p.pu, p.ki, p.co])), I64d i] ∧ i ≤ 5) (fun xs => 5 - (xs.getD 1 default).toI.toNat) ⟨0, by (rw [List.take_zero]; simp only [numsF, List.append_nil] <;> rfl), by omega⟩ ?_
  simp only [AllSh]
  intro _ _ n _ _ ⟨i, hq, hi⟩
  simp only [List.cons.injEq, D.int.injEq, D.lst.injEq, true_and, and_true] at hq
  obtain ⟨rfl, rfl⟩ := hq
  (try simp only [dN])
  refine den_ite (fun h3 => ?_) (fun h3 => ?_)
  · simp only [dF, dE] at h3
    have hi' : i < 5 := by omega
    have hw : IntKind.wrap .i64 ((i : Int) + 1) = ((i + 1 : Nat) : Int) := by rw [wrap_i64 (by omega) (by omega)]; omega
    have hwt : IntKind.wrap .i64 ((i : Int) + 1) = 1 + (i : Int) := by rw [wrap_i64 (by omega) (by omega)]; omega
    have hg : ([I64d p.id, I64d p.lv, I64d p.pu, I64d p.ki, I64d p.co] : List D).getD i default = I64d ([p.id, p.lv, p.pu, p.ki, p.co].getD i 0) := getD_map (g := I64d) (l := [p.id, p.lv, p.pu, p.ki, p.co]) 0 hi'
    have hin : in64 ([p.id, p.lv, p.pu, p.ki, p.co].getD i 0) := all_get (p := in64) [p.id, p.lv, p.pu, p.ki, p.co] i hi' ⟨h.id, h.lv, h.pu, h.ki, h.co, trivial⟩
    have hln := numsF_len 1 (List.take i [p.id, p.lv, p.pu, p.ki, p.co])
    rw [List.length_take] at hln
    refine den_ev (evs_ob (by simp only [dF, dE]; omega) (evs_ob (by simp only [dF, dE]; omega) (evs_nil ?_)))
    refine den_cal [fsD (numsF 1 (List.take (i + 1) [p.id, p.lv, p.pu, p.ki, p.co]))] rfl (fun_as (mrnum_fn (numsF 1 (List.take i [p.id, p.lv, p.pu, p.ki, p.co])) (1 + i) ([p.id, p.lv, p.pu, p.ki, p.co].getD i 0) hin (by (try simp only [List.length_append]); omega)) (by rw [numsF_step (l := [p.id, p.lv, p.pu, p.ki, p.co]) hi'] <;> (try rw [List.append_assoc]) <;> rfl)) (by simp only [dF, dE, hwt, hg] <;> rfl) rfl ?_
    refine den_back rfl ⟨i + 1, (by simp only [dF, dE]; rw [hw]), by omega⟩ (by simp only []; simp only [dF, dE]; rw [hw]; omega)
  · simp only [dF, dE] at h3
    have hik : i = 5 := by omega
    subst hik
    have a1 := numsF_len 1 (List.take 5 [p.id, p.lv, p.pu, p.ki, p.co])
    have a1' : (List.take 5 [p.id, p.lv, p.pu, p.ki, p.co]).length ≤ 5 := Nat.le_refl _
    have a2 := txtF_len 6 p.tx
    obtain ⟨l1, hl1⟩ : ∃ l : List Fld, l = numsF 1 (List.take 5 [p.id, p.lv, p.pu, p.ki, p.co]) := ⟨_, rfl⟩
    have bl1 : l1.length ≤ 5 := by rw [hl1]; (try simp only [List.length_append, List.length_nil]); omega
    rw [← hl1]
    obtain ⟨l2, hl2⟩ : ∃ l : List Fld, l = l1 ++ txtF 6 p.tx := ⟨_, rfl⟩
    have bl2 : l2.length ≤ 6 := by rw [hl2]; (try simp only [List.length_append, List.length_nil]); omega
    refine den_cal [fsD l2] rfl (fun_as (mrtext_fn l1 6 p.tx (by omega)) (by rw [hl2] <;> rfl)) rfl rfl ?_
    (try simp only [dN])
    refine den_loop (fun xs => ∃ i : Nat, xs = [fsD (l2 ++ numsF 7 (List.take i [p.fr, p.to, p.st, p.du])), I64d i] ∧ i ≤ 4) (fun xs => 4 - (xs.getD 1 default).toI.toNat) ⟨0, by (rw [List.take_zero]; simp only [numsF, List.append_nil] <;> rfl), by omega⟩ ?_
    simp only [AllSh]
    intro _ _ n _ _ ⟨i, hq, hi⟩
    simp only [List.cons.injEq, D.int.injEq, D.lst.injEq, true_and, and_true] at hq
    obtain ⟨rfl, rfl⟩ := hq
    (try simp only [dN])
    refine den_ite (fun h3 => ?_) (fun h3 => ?_)
    · simp only [dF, dE] at h3
      have hi' : i < 4 := by omega
      have hw : IntKind.wrap .i64 ((i : Int) + 1) = ((i + 1 : Nat) : Int) := by rw [wrap_i64 (by omega) (by omega)]; omega
      have hwt : IntKind.wrap .i64 ((i : Int) + 7) = 7 + (i : Int) := by rw [wrap_i64 (by omega) (by omega)]; omega
      have hg : ([I64d p.fr, I64d p.to, I64d p.st, I64d p.du] : List D).getD i default = I64d ([p.fr, p.to, p.st, p.du].getD i 0) := getD_map (g := I64d) (l := [p.fr, p.to, p.st, p.du]) 0 hi'
      have hin : in64 ([p.fr, p.to, p.st, p.du].getD i 0) := all_get (p := in64) [p.fr, p.to, p.st, p.du] i hi' ⟨h.fr, h.to, h.st, h.du, trivial⟩
      have hln := numsF_len 7 (List.take i [p.fr, p.to, p.st, p.du])
      rw [List.length_take] at hln
      refine den_ev (evs_ob (by simp only [dF, dE]; omega) (evs_ob (by simp only [dF, dE]; omega) (evs_nil ?_)))
      refine den_cal [fsD (l2 ++ numsF 7 (List.take (i + 1) [p.fr, p.to, p.st, p.du]))] rfl (fun_as (mrnum_fn (l2 ++ numsF 7 (List.take i [p.fr, p.to, p.st, p.du])) (7 + i) ([p.fr, p.to, p.st, p.du].getD i 0) hin (by (try simp only [List.length_append]); omega)) (by rw [numsF_step (l := [p.fr, p.to, p.st, p.du]) hi'] <;> (try rw [List.append_assoc]) <;> rfl)) (by simp only [dF, dE, hwt, hg] <;> rfl) rfl ?_
      refine den_back rfl ⟨i + 1, (by simp only [dF, dE]; rw [hw]), by omega⟩ (by simp only []; simp only [dF, dE]; rw [hw]; omega)
    · simp only [dF, dE] at h3
      have hik : i = 4 := by omega
      subst hik
      have a3 := numsF_len 7 (List.take 4 [p.fr, p.to, p.st, p.du])
      have a3' : (List.take 4 [p.fr, p.to, p.st, p.du]).length ≤ 4 := Nat.le_refl _
      obtain ⟨l3, hl3⟩ : ∃ l : List Fld, l = l2 ++ numsF 7 (List.take 4 [p.fr, p.to, p.st, p.du]) := ⟨_, rfl⟩
      have bl3 : l3.length ≤ 10 := by rw [hl3]; (try simp only [List.length_append, List.length_nil]); omega
      rw [← hl3]
      refine den_loop (fun xs => ∃ i : Nat, xs = [bbD (rdP (p.pe.take i)), I64d i] ∧ i ≤ p.pe.length) (fun xs => p.pe.length - (xs.getD 1 default).toI.toNat) ⟨0, rfl, by omega⟩ ?_
      simp only [AllSh]
      intro _ _ n _ _ ⟨i, hq, hi⟩
      simp only [List.cons.injEq, D.int.injEq, D.lst.injEq, true_and, and_true] at hq
      obtain ⟨rfl, rfl⟩ := hq
      (try simp only [dN])
      refine den_ite (fun h3 => ?_) (fun h3 => ?_)
      · simp only [dF, dE] at h3
        have hi' : i < p.pe.length := by omega
        have hw : IntKind.wrap .i64 ((i : Int) + 1) = ((i + 1 : Nat) : Int) := by rw [wrap_i64 (by omega) (by omega)]; omega
        have hg := getD_map (g := rD) (0, 0) hi'
        have hx := h.pe.2 _ (mem_getD (0, 0) hi')
        have hLi := rdP_len (p.pe.take i)
        rw [List.length_take] at hLi
        refine den_ev (evs_ob (by simp only [dF, dE]; omega) (evs_ob (by simp only [dF, dE]; omega) (evs_nil ?_)))
        refine den_ev (evs_call [bD (putS (p.pe.getD i (0, 0)).1)] rfl (putint_fn (p.pe.getD i (0, 0)).1 hx.1) (by simp only [dF, dE, hg]) rfl (evs_call [bD (putS (p.pe.getD i (0, 0)).2)] rfl (putint_fn (p.pe.getD i (0, 0)).2 hx.2) (by simp only [dF, dE, hg]) rfl (evs_ob (by simp only [dF, dE]; omega) (evs_nil ?_))))
        refine den_back rfl ⟨i + 1, ?_, by omega⟩ (by simp only []; simp only [dF, dE]; rw [hw]; omega)
        simp only [dF, dE]
        rw [hw, take_get (0, 0) hi']
        simp [rdP, pairL]
      · simp only [dF, dE] at h3
        have hi' : i = p.pe.length := by omega
        subst hi'
        rw [List.take_length]
        have hL := rdP_len p.pe
        have a4 := listF_len 11 (rdP p.pe)
        have hf : l3 ++ listF 11 (rdP p.pe) = fldP p := by (rw [hl3, hl2, hl1]; rfl)
        refine den_cal [fsD (fldP p)] rfl (fun_as (mritems_fn l3 11 (rdP p.pe) (by omega) (by omega) (fun x hx => by have := rdP_small p.pe x hx; omega)) (by rw [hf] <;> rfl)) rfl rfl ?_
        refine den_cal [bD (putB (fldP p))] rfl (mrbytes_fn (fldP p) (by have := fldP_len p; omega) (fun x hx => by have := fldP_data h1 h2 x hx; omega)) rfl rfl ?_
        exact den_ret rfl
set_option maxHeartbeats 1000000 in
theorem encoded_fn (m : Msg) (h : MsT m) (hs : SmM m) (hr : m.rd.length ≤ 64) : Fun Tryz.prog [] 14 [tM] [msD m] [tY] (.ok [bD (byM m)]) := by
  refine M26.encoded_ent _ _ ?_
  show M26.vcencoded.den _ _ _ _ _
  unfold M26.vcencoded
  refine den_loop (fun xs => ∃ i : Nat, xs = [fsD (numsF 1 (List.take i [m.ki, m.id, m.ac, m.co, m.st, m.sq, m.at', m.va])), I64d i] ∧ i ≤ 8) (fun xs => 8 - (xs.getD 1 default).toI.toNat) ⟨0, by (rw [List.take_zero]; simp only [numsF, List.append_nil] <;> rfl), by omega⟩ ?_
  simp only [AllSh]
  intro _ _ n _ _ ⟨i, hq, hi⟩
  simp only [List.cons.injEq, D.int.injEq, D.lst.injEq, true_and, and_true] at hq
  obtain ⟨rfl, rfl⟩ := hq
  (try simp only [dN])
  refine den_ite (fun h3 => ?_) (fun h3 => ?_)
  · simp only [dF, dE] at h3
    have hi' : i < 8 := by omega
    have hw : IntKind.wrap .i64 ((i : Int) + 1) = ((i + 1 : Nat) : Int) := by rw [wrap_i64 (by omega) (by omega)]; omega
    have hwt : IntKind.wrap .i64 ((i : Int) + 1) = 1 + (i : Int) := by rw [wrap_i64 (by omega) (by omega)]; omega
    have hg : ([I64d m.ki, I64d m.id, I64d m.ac, I64d m.co, I64d m.st, I64d m.sq, I64d m.at', I64d m.va] : List D).getD i default = I64d ([m.ki, m.id, m.ac, m.co, m.st, m.sq, m.at', m.va].getD i 0) := getD_map (g := I64d) (l := [m.ki, m.id, m.ac, m.co, m.st, m.sq, m.at', m.va]) 0 hi'
    have hin : in64 ([m.ki, m.id, m.ac, m.co, m.st, m.sq, m.at', m.va].getD i 0) := all_get (p := in64) [m.ki, m.id, m.ac, m.co, m.st, m.sq, m.at', m.va] i hi' ⟨h.ki, h.id, h.ac, h.co, h.st, h.sq, h.at', h.va, trivial⟩
    have hln := numsF_len 1 (List.take i [m.ki, m.id, m.ac, m.co, m.st, m.sq, m.at', m.va])
    rw [List.length_take] at hln
    refine den_ev (evs_ob (by simp only [dF, dE]; omega) (evs_ob (by simp only [dF, dE]; omega) (evs_nil ?_)))
    refine den_cal [fsD (numsF 1 (List.take (i + 1) [m.ki, m.id, m.ac, m.co, m.st, m.sq, m.at', m.va]))] rfl (fun_as (mrnum_fn (numsF 1 (List.take i [m.ki, m.id, m.ac, m.co, m.st, m.sq, m.at', m.va])) (1 + i) ([m.ki, m.id, m.ac, m.co, m.st, m.sq, m.at', m.va].getD i 0) hin (by (try simp only [List.length_append]); omega)) (by rw [numsF_step (l := [m.ki, m.id, m.ac, m.co, m.st, m.sq, m.at', m.va]) hi'] <;> (try rw [List.append_assoc]) <;> rfl)) (by simp only [dF, dE, hwt, hg] <;> rfl) rfl ?_
    refine den_back rfl ⟨i + 1, (by simp only [dF, dE]; rw [hw]), by omega⟩ (by simp only []; simp only [dF, dE]; rw [hw]; omega)
  · simp only [dF, dE] at h3
    have hik : i = 8 := by omega
    subst hik
    have a1 := numsF_len 1 (List.take 8 [m.ki, m.id, m.ac, m.co, m.st, m.sq, m.at', m.va])
    have a1' : (List.take 8 [m.ki, m.id, m.ac, m.co, m.st, m.sq, m.at', m.va]).length ≤ 8 := Nat.le_refl _
    have a2 := txtF_len 9 m.tx
    have a3 := txtF_len 10 m.tk
    have a4 := txtF_len 11 m.te
    obtain ⟨l1, hl1⟩ : ∃ l : List Fld, l = numsF 1 (List.take 8 [m.ki, m.id, m.ac, m.co, m.st, m.sq, m.at', m.va]) := ⟨_, rfl⟩
    have bl1 : l1.length ≤ 8 := by rw [hl1]; (try simp only [List.length_append, List.length_nil]); omega
    rw [← hl1]
    obtain ⟨l2, hl2⟩ : ∃ l : List Fld, l = l1 ++ txtF 9 m.tx := ⟨_, rfl⟩
    have bl2 : l2.length ≤ 9 := by rw [hl2]; (try simp only [List.length_append, List.length_nil]); omega
    refine den_cal [fsD l2] rfl (fun_as (mrtext_fn l1 9 m.tx (by omega)) (by rw [hl2] <;> rfl)) rfl rfl ?_
    (try simp only [dN])
    obtain ⟨l3, hl3⟩ : ∃ l : List Fld, l = l2 ++ txtF 10 m.tk := ⟨_, rfl⟩
    have bl3 : l3.length ≤ 10 := by rw [hl3]; (try simp only [List.length_append, List.length_nil]); omega
    refine den_cal [fsD l3] rfl (fun_as (mrtext_fn l2 10 m.tk (by omega)) (by rw [hl3] <;> rfl)) rfl rfl ?_
    (try simp only [dN])
    obtain ⟨l4, hl4⟩ : ∃ l : List Fld, l = l3 ++ txtF 11 m.te := ⟨_, rfl⟩
    have bl4 : l4.length ≤ 11 := by rw [hl4]; (try simp only [List.length_append, List.length_nil]); omega
    refine den_cal [fsD l4] rfl (fun_as (mrtext_fn l3 11 m.te (by omega)) (by rw [hl4] <;> rfl)) rfl rfl ?_
    (try simp only [dN])
    refine den_ite (fun hf => ?_) (fun hf => ?_)
    · have hff : m.off = true := hf
      have a5 := numF_len 12 1
      obtain ⟨l5, hl5⟩ : ∃ l : List Fld, l = l4 ++ numF 12 1 := ⟨_, rfl⟩
      have bl5 : l5.length ≤ 12 := by rw [hl5]; (try simp only [List.length_append, List.length_nil]); omega
      refine den_cal [fsD l5] rfl (fun_as (mrnum_fn l4 12 1 (by unfold in64; omega) (by omega)) (by rw [hl5] <;> rfl)) rfl rfl ?_
      (try simp only [dN])
      refine den_loop (fun xs => ∃ i : Nat, xs = [bbD (rdP (m.rd.take i)), I64d i] ∧ i ≤ m.rd.length) (fun xs => m.rd.length - (xs.getD 1 default).toI.toNat) ⟨0, rfl, by omega⟩ ?_
      simp only [AllSh]
      intro _ _ n _ _ ⟨i, hq, hi⟩
      simp only [List.cons.injEq, D.int.injEq, D.lst.injEq, true_and, and_true] at hq
      obtain ⟨rfl, rfl⟩ := hq
      (try simp only [dN])
      refine den_ite (fun h3 => ?_) (fun h3 => ?_)
      · simp only [dF, dE] at h3
        have hi' : i < m.rd.length := by omega
        have hw : IntKind.wrap .i64 ((i : Int) + 1) = ((i + 1 : Nat) : Int) := by rw [wrap_i64 (by omega) (by omega)]; omega
        have hg := getD_map (g := rD) (0, 0) hi'
        have hx := h.rd.2 _ (mem_getD (0, 0) hi')
        have hLi := rdP_len (m.rd.take i)
        rw [List.length_take] at hLi
        refine den_ev (evs_ob (by simp only [dF, dE]; omega) (evs_ob (by simp only [dF, dE]; omega) (evs_nil ?_)))
        refine den_ev (evs_call [bD (putS (m.rd.getD i (0, 0)).1)] rfl (putint_fn (m.rd.getD i (0, 0)).1 hx.1) (by simp only [dF, dE, hg]) rfl (evs_call [bD (putS (m.rd.getD i (0, 0)).2)] rfl (putint_fn (m.rd.getD i (0, 0)).2 hx.2) (by simp only [dF, dE, hg]) rfl (evs_ob (by simp only [dF, dE]; omega) (evs_nil ?_))))
        refine den_back rfl ⟨i + 1, ?_, by omega⟩ (by simp only []; simp only [dF, dE]; rw [hw]; omega)
        simp only [dF, dE]
        rw [hw, take_get (0, 0) hi']
        simp [rdP, pairL]
      · simp only [dF, dE] at h3
        have hi' : i = m.rd.length := by omega
        subst hi'
        rw [List.take_length]
        have hL := rdP_len m.rd
        have hrl := hr
        have a6 := listF_len 13 (rdP m.rd)
        obtain ⟨l6, hl6⟩ : ∃ l : List Fld, l = l5 ++ listF 13 (rdP m.rd) := ⟨_, rfl⟩
        have bl6 : l6.length ≤ 13 := by rw [hl6]; (try simp only [List.length_append, List.length_nil]); omega
        refine den_cal [fsD l6] rfl (fun_as (mritems_fn l5 13 (rdP m.rd) (by omega) (by omega) (fun x hx => by have := rdP_small m.rd x hx; omega)) (by rw [hl6] <;> rfl)) rfl rfl ?_
        refine den_cal [bD (putB (fldP m.p))] rfl (encprof_fn m.p h.p hs.ptx hs.pe) rfl rfl ?_
        (try simp only [dN])
        refine den_ite (fun h4 => ?_) (fun h4 => ?_)
        · simp only [dF, dE] at h4
          have hpn : putB (fldP m.p) ≠ [] := fun e => by rw [e] at h4; simp at h4
          refine den_ev (evs_ob (by simp only [dF, dE]; omega) (evs_nil ?_))
          have hz := hs.tks
          refine den_loop (fun xs => ∃ i : Nat, xs = [bbD ((m.tks.take i).map tokB), I64d i] ∧ i ≤ m.tks.length) (fun xs => m.tks.length - (xs.getD 1 default).toI.toNat) ⟨0, rfl, by omega⟩ ?_
          simp only [AllSh]
          intro _ _ n _ _ ⟨i, hq, hi⟩
          simp only [List.cons.injEq, D.int.injEq, D.lst.injEq, true_and, and_true] at hq
          obtain ⟨rfl, rfl⟩ := hq
          (try simp only [dN])
          refine den_ite (fun h3 => ?_) (fun h3 => ?_)
          · simp only [dF, dE] at h3
            have hi' : i < m.tks.length := by omega
            have hw : IntKind.wrap .i64 ((i : Int) + 1) = ((i + 1 : Nat) : Int) := by rw [wrap_i64 (by omega) (by omega)]; omega
            have hg := getD_map (g := tkD) tok0 hi'
            have hm' := mem_getD tok0 hi'
            have hLi : (m.tks.take i).length ≤ 131 := by rw [List.length_take]; omega
            refine den_ev (evs_ob (by simp only [dF, dE]; omega) (evs_ob (by simp only [dF, dE]; omega) (evs_nil ?_)))
            refine den_cal [bD (tokB (m.tks.getD i tok0))] rfl (enctok_fn (m.tks.getD i tok0) (h.tks _ hm') (tks_S hs hm')) (by simp only [dF, dE, hg]) rfl ?_
            refine den_ev (evs_ob (by simp only [dF, dE]; omega) (evs_nil ?_))
            refine den_back rfl ⟨i + 1, ?_, by omega⟩ (by simp only []; simp only [dF, dE]; rw [hw]; omega)
            simp only [dF, dE]
            rw [hw, take_get tok0 hi']
            simp
          · simp only [dF, dE] at h3
            have hi' : i = m.tks.length := by omega
            subst hi'
            rw [List.take_length]
            have a8 := listF_len 15 (m.tks.map tokB)
            have hf : l6 ++ [(14, putB (fldP m.p))] ++ listF 15 (m.tks.map tokB) = fldM m := by (unfold fldM prfF flagF; rw [if_neg hpn, hff]; simp only [hl6, hl5, hl4, hl3, hl2, hl1, numF, if_true, if_false, Bool.false_eq_true, List.nil_append, List.append_assoc, List.append_nil, List.take]; try rfl)
            refine den_cal [fsD (fldM m)] rfl (fun_as (mritems_fn (l6 ++ [(14, putB (fldP m.p))]) 15 (m.tks.map tokB) (by (try simp only [List.length_append, List.length_cons, List.length_nil]); omega) (by rw [List.length_map]; omega) (fun x hx => by have := tksB_len hs x hx; omega)) (by rw [hf] <;> rfl)) (by simp only [dF, dE] <;> simp) rfl ?_
            refine den_cal [bD (putB (fldM m))] rfl (mrbytes_fn (fldM m) (by have := fldM_len m; omega) (fun x hx => by have := fldM_data hs x hx; omega)) rfl rfl ?_
            exact den_ret rfl
        · simp only [dF, dE] at h4
          have hpn : putB (fldP m.p) = [] := List.length_eq_zero_iff.1 (by omega)
          have hz := hs.tks
          refine den_loop (fun xs => ∃ i : Nat, xs = [bbD ((m.tks.take i).map tokB), I64d i] ∧ i ≤ m.tks.length) (fun xs => m.tks.length - (xs.getD 1 default).toI.toNat) ⟨0, rfl, by omega⟩ ?_
          simp only [AllSh]
          intro _ _ n _ _ ⟨i, hq, hi⟩
          simp only [List.cons.injEq, D.int.injEq, D.lst.injEq, true_and, and_true] at hq
          obtain ⟨rfl, rfl⟩ := hq
          (try simp only [dN])
          refine den_ite (fun h3 => ?_) (fun h3 => ?_)
          · simp only [dF, dE] at h3
            have hi' : i < m.tks.length := by omega
            have hw : IntKind.wrap .i64 ((i : Int) + 1) = ((i + 1 : Nat) : Int) := by rw [wrap_i64 (by omega) (by omega)]; omega
            have hg := getD_map (g := tkD) tok0 hi'
            have hm' := mem_getD tok0 hi'
            have hLi : (m.tks.take i).length ≤ 131 := by rw [List.length_take]; omega
            refine den_ev (evs_ob (by simp only [dF, dE]; omega) (evs_ob (by simp only [dF, dE]; omega) (evs_nil ?_)))
            refine den_cal [bD (tokB (m.tks.getD i tok0))] rfl (enctok_fn (m.tks.getD i tok0) (h.tks _ hm') (tks_S hs hm')) (by simp only [dF, dE, hg]) rfl ?_
            refine den_ev (evs_ob (by simp only [dF, dE]; omega) (evs_nil ?_))
            refine den_back rfl ⟨i + 1, ?_, by omega⟩ (by simp only []; simp only [dF, dE]; rw [hw]; omega)
            simp only [dF, dE]
            rw [hw, take_get tok0 hi']
            simp
          · simp only [dF, dE] at h3
            have hi' : i = m.tks.length := by omega
            subst hi'
            rw [List.take_length]
            have a8 := listF_len 15 (m.tks.map tokB)
            have hf : l6 ++ listF 15 (m.tks.map tokB) = fldM m := by (unfold fldM prfF flagF; rw [if_pos hpn, hff]; simp only [hl6, hl5, hl4, hl3, hl2, hl1, numF, if_true, if_false, Bool.false_eq_true, List.nil_append, List.append_assoc, List.append_nil, List.take]; try rfl)
            refine den_cal [fsD (fldM m)] rfl (fun_as (mritems_fn (l6) 15 (m.tks.map tokB) (by (try simp only [List.length_append, List.length_cons, List.length_nil]); omega) (by rw [List.length_map]; omega) (fun x hx => by have := tksB_len hs x hx; omega)) (by rw [hf] <;> rfl)) (by simp only [dF, dE] <;> simp) rfl ?_
            refine den_cal [bD (putB (fldM m))] rfl (mrbytes_fn (fldM m) (by have := fldM_len m; omega) (fun x hx => by have := fldM_data hs x hx; omega)) rfl rfl ?_
            exact den_ret rfl
    · have hff : m.off = false := hf
      refine den_loop (fun xs => ∃ i : Nat, xs = [bbD (rdP (m.rd.take i)), I64d i] ∧ i ≤ m.rd.length) (fun xs => m.rd.length - (xs.getD 1 default).toI.toNat) ⟨0, rfl, by omega⟩ ?_
      simp only [AllSh]
      intro _ _ n _ _ ⟨i, hq, hi⟩
      simp only [List.cons.injEq, D.int.injEq, D.lst.injEq, true_and, and_true] at hq
      obtain ⟨rfl, rfl⟩ := hq
      (try simp only [dN])
      refine den_ite (fun h3 => ?_) (fun h3 => ?_)
      · simp only [dF, dE] at h3
        have hi' : i < m.rd.length := by omega
        have hw : IntKind.wrap .i64 ((i : Int) + 1) = ((i + 1 : Nat) : Int) := by rw [wrap_i64 (by omega) (by omega)]; omega
        have hg := getD_map (g := rD) (0, 0) hi'
        have hx := h.rd.2 _ (mem_getD (0, 0) hi')
        have hLi := rdP_len (m.rd.take i)
        rw [List.length_take] at hLi
        refine den_ev (evs_ob (by simp only [dF, dE]; omega) (evs_ob (by simp only [dF, dE]; omega) (evs_nil ?_)))
        refine den_ev (evs_call [bD (putS (m.rd.getD i (0, 0)).1)] rfl (putint_fn (m.rd.getD i (0, 0)).1 hx.1) (by simp only [dF, dE, hg]) rfl (evs_call [bD (putS (m.rd.getD i (0, 0)).2)] rfl (putint_fn (m.rd.getD i (0, 0)).2 hx.2) (by simp only [dF, dE, hg]) rfl (evs_ob (by simp only [dF, dE]; omega) (evs_nil ?_))))
        refine den_back rfl ⟨i + 1, ?_, by omega⟩ (by simp only []; simp only [dF, dE]; rw [hw]; omega)
        simp only [dF, dE]
        rw [hw, take_get (0, 0) hi']
        simp [rdP, pairL]
      · simp only [dF, dE] at h3
        have hi' : i = m.rd.length := by omega
        subst hi'
        rw [List.take_length]
        have hL := rdP_len m.rd
        have hrl := hr
        have a6 := listF_len 13 (rdP m.rd)
        obtain ⟨l6, hl6⟩ : ∃ l : List Fld, l = l4 ++ listF 13 (rdP m.rd) := ⟨_, rfl⟩
        have bl6 : l6.length ≤ 13 := by rw [hl6]; (try simp only [List.length_append, List.length_nil]); omega
        refine den_cal [fsD l6] rfl (fun_as (mritems_fn l4 13 (rdP m.rd) (by omega) (by omega) (fun x hx => by have := rdP_small m.rd x hx; omega)) (by rw [hl6] <;> rfl)) rfl rfl ?_
        refine den_cal [bD (putB (fldP m.p))] rfl (encprof_fn m.p h.p hs.ptx hs.pe) rfl rfl ?_
        (try simp only [dN])
        refine den_ite (fun h4 => ?_) (fun h4 => ?_)
        · simp only [dF, dE] at h4
          have hpn : putB (fldP m.p) ≠ [] := fun e => by rw [e] at h4; simp at h4
          refine den_ev (evs_ob (by simp only [dF, dE]; omega) (evs_nil ?_))
          have hz := hs.tks
          refine den_loop (fun xs => ∃ i : Nat, xs = [bbD ((m.tks.take i).map tokB), I64d i] ∧ i ≤ m.tks.length) (fun xs => m.tks.length - (xs.getD 1 default).toI.toNat) ⟨0, rfl, by omega⟩ ?_
          simp only [AllSh]
          intro _ _ n _ _ ⟨i, hq, hi⟩
          simp only [List.cons.injEq, D.int.injEq, D.lst.injEq, true_and, and_true] at hq
          obtain ⟨rfl, rfl⟩ := hq
          (try simp only [dN])
          refine den_ite (fun h3 => ?_) (fun h3 => ?_)
          · simp only [dF, dE] at h3
            have hi' : i < m.tks.length := by omega
            have hw : IntKind.wrap .i64 ((i : Int) + 1) = ((i + 1 : Nat) : Int) := by rw [wrap_i64 (by omega) (by omega)]; omega
            have hg := getD_map (g := tkD) tok0 hi'
            have hm' := mem_getD tok0 hi'
            have hLi : (m.tks.take i).length ≤ 131 := by rw [List.length_take]; omega
            refine den_ev (evs_ob (by simp only [dF, dE]; omega) (evs_ob (by simp only [dF, dE]; omega) (evs_nil ?_)))
            refine den_cal [bD (tokB (m.tks.getD i tok0))] rfl (enctok_fn (m.tks.getD i tok0) (h.tks _ hm') (tks_S hs hm')) (by simp only [dF, dE, hg]) rfl ?_
            refine den_ev (evs_ob (by simp only [dF, dE]; omega) (evs_nil ?_))
            refine den_back rfl ⟨i + 1, ?_, by omega⟩ (by simp only []; simp only [dF, dE]; rw [hw]; omega)
            simp only [dF, dE]
            rw [hw, take_get tok0 hi']
            simp
          · simp only [dF, dE] at h3
            have hi' : i = m.tks.length := by omega
            subst hi'
            rw [List.take_length]
            have a8 := listF_len 15 (m.tks.map tokB)
            have hf : l6 ++ [(14, putB (fldP m.p))] ++ listF 15 (m.tks.map tokB) = fldM m := by (unfold fldM prfF flagF; rw [if_neg hpn, hff]; simp only [hl6, hl4, hl3, hl2, hl1, if_true, if_false, Bool.false_eq_true, List.nil_append, List.append_assoc, List.append_nil, List.take]; try rfl)
            refine den_cal [fsD (fldM m)] rfl (fun_as (mritems_fn (l6 ++ [(14, putB (fldP m.p))]) 15 (m.tks.map tokB) (by (try simp only [List.length_append, List.length_cons, List.length_nil]); omega) (by rw [List.length_map]; omega) (fun x hx => by have := tksB_len hs x hx; omega)) (by rw [hf] <;> rfl)) (by simp only [dF, dE] <;> simp) rfl ?_
            refine den_cal [bD (putB (fldM m))] rfl (mrbytes_fn (fldM m) (by have := fldM_len m; omega) (fun x hx => by have := fldM_data hs x hx; omega)) rfl rfl ?_
            exact den_ret rfl
        · simp only [dF, dE] at h4
          have hpn : putB (fldP m.p) = [] := List.length_eq_zero_iff.1 (by omega)
          have hz := hs.tks
          refine den_loop (fun xs => ∃ i : Nat, xs = [bbD ((m.tks.take i).map tokB), I64d i] ∧ i ≤ m.tks.length) (fun xs => m.tks.length - (xs.getD 1 default).toI.toNat) ⟨0, rfl, by omega⟩ ?_
          simp only [AllSh]
          intro _ _ n _ _ ⟨i, hq, hi⟩
          simp only [List.cons.injEq, D.int.injEq, D.lst.injEq, true_and, and_true] at hq
          obtain ⟨rfl, rfl⟩ := hq
          (try simp only [dN])
          refine den_ite (fun h3 => ?_) (fun h3 => ?_)
          · simp only [dF, dE] at h3
            have hi' : i < m.tks.length := by omega
            have hw : IntKind.wrap .i64 ((i : Int) + 1) = ((i + 1 : Nat) : Int) := by rw [wrap_i64 (by omega) (by omega)]; omega
            have hg := getD_map (g := tkD) tok0 hi'
            have hm' := mem_getD tok0 hi'
            have hLi : (m.tks.take i).length ≤ 131 := by rw [List.length_take]; omega
            refine den_ev (evs_ob (by simp only [dF, dE]; omega) (evs_ob (by simp only [dF, dE]; omega) (evs_nil ?_)))
            refine den_cal [bD (tokB (m.tks.getD i tok0))] rfl (enctok_fn (m.tks.getD i tok0) (h.tks _ hm') (tks_S hs hm')) (by simp only [dF, dE, hg]) rfl ?_
            refine den_ev (evs_ob (by simp only [dF, dE]; omega) (evs_nil ?_))
            refine den_back rfl ⟨i + 1, ?_, by omega⟩ (by simp only []; simp only [dF, dE]; rw [hw]; omega)
            simp only [dF, dE]
            rw [hw, take_get tok0 hi']
            simp
          · simp only [dF, dE] at h3
            have hi' : i = m.tks.length := by omega
            subst hi'
            rw [List.take_length]
            have a8 := listF_len 15 (m.tks.map tokB)
            have hf : l6 ++ listF 15 (m.tks.map tokB) = fldM m := by (unfold fldM prfF flagF; rw [if_pos hpn, hff]; simp only [hl6, hl4, hl3, hl2, hl1, if_true, if_false, Bool.false_eq_true, List.nil_append, List.append_assoc, List.append_nil, List.take]; try rfl)
            refine den_cal [fsD (fldM m)] rfl (fun_as (mritems_fn (l6) 15 (m.tks.map tokB) (by (try simp only [List.length_append, List.length_cons, List.length_nil]); omega) (by rw [List.length_map]; omega) (fun x hx => by have := tksB_len hs x hx; omega)) (by rw [hf] <;> rfl)) (by simp only [dF, dE] <;> simp) rfl ?_
            refine den_cal [bD (putB (fldM m))] rfl (mrbytes_fn (fldM m) (by have := fldM_len m; omega) (fun x hx => by have := fldM_data hs x hx; omega)) rfl rfl ?_
            exact den_ret rfl

end Go.Proofs.YtfhdgaecclfccaaGreat.Y26
set_option maxRecDepth 100000
set_option linter.unusedSimpArgs false
set_option linter.unusedVariables false
namespace Go.Proofs.YtfhdgaecclfccaaGreat.Y26
open Go.Proofs.YtfhdgaecclfccaaGreat Go.Proofs.YtfhdgaecclfccaaGreat.Sy Go.Proofs.YtfhdgaecclfccaaGreat.L7 Go.Proofs.YtfhdgaecclfccaaGreat.Id Go.Proofs.YtfhdgaecclfccaaGreat.R26 Go.Proofs.YtfhdgaecclfccaaGreat.V26 Go.Proofs.YtfhdgaecclfccaaGreat.M26 Go.Proofs.YtfhdgaecclfccaaGreat.X26 Go.Proofs.YtfhdgaecclfccaaGreat.B26 Go.RowKit Go.WideShapes Go.ChangeShapes Go.ChangeAt
theorem numsF_isB : ∀ (t : Int) (l : List Int), AllP in64 l → ∀ x ∈ numsF t l, isB x.2
  | _, [], _, x, hx => by cases hx
  | t, n :: l, h, x, hx => by
    rcases List.mem_append.1 hx with hx | hx
    · exact numF_isB h.1 x hx
    · exact numsF_isB (t + 1) l h.2 x hx
theorem putB_isB {l : List Fld} (hb : ∀ x ∈ l, isB x.2) (hs : ∀ x ∈ l, x.2.length ≤ 1000000) : isB (putB l) := by
  unfold putB
  cases he : putF l with
  | ok b => exact (putF_isB hb hs he).1
  | error e => exact isB.nil
theorem fldT_isB {t : Tok} (h : TkT t) : ∀ x ∈ fldT t, isB x.2 := by
  intro x hx
  simp only [fldT, List.mem_append] at hx
  rcases hx with ((hx | hx) | hx) | hx
  · exact txtF_isB _ _ x hx
  · exact txtF_isB _ _ x hx
  · exact txtF_isB _ _ x hx
  · exact numsF_isB 4 [t.ki, t.st, t.ex] ⟨h.ki, h.st, h.ex, trivial⟩ x hx
theorem tokB_isB {t : Tok} (h : TkT t) (hs : TkS t) : isB (tokB t) := putB_isB (fldT_isB h) (fun x hx => by have := fldT_data hs x hx; omega)
theorem fldP_isB {p : Prof} (h : PrT p) (h2 : p.pe.length ≤ 40) : ∀ x ∈ fldP p, isB x.2 := by
  intro x hx
  have hL := rdP_len p.pe
  simp only [fldP, List.mem_append] at hx
  rcases hx with ((hx | hx) | hx) | hx
  · exact numsF_isB 1 [p.id, p.lv, p.pu, p.ki, p.co] ⟨h.id, h.lv, h.pu, h.ki, h.co, trivial⟩ x hx
  · exact txtF_isB _ _ x hx
  · exact numsF_isB 7 [p.fr, p.to, p.st, p.du] ⟨h.fr, h.to, h.st, h.du, trivial⟩ x hx
  · exact listF_isB (rdP_isB h.pe.2) (fun y hy => by have := rdP_small p.pe y hy; omega) (by omega) x hx
theorem prfB_isB {p : Prof} (h : PrT p) (h1 : p.tx.size ≤ 200) (h2 : p.pe.length ≤ 40) : isB (putB (fldP p)) := putB_isB (fldP_isB h h2) (fun x hx => by have := fldP_data h1 h2 x hx; omega)
theorem fldM_isB {m : Msg} (h : MsT m) (hs : SmM m) (hr : m.rd.length ≤ 64) : ∀ x ∈ fldM m, isB x.2 := by
  intro x hx
  have hL := rdP_len m.rd
  have z := hs.tks
  simp only [fldM, List.mem_append] at hx
  rcases hx with ((((((hx | hx) | hx) | hx) | hx) | hx) | hx) | hx
  · exact numsF_isB 1 [m.ki, m.id, m.ac, m.co, m.st, m.sq, m.at', m.va] ⟨h.ki, h.id, h.ac, h.co, h.st, h.sq, h.at', h.va, trivial⟩ x hx
  · exact txtF_isB _ _ x hx
  · exact txtF_isB _ _ x hx
  · exact txtF_isB _ _ x hx
  · exact flagF_isB _ _ x hx
  · exact listF_isB (rdP_isB h.rd.2) (fun y hy => by have := rdP_small m.rd y hy; omega) (by omega) x hx
  · unfold prfF at hx
    split at hx
    · cases hx
    · simp only [List.mem_singleton] at hx
      subst hx
      exact prfB_isB h.p hs.ptx hs.pe
  · refine listF_isB (fun y hy => ?_) (fun y hy => by have := tksB_len hs y hy; omega) (by rw [List.length_map]; omega) x hx
    obtain ⟨t, ht, rfl⟩ := List.mem_map.1 hy
    exact tokB_isB (h.tks t ht) (tks_S hs ht)
theorem byM_isB {m : Msg} (h : MsT m) (hs : SmM m) (hr : m.rd.length ≤ 64) : isB (byM m) := putB_isB (fldM_isB h hs hr) (fun x hx => by have := fldM_data hs x hx; omega)
theorem byM_len {m : Msg} (hs : SmM m) : (byM m).length ≤ 5000000 := by
  have a1 := putB_len (fldM_data hs)
  have a2 := fldM_len m
  have : (fldM m).length * (300000 + 20) ≤ 15 * 300020 := Nat.mul_le_mul a2 (Nat.le_refl _)
  unfold byM
  omega
theorem put_back {l : List Fld} (ha : Asc 0 l) (hl : l.length ≤ 256) (hs : ∀ x ∈ l, x.2.length ≤ 1000000) : takeF (putB l) = .ok l ∧ putF l = .ok (putB l) := by
  obtain ⟨r, hr⟩ := asc_put l 0 (by omega) ha
  have hp : putF l = .ok r := by unfold putF; rw [if_neg (by omega)]; exact hr
  have hb : putB l = r := by unfold putB; rw [hp]
  rw [hb]
  exact ⟨take_put l r.length 0 0 r (fun x hx => by have := hs x hx; omega) hr (Nat.le_refl _) (by omega), hp⟩
theorem fldT_eq (e : Tok) : fldT e = txtF 1 e.id ++ (txtF 2 e.gr ++ (txtF 3 e.co ++ (numF 4 e.ki ++ (numF 5 e.st ++ (numF 6 e.ex))))) := by
  unfold fldT
  simp only [numsF, Int.reduceAdd, List.append_nil, List.append_assoc]
theorem fldP_eq (e : Prof) : fldP e = numF 1 e.id ++ (numF 2 e.lv ++ (numF 3 e.pu ++ (numF 4 e.ki ++ (numF 5 e.co ++ (txtF 6 e.tx ++ (numF 7 e.fr ++ (numF 8 e.to ++ (numF 9 e.st ++ (numF 10 e.du ++ (listF 11 (rdP e.pe))))))))))) := by
  unfold fldP
  simp only [numsF, Int.reduceAdd, List.append_nil, List.append_assoc]
theorem fldP_asc (e : Prof) : Asc 0 (fldP e) := by
  rw [fldP_eq]
  exact bet_asc (c := 11) (bet_app (bet_num (t := 1) (by omega) (by omega)) (bet_app (bet_num (t := 2) (by omega) (by omega)) (bet_app (bet_num (t := 3) (by omega) (by omega)) (bet_app (bet_num (t := 4) (by omega) (by omega)) (bet_app (bet_num (t := 5) (by omega) (by omega)) (bet_app (bet_txt (t := 6) (by omega) (by omega)) (bet_app (bet_num (t := 7) (by omega) (by omega)) (bet_app (bet_num (t := 8) (by omega) (by omega)) (bet_app (bet_num (t := 9) (by omega) (by omega)) (bet_app (bet_num (t := 10) (by omega) (by omega)) (bet_list (t := 11) (by omega) (by omega))))))))))))
theorem fldM_eq (e : Msg) : fldM e = numF 1 e.ki ++ (numF 2 e.id ++ (numF 3 e.ac ++ (numF 4 e.co ++ (numF 5 e.st ++ (numF 6 e.sq ++ (numF 7 e.at' ++ (numF 8 e.va ++ (txtF 9 e.tx ++ (txtF 10 e.tk ++ (txtF 11 e.te ++ (flagF 12 e.off ++ (listF 13 (rdP e.rd) ++ (prfF e.p ++ (listF 15 (e.tks.map tokB))))))))))))))) := by
  unfold fldM
  simp only [numsF, Int.reduceAdd, List.append_nil, List.append_assoc]
theorem msg_ok {m : Msg} (h : msgS m = 0) : (1 ≤ m.id ∧ m.id ≤ 2147483647) ∧ actP m.ac = true ∧ m.rd.length ≤ 64 ∧ m.tks.length ≤ 64 := by
  unfold msgS at h
  split at h
  · cases h
  split at h
  · cases h
  split at h
  · cases h
  rename_i h3
  split at h
  · cases h
  refine ⟨by omega, by simpa using h3, by omega, by omega⟩
def encE (m : Msg) : Int := if msgS m ≠ 0 then msgS m else if 4096 < (byM m).length then 3 else 0
def encB (m : Msg) : List Int := if encE m = 0 then packS (byM m) else []
theorem mencode_fn (m : Msg) (h : MsT m) (hs : SmM m) : Fun Tryz.prog [] 6 [tM] [msD m] [tY, tI] (.ok [bD (encB m), I64d (encE m)]) := by
  refine M26.mencode_ent _ _ ?_
  show M26.vcmencode.den _ _ _ _ _
  unfold M26.vcmencode
  refine den_cal [I64d (msgS m)] rfl (mval_fn' m h hs) rfl rfl ?_
  refine den_ite (fun h1 => den_ret ?_) (fun h1 => ?_)
  · simp only [dF, dE] at h1
    have he : encE m = msgS m := by unfold encE; rw [if_pos h1]
    have hb : encB m = [] := by unfold encB; rw [he, if_neg h1]
    rw [he, hb]
    rfl
  · simp only [dF, dE] at h1
    have hr := (msg_ok h1).2.2.1
    refine den_cal [bD (byM m)] rfl (encoded_fn m h hs hr) rfl rfl ?_
    have hp := pack_fn (byM m) (byM_isB h hs hr) (by have := byM_len hs; omega)
    by_cases hl : 4096 < (byM m).length
    · rw [if_pos hl] at hp
      refine den_cal [bD [], I64d 3] rfl hp rfl rfl (den_ret ?_)
      have he : encE m = 3 := by unfold encE; rw [if_neg (by omega), if_pos hl]
      have hb : encB m = [] := by unfold encB; rw [he]; rfl
      rw [he, hb]
      rfl
    · rw [if_neg hl] at hp
      refine den_cal [bD (packS (byM m)), I64d 0] rfl hp rfl rfl (den_ret ?_)
      have he : encE m = 0 := by unfold encE; rw [if_neg (by omega), if_neg hl]
      have hb : encB m = packS (byM m) := by unfold encB; rw [if_pos he]
      rw [he, hb]
      rfl
end Go.Proofs.YtfhdgaecclfccaaGreat.Y26
set_option maxRecDepth 100000
set_option linter.unusedSimpArgs false
set_option linter.unusedVariables false
namespace Go.Proofs.YtfhdgaecclfccaaGreat.Z26
open Go.Proofs.YtfhdgaecclfccaaGreat Go.Proofs.YtfhdgaecclfccaaGreat.Sy Go.Proofs.YtfhdgaecclfccaaGreat.L7 Go.Proofs.YtfhdgaecclfccaaGreat.Id Go.Proofs.YtfhdgaecclfccaaGreat.R26 Go.Proofs.YtfhdgaecclfccaaGreat.V26 Go.Proofs.YtfhdgaecclfccaaGreat.M26 Go.Proofs.YtfhdgaecclfccaaGreat.X26 Go.Proofs.YtfhdgaecclfccaaGreat.B26 Go.Proofs.YtfhdgaecclfccaaGreat.Y26 Go.RowKit Go.WideShapes Go.ChangeShapes Go.ChangeAt
theorem hP : NoNum Tryz.prog := by unfold NoNum; kernel_rfl
def sgs : Nat → Option (List TS × List TS) := fun f => if Nat.beq f 53 then some ([.r [.int .i64, .lst [.int .u8]], .c (.int .i64), .c .str], [.r [.int .i64, .lst [.int .u8]]]) else if Nat.beq f 51 then some ([.r [.int .i64, .lst [.int .u8]], .c (.int .i64), .c (.int .i64)], [.r [.int .i64, .lst [.int .u8]]]) else if Nat.beq f 52 then some ([.r [.int .i64, .lst [.int .u8]], .c (.int .i64), .c .bool], [.r [.int .i64, .lst [.int .u8]]]) else if Nat.beq f 54 then some ([.r [.int .i64, .lst [.int .u8]], .c (.int .i64), .c (.lst [.lst [.int .u8]])], [.r [.int .i64, .lst [.int .u8]]]) else none
def vcrtoken : VC := (.ev [(.call 53 [(.r [(.int .i64), (.lst [(.int .u8)])]), (.c (.int .i64)), (.c .str)] [.nil, (.ki .i64 1), (.v 0)] [(.r [(.int .i64), (.lst [(.int .u8)])])] 6), (.call 53 [(.r [(.int .i64), (.lst [(.int .u8)])]), (.c (.int .i64)), (.c .str)] [(.v 6), (.ki .i64 2), (.v 1)] [(.r [(.int .i64), (.lst [(.int .u8)])])] 7), (.call 53 [(.r [(.int .i64), (.lst [(.int .u8)])]), (.c (.int .i64)), (.c .str)] [(.v 7), (.ki .i64 3), (.v 2)] [(.r [(.int .i64), (.lst [(.int .u8)])])] 8)]
 (.ev [(.call 51 [(.r [(.int .i64), (.lst [(.int .u8)])]), (.c (.int .i64)), (.c (.int .i64))] [(.v 8), (.ki .i64 4), (.v 3)] [(.r [(.int .i64), (.lst [(.int .u8)])])] 9), (.call 51 [(.r [(.int .i64), (.lst [(.int .u8)])]), (.c (.int .i64)), (.c (.int .i64))] [(.v 9), (.ki .i64 5), (.v 4)] [(.r [(.int .i64), (.lst [(.int .u8)])])] 10), (.call 51 [(.r [(.int .i64), (.lst [(.int .u8)])]), (.c (.int .i64)), (.c (.int .i64))] [(.v 10), (.ki .i64 6), (.v 5)] [(.r [(.int .i64), (.lst [(.int .u8)])])] 11), (.call 58 [(.c (.lst [(.int .i64), (.lst [(.int .u8)])]))] [(.v 11)] [(.c (.lst [(.int .u8)])), (.c (.int .i64))] 12)]
  (.ret [(.v 12)])))
theorem rtoken_ent : EntOK Tryz.prog [] ⟨59, [(.g [.str, .str, .str, (.int .i64), (.int .i64), (.int .i64)])], [(.c (.lst [(.int .u8)]))], vcrtoken⟩ :=
  ent_of_gen hP Tryz.func59 rfl (by decide) (sg := sgs) (by kernel_rfl)
def vcrprof : VC := (.ev [(.call 51 [(.r [(.int .i64), (.lst [(.int .u8)])]), (.c (.int .i64)), (.c (.int .i64))] [.nil, (.ki .i64 1), (.v 0)] [(.r [(.int .i64), (.lst [(.int .u8)])])] 11), (.call 51 [(.r [(.int .i64), (.lst [(.int .u8)])]), (.c (.int .i64)), (.c (.int .i64))] [(.v 11), (.ki .i64 2), (.v 1)] [(.r [(.int .i64), (.lst [(.int .u8)])])] 12), (.call 51 [(.r [(.int .i64), (.lst [(.int .u8)])]), (.c (.int .i64)), (.c (.int .i64))] [(.v 12), (.ki .i64 3), (.v 2)] [(.r [(.int .i64), (.lst [(.int .u8)])])] 13), (.call 51 [(.r [(.int .i64), (.lst [(.int .u8)])]), (.c (.int .i64)), (.c (.int .i64))] [(.v 13), (.ki .i64 4), (.v 3)] [(.r [(.int .i64), (.lst [(.int .u8)])])] 14), (.call 51 [(.r [(.int .i64), (.lst [(.int .u8)])]), (.c (.int .i64)), (.c (.int .i64))] [(.v 14), (.ki .i64 5), (.v 4)] [(.r [(.int .i64), (.lst [(.int .u8)])])] 15)]
 (.ev [(.call 53 [(.r [(.int .i64), (.lst [(.int .u8)])]), (.c (.int .i64)), (.c .str)] [(.v 15), (.ki .i64 6), (.v 5)] [(.r [(.int .i64), (.lst [(.int .u8)])])] 16), (.call 51 [(.r [(.int .i64), (.lst [(.int .u8)])]), (.c (.int .i64)), (.c (.int .i64))] [(.v 16), (.ki .i64 7), (.v 6)] [(.r [(.int .i64), (.lst [(.int .u8)])])] 17), (.call 51 [(.r [(.int .i64), (.lst [(.int .u8)])]), (.c (.int .i64)), (.c (.int .i64))] [(.v 17), (.ki .i64 8), (.v 7)] [(.r [(.int .i64), (.lst [(.int .u8)])])] 18)]
  (.ev [(.call 51 [(.r [(.int .i64), (.lst [(.int .u8)])]), (.c (.int .i64)), (.c (.int .i64))] [(.v 18), (.ki .i64 9), (.v 8)] [(.r [(.int .i64), (.lst [(.int .u8)])])] 19), (.call 51 [(.r [(.int .i64), (.lst [(.int .u8)])]), (.c (.int .i64)), (.c (.int .i64))] [(.v 19), (.ki .i64 10), (.v 9)] [(.r [(.int .i64), (.lst [(.int .u8)])])] 20)]
   (.loop [(.lst [(.int .i64)]), (.int .i64)] [.nil, (.ki .i64 0)]
    (.ite (.cmp .lss (.v 22) (.len (.v 10)))
     (.ev [(.ob (.cmp .geq (.v 22) (.ki .i64 0))), (.ob (.cmp .lss (.v 22) (.len (.v 10)))), (.ob (.cmp .geq (.v 22) (.ki .i64 0))), (.ob (.cmp .lss (.v 22) (.len (.v 10)))), (.ob (.cmp .leq (.len (.app (.v 21) (.cons (.cell (.get (.v 10) (.v 22)) 0) (.cons (.cell (.get (.v 10) (.v 22)) 1) .nil)))) (.ki .i64 4294967296)))]
      (.back 0 [(.app (.v 21) (.cons (.cell (.get (.v 10) (.v 22)) 0) (.cons (.cell (.get (.v 10) (.v 22)) 1) .nil))), (.ar .add .i64 (.v 22) (.ki .i64 1))]))
     (.cal 55 [(.c (.lst [(.int .i64)]))] [(.v 21)] [(.c (.lst [(.lst [(.int .u8)])]))] 23
      (.cal 54 [(.r [(.int .i64), (.lst [(.int .u8)])]), (.c (.int .i64)), (.c (.lst [(.lst [(.int .u8)])]))] [(.v 20), (.ki .i64 11), (.v 23)] [(.r [(.int .i64), (.lst [(.int .u8)])])] 24
       (.ret [(.v 24)]))))))))
def hdrprof : List HdL := [{ kind := true, id := 6, nv := 21, tmps := [(.v (.g [(dI 0), (dI 1), (dI 2), (dI 3), (dI 4), (dS 5), (dI 6), (dI 7), (dI 8), (dI 9), (.d lII (.v 10))])), (.v (.c (.ptr 0 0))), (.v (.c (.nilS fSh))), (.v (.c (.row 17 fSh (.len (.v 20))))), (.v (.c (.row 18 [sI] (.len (.v 21))))), (vI 22), (.v (.c (.ptr 0 0))), (vI 0), (.v (.c .any)), (.v (.c (.ptr 0 1))), (vI 1), (.v (.c .any)), (.v (.c (.ptr 0 2))), (vI 2), (.v (.c .any)), (.v (.c (.ptr 0 3))), (vI 3), (.v (.c .any)), (.v (.c (.ptr 0 4))), (vI 4), (.v (.c .any)), (.v (.c .any)), (.v (.c (.ptr 0 5))), (.v (.c (dS 5))), (.v (.c .any)), (.v (.c (.ptr 0 6))), (.v (.c (.ptr 0 6))), (vI 6), (.v (.c .any)), (.v (.c (.ptr 0 6))), (.v (.c (.ptr 0 7))), (vI 7), (.v (.c .any)), (.v (.c .any)), (.v (.c (.ptr 0 8))), (vI 8), (.v (.c .any)), (.v (.c (.ptr 0 9))), (vI 9), (.v (.c (.row 17 fSh (.len (.v 20))))) ] ++ an6 26, blks := [(.cells [(dI 0), (dI 1), (dI 2), (dI 3), (dI 4), (dS 5), (dI 6), (dI 7), (dI 8), (dI 9), (.d lII (.v 10))]), .dead, .dead, .dead, .dead, .dead, .dead, .dead, .dead, .dead, .dead, .dead, .dead, .dead, .dead, .dead, .dead, (.row fSh (.v 20) false), (.row [sI] (.v 21) false)], shs := [(.lst [sI]), sI], rs := [4], bs := [], fz := [] }]
theorem rprof_ent : EntOK Tryz.prog [] ⟨57, [(.g shP6)], [(.c (.lst [(.int .i64), (.lst [(.int .u8)])]))], vcrprof⟩ :=
  ent_of_genH hP Tryz.func57 rfl (by decide) (jn := []) (hd := hdrprof) (sg := sgs) (by kernel_rfl)
def vcrfields : VC := (.ev [(.call 51 [(.r [(.int .i64), (.lst [(.int .u8)])]), (.c (.int .i64)), (.c (.int .i64))] [.nil, (.ki .i64 1), (.v 0)] [(.r [(.int .i64), (.lst [(.int .u8)])])] 25), (.call 51 [(.r [(.int .i64), (.lst [(.int .u8)])]), (.c (.int .i64)), (.c (.int .i64))] [(.v 25), (.ki .i64 2), (.v 1)] [(.r [(.int .i64), (.lst [(.int .u8)])])] 26), (.call 51 [(.r [(.int .i64), (.lst [(.int .u8)])]), (.c (.int .i64)), (.c (.int .i64))] [(.v 26), (.ki .i64 3), (.v 2)] [(.r [(.int .i64), (.lst [(.int .u8)])])] 27), (.call 51 [(.r [(.int .i64), (.lst [(.int .u8)])]), (.c (.int .i64)), (.c (.int .i64))] [(.v 27), (.ki .i64 4), (.v 3)] [(.r [(.int .i64), (.lst [(.int .u8)])])] 28)]
 (.ev [(.call 51 [(.r [(.int .i64), (.lst [(.int .u8)])]), (.c (.int .i64)), (.c (.int .i64))] [(.v 28), (.ki .i64 5), (.v 4)] [(.r [(.int .i64), (.lst [(.int .u8)])])] 29), (.call 51 [(.r [(.int .i64), (.lst [(.int .u8)])]), (.c (.int .i64)), (.c (.int .i64))] [(.v 29), (.ki .i64 6), (.v 5)] [(.r [(.int .i64), (.lst [(.int .u8)])])] 30), (.call 51 [(.r [(.int .i64), (.lst [(.int .u8)])]), (.c (.int .i64)), (.c (.int .i64))] [(.v 30), (.ki .i64 7), (.v 6)] [(.r [(.int .i64), (.lst [(.int .u8)])])] 31), (.call 51 [(.r [(.int .i64), (.lst [(.int .u8)])]), (.c (.int .i64)), (.c (.int .i64))] [(.v 31), (.ki .i64 8), (.v 7)] [(.r [(.int .i64), (.lst [(.int .u8)])])] 32)]
  (.ev [(.call 53 [(.r [(.int .i64), (.lst [(.int .u8)])]), (.c (.int .i64)), (.c .str)] [(.v 32), (.ki .i64 9), (.v 8)] [(.r [(.int .i64), (.lst [(.int .u8)])])] 33), (.call 53 [(.r [(.int .i64), (.lst [(.int .u8)])]), (.c (.int .i64)), (.c .str)] [(.v 33), (.ki .i64 10), (.v 9)] [(.r [(.int .i64), (.lst [(.int .u8)])])] 34), (.call 53 [(.r [(.int .i64), (.lst [(.int .u8)])]), (.c (.int .i64)), (.c .str)] [(.v 34), (.ki .i64 11), (.v 10)] [(.r [(.int .i64), (.lst [(.int .u8)])])] 35), (.call 52 [(.r [(.int .i64), (.lst [(.int .u8)])]), (.c (.int .i64)), (.c .bool)] [(.v 35), (.ki .i64 12), (.v 11)] [(.r [(.int .i64), (.lst [(.int .u8)])])] 36)]
   (.cal 56 [(.c (.lst [(.int .i64), (.int .i64)]))] [(.v 12)] [(.c (.lst [(.int .i64)]))] 37
    (.cal 55 [(.c (.lst [(.int .i64)]))] [(.v 37)] [(.c (.lst [(.lst [(.int .u8)])]))] 38
     (.cal 54 [(.r [(.int .i64), (.lst [(.int .u8)])]), (.c (.int .i64)), (.c (.lst [(.lst [(.int .u8)])]))] [(.v 36), (.ki .i64 13), (.v 38)] [(.r [(.int .i64), (.lst [(.int .u8)])])] 39
      (.cal 57 [(.g shP6)] [(.rc (.cons (.v 13) (.cons (.v 14) (.cons (.v 15) (.cons (.v 16) (.cons (.v 17) (.cons (.v 18) (.cons (.v 19) (.cons (.v 20) (.cons (.v 21) (.cons (.v 22) (.cons (.v 23) .nil))))))))))))] [(.c (.lst [(.int .i64), (.lst [(.int .u8)])]))] 40
       (.ite (.cmp .gtr (.len (.v 40)) (.ki .i64 0))
        (.cal 58 [(.c (.lst [(.int .i64), (.lst [(.int .u8)])]))] [(.v 40)] [(.c (.lst [(.int .u8)])), (.c (.int .i64))] 41
         (.ev [(.ob (.cmp .leq (.len (.app (.v 39) (.cons (.rc (.cons (.ki .i64 14) (.cons (.v 41) .nil))) .nil))) (.ki .i64 4294967296)))]
          (.loop [(.lst [(.lst [(.int .u8)])]), (.int .i64)] [.nil, (.ki .i64 0)]
           (.ite (.cmp .lss (.v 44) (.len (.v 24)))
            (.ev [(.ob (.cmp .geq (.v 44) (.ki .i64 0))), (.ob (.cmp .lss (.v 44) (.len (.v 24))))]
             (.cal 59 [(.g [.str, .str, .str, (.int .i64), (.int .i64), (.int .i64)])] [(.rc (.cons (.cell (.get (.v 24) (.v 44)) 0) (.cons (.cell (.get (.v 24) (.v 44)) 1) (.cons (.cell (.get (.v 24) (.v 44)) 2) (.cons (.cell (.get (.v 24) (.v 44)) 3) (.cons (.cell (.get (.v 24) (.v 44)) 4) (.cons (.cell (.get (.v 24) (.v 44)) 5) .nil)))))))] [(.c (.lst [(.int .u8)]))] 45
              (.ev [(.ob (.cmp .leq (.len (.app (.v 43) (.cons (.v 45) .nil))) (.ki .i64 4294967296)))]
               (.back 0 [(.app (.v 43) (.cons (.v 45) .nil)), (.ar .add .i64 (.v 44) (.ki .i64 1))]))))
            (.cal 54 [(.r [(.int .i64), (.lst [(.int .u8)])]), (.c (.int .i64)), (.c (.lst [(.lst [(.int .u8)])]))] [(.app (.v 39) (.cons (.rc (.cons (.ki .i64 14) (.cons (.v 41) .nil))) .nil)), (.ki .i64 15), (.v 43)] [(.r [(.int .i64), (.lst [(.int .u8)])])] 45
             (.cal 58 [(.c (.lst [(.int .i64), (.lst [(.int .u8)])]))] [(.v 45)] [(.c (.lst [(.int .u8)])), (.c (.int .i64))] 46
              (.ret [(.v 46)])))))))
        (.loop [(.lst [(.lst [(.int .u8)])]), (.int .i64)] [.nil, (.ki .i64 0)]
         (.ite (.cmp .lss (.v 42) (.len (.v 24)))
          (.ev [(.ob (.cmp .geq (.v 42) (.ki .i64 0))), (.ob (.cmp .lss (.v 42) (.len (.v 24))))]
           (.cal 59 [(.g [.str, .str, .str, (.int .i64), (.int .i64), (.int .i64)])] [(.rc (.cons (.cell (.get (.v 24) (.v 42)) 0) (.cons (.cell (.get (.v 24) (.v 42)) 1) (.cons (.cell (.get (.v 24) (.v 42)) 2) (.cons (.cell (.get (.v 24) (.v 42)) 3) (.cons (.cell (.get (.v 24) (.v 42)) 4) (.cons (.cell (.get (.v 24) (.v 42)) 5) .nil)))))))] [(.c (.lst [(.int .u8)]))] 43
            (.ev [(.ob (.cmp .leq (.len (.app (.v 41) (.cons (.v 43) .nil))) (.ki .i64 4294967296)))]
             (.back 0 [(.app (.v 41) (.cons (.v 43) .nil)), (.ar .add .i64 (.v 42) (.ki .i64 1))]))))
          (.cal 54 [(.r [(.int .i64), (.lst [(.int .u8)])]), (.c (.int .i64)), (.c (.lst [(.lst [(.int .u8)])]))] [(.v 39), (.ki .i64 15), (.v 41)] [(.r [(.int .i64), (.lst [(.int .u8)])])] 43
           (.cal 58 [(.c (.lst [(.int .i64), (.lst [(.int .u8)])]))] [(.v 43)] [(.c (.lst [(.int .u8)])), (.c (.int .i64))] 44
            (.ret [(.v 44)])))))))))))))
def hdrfields : List HdL := [{ kind := true, id := 11, nv := 43, tmps := [(.v (.g (gM6 0))), (.v (.c (.ptr 0 0))), (.v (.c (.nilS [(.int .u8)]))), (.v (.c (.row 24 fSh (.len (.app (.v 39) (.cons (.rc (.cons (.ki .i64 14) (.cons (.v 41) .nil))) .nil)))))), (.v (.c (.d (.lst fSh) (.v 40)))), (.v (.c (.d (.lst [(.int .u8)]) (.v 41)))), (vI 42), (.v (.c (.row 25 [(.lst [(.int .u8)])] (.len (.v 43))))), (vI 44), (.v (.c .any)), (.v (.c .any)), (.v (.c (.ptr 0 0))), (vI 0), (.v (.c .any)), (.v (.c (.ptr 0 1))), (vI 1), (.v (.c .any)), (.v (.c (.ptr 0 2))), (vI 2), (.v (.c .any)), (.v (.c (.ptr 0 3))), (vI 3), (.v (.c .any)), (.v (.c .any)), (.v (.c (.ptr 0 4))), (vI 4), (.v (.c .any)), (.v (.c (.ptr 0 5))), (vI 5), (.v (.c .any)), (.v (.c (.ptr 0 6))), (vI 6), (.v (.c .any)), (.v (.c (.ptr 0 7))), (vI 7), (.v (.c .any)), (.v (.c .any)), (.v (.c (.ptr 0 8))), (.v (.c (dS 8))), (.v (.c .any)), (.v (.c (.ptr 0 9))), (.v (.c (dS 9))), (.v (.c .any)), (.v (.c (.ptr 0 10))), (.v (.c (dS 10))), (.v (.c .any)), (.v (.c (.ptr 0 11))), (.v (.c (.d .bool (.v 11)))), (.v (.c .any)), (.v (.c .any)), (.v (.c (.ptr 0 12))), (.v (.c (.d lII (.v 12)))), (.v (.c (.d (.lst [sI]) (.v 37)))), (.v (.c (.d (.lst [(.lst [(.int .u8)])]) (.v 38)))), (.v (.c .any)), (.v (.c (.ptr 0 13))), (.v (.g [(dI 13), (dI 14), (dI 15), (dI 16), (dI 17), (dS 18), (dI 19), (dI 20), (dI 21), (dI 22), (.d lII (.v 23))])), (.v (.c (.d (.lst fSh) (.v 40)))), (.v (.c (.d (.lst fSh) (.v 40)))), (.v (.c (.d sI (.len (.v 40))))), (.v (.c (.d .bool (.cmp .gtr (.len (.v 40)) (.ki .i64 0))))), (.v (.c .any)), (.v (.c (.d (.lst fSh) (.v 40)))), (.v (.c .any)), (.v (.c (.d (.lst [(.int .u8)]) (.v 41)))), (vI 42), (.v (.c .any)), (.v (.c (.d (.lst [(.int .u8)]) (.v 41)))), (.v (.g [(.d sI (.ki .i64 14)), (.d (.lst [(.int .u8)]) (.v 41))])), (.v (.c (.row 23 fSh (.ki .i64 1)))), (.v (.c (.row 24 fSh (.len (.app (.v 39) (.cons (.rc (.cons (.ki .i64 14) (.cons (.v 41) .nil))) .nil)))))) ] ++ an6 24, blks := [(.cells (gM6 0)), .dead, .dead, .dead, .dead, .dead, .dead, .dead, .dead, .dead, .dead, .dead, .dead, .dead, .dead, .dead, .dead, .dead, .dead, .dead, .dead, .dead, .dead, (.row fSh (.cons (.rc (.cons (.ki .i64 14) (.cons (.v 41) .nil))) .nil) false), (.row fSh (.app (.v 39) (.cons (.rc (.cons (.ki .i64 14) (.cons (.v 41) .nil))) .nil)) false), (.row [(.lst [(.int .u8)])] (.v 43) false)], shs := [(.lst [(.lst [(.int .u8)])]), sI], rs := [7], bs := [], fz := [] },
{ kind := true, id := 11, nv := 41, tmps := [(.v (.g [(.d (.int .i64) (.v 0)), (.d (.int .i64) (.v 1)), (.d (.int .i64) (.v 2)), (.d (.int .i64) (.v 3)), (.d (.int .i64) (.v 4)), (.d (.int .i64) (.v 5)), (.d (.int .i64) (.v 6)), (.d (.int .i64) (.v 7)), (.d .str (.v 8)), (.d .str (.v 9)), (.d .str (.v 10)), (.d .bool (.v 11)), (.d (.lst [(.int .i64), (.int .i64)]) (.v 12)), (.d (.int .i64) (.v 13)), (.d (.int .i64) (.v 14)), (.d (.int .i64) (.v 15)), (.d (.int .i64) (.v 16)), (.d (.int .i64) (.v 17)), (.d .str (.v 18)), (.d (.int .i64) (.v 19)), (.d (.int .i64) (.v 20)), (.d (.int .i64) (.v 21)), (.d (.int .i64) (.v 22)), (.d (.lst [(.int .i64), (.int .i64)]) (.v 23)), (.d (.lst [.str, .str, .str, (.int .i64), (.int .i64), (.int .i64)]) (.v 24))])), (.v (.c (.ptr 0 0))), (.v (.c (.nilS [(.int .u8)]))), (.v (.c (.row 22 [(.int .i64), (.lst [(.int .u8)])] (.len (.v 39))))), (.v (.c (.d (.lst [(.int .i64), (.lst [(.int .u8)])]) (.v 40)))), (.v (.c .any)), (.v (.c .any)), (.v (.c (.row 23 [(.lst [(.int .u8)])] (.len (.v 41))))), (.v (.c (.d (.int .i64) (.v 42)))), (.v (.c .any)), (.v (.c .any)), (.v (.c (.ptr 0 0))), (.v (.c (.d (.int .i64) (.v 0)))), (.v (.c .any)), (.v (.c (.ptr 0 1))), (.v (.c (.d (.int .i64) (.v 1)))), (.v (.c .any)), (.v (.c (.ptr 0 2))), (.v (.c (.d (.int .i64) (.v 2)))), (.v (.c .any)), (.v (.c (.ptr 0 3))), (.v (.c (.d (.int .i64) (.v 3)))), (.v (.c .any)), (.v (.c .any)), (.v (.c (.ptr 0 4))), (.v (.c (.d (.int .i64) (.v 4)))), (.v (.c .any)), (.v (.c (.ptr 0 5))), (.v (.c (.d (.int .i64) (.v 5)))), (.v (.c .any)), (.v (.c (.ptr 0 6))), (.v (.c (.d (.int .i64) (.v 6)))), (.v (.c .any)), (.v (.c (.ptr 0 7))), (.v (.c (.d (.int .i64) (.v 7)))), (.v (.c .any)), (.v (.c .any)), (.v (.c (.ptr 0 8))), (.v (.c (.d .str (.v 8)))), (.v (.c .any)), (.v (.c (.ptr 0 9))), (.v (.c (.d .str (.v 9)))), (.v (.c .any)), (.v (.c (.ptr 0 10))), (.v (.c (.d .str (.v 10)))), (.v (.c .any)), (.v (.c (.ptr 0 11))), (.v (.c (.d .bool (.v 11)))), (.v (.c .any)), (.v (.c .any)), (.v (.c (.ptr 0 12))), (.v (.c (.d (.lst [(.int .i64), (.int .i64)]) (.v 12)))), (.v (.c (.d (.lst [(.int .i64)]) (.v 37)))), (.v (.c (.d (.lst [(.lst [(.int .u8)])]) (.v 38)))), (.v (.c (.row 22 [(.int .i64), (.lst [(.int .u8)])] (.len (.v 39))))), (.v (.c (.ptr 0 13))), (.v (.g [(.d (.int .i64) (.v 13)), (.d (.int .i64) (.v 14)), (.d (.int .i64) (.v 15)), (.d (.int .i64) (.v 16)), (.d (.int .i64) (.v 17)), (.d .str (.v 18)), (.d (.int .i64) (.v 19)), (.d (.int .i64) (.v 20)), (.d (.int .i64) (.v 21)), (.d (.int .i64) (.v 22)), (.d (.lst [(.int .i64), (.int .i64)]) (.v 23))])), (.v (.c (.d (.lst [(.int .i64), (.lst [(.int .u8)])]) (.v 40)))), (.v (.c (.d (.lst [(.int .i64), (.lst [(.int .u8)])]) (.v 40)))), (.v (.c (.d (.int .i64) (.len (.v 40))))), (.v (.c (.d .bool (.cmp .gtr (.len (.v 40)) (.ki .i64 0))))), (.v (.c .any)), (.v (.c .any)), (.v (.c .any)), (.v (.c .any)), (.v (.c .any)), (.v (.c .any)), (.v (.c .any)), (.v (.c .any)), (.v (.c .any)), (.v (.c .any)), (.v (.c .any)), (.v (.c .any)), (.v (.c .any)), (.v (.c .any)), (.v (.c .any)), (.v (.c .any)), (.v (.c .any)), (.v (.c .any)), (.v (.c .any)), (.v (.c .any)), (.v (.c .any)), (.v (.c .any)), (.v (.c .any)), (.v (.c .any)), (.v (.c .any)), (.v (.c .any)), (.v (.c .any)), (.v (.c .any)), (.v (.c .any)), (.v (.c .any)), (.v (.c .any)), (.v (.c .any)), (.v (.c .any)), (.v (.c .any))], blks := [(.cells [(.d (.int .i64) (.v 0)), (.d (.int .i64) (.v 1)), (.d (.int .i64) (.v 2)), (.d (.int .i64) (.v 3)), (.d (.int .i64) (.v 4)), (.d (.int .i64) (.v 5)), (.d (.int .i64) (.v 6)), (.d (.int .i64) (.v 7)), (.d .str (.v 8)), (.d .str (.v 9)), (.d .str (.v 10)), (.d .bool (.v 11)), (.d (.lst [(.int .i64), (.int .i64)]) (.v 12)), (.d (.int .i64) (.v 13)), (.d (.int .i64) (.v 14)), (.d (.int .i64) (.v 15)), (.d (.int .i64) (.v 16)), (.d (.int .i64) (.v 17)), (.d .str (.v 18)), (.d (.int .i64) (.v 19)), (.d (.int .i64) (.v 20)), (.d (.int .i64) (.v 21)), (.d (.int .i64) (.v 22)), (.d (.lst [(.int .i64), (.int .i64)]) (.v 23)), (.d (.lst [.str, .str, .str, (.int .i64), (.int .i64), (.int .i64)]) (.v 24))]), .dead, .dead, .dead, .dead, .dead, .dead, .dead, .dead, .dead, .dead, .dead, .dead, .dead, .dead, .dead, .dead, .dead, .dead, .dead, .dead, .dead, (.row [(.int .i64), (.lst [(.int .u8)])] (.v 39) false), (.row [(.lst [(.int .u8)])] (.v 41) false)], shs := [(.lst [(.lst [(.int .u8)])]), (.int .i64)], rs := [7], bs := [], fz := [] }]
theorem rfields_ent : EntOK Tryz.prog [] ⟨17, [(.g shM6)], [(.c (.lst [(.int .u8)]))], vcrfields⟩ :=
  ent_of_genH hP Tryz.func17 rfl (by decide) (jn := []) (hd := hdrfields) (sg := sgs) (by kernel_rfl)
def vcrmencode : VC := (.cal 15 [(.g shM6)] [(.rc (.cons (.v 0) (.cons (.v 1) (.cons (.v 2) (.cons (.v 3) (.cons (.v 4) (.cons (.v 5) (.cons (.v 6) (.cons (.v 7) (.cons (.v 8) (.cons (.v 9) (.cons (.v 10) (.cons (.v 11) (.cons (.v 12) (.cons (.v 13) (.cons (.v 14) (.cons (.v 15) (.cons (.v 16) (.cons (.v 17) (.cons (.v 18) (.cons (.v 19) (.cons (.v 20) (.cons (.v 21) (.cons (.v 22) (.cons (.v 23) (.cons (.v 24) .nil))))))))))))))))))))))))))] [(.c (.int .i64))] 25
 (.ite (.cmp .neq (.v 25) (.ki .i64 0))
  (.ret [.nil, (.v 25)])
  (.cal 17 [(.g shM6)] [(.rc (.cons (.v 0) (.cons (.v 1) (.cons (.v 2) (.cons (.v 3) (.cons (.v 4) (.cons (.v 5) (.cons (.v 6) (.cons (.v 7) (.cons (.v 8) (.cons (.v 9) (.cons (.v 10) (.cons (.v 11) (.cons (.v 12) (.cons (.v 13) (.cons (.v 14) (.cons (.v 15) (.cons (.v 16) (.cons (.v 17) (.cons (.v 18) (.cons (.v 19) (.cons (.v 20) (.cons (.v 21) (.cons (.v 22) (.cons (.v 23) (.cons (.v 24) .nil))))))))))))))))))))))))))] [(.c (.lst [(.int .u8)]))] 26
   (.cal 16 [(.c (.lst [(.int .u8)]))] [(.v 26)] [(.c (.lst [(.int .u8)])), (.c (.int .i64))] 27
    (.ret [(.v 27), (.v 28)])))))
theorem rmencode_ent : EntOK Tryz.prog [] ⟨7, [(.g shM6)], [(.c (.lst [(.int .u8)])), (.c (.int .i64))], vcrmencode⟩ :=
  ent_of_gen hP Tryz.func7 rfl (by decide) (sg := sgs) (by kernel_rfl)
def vclencodes : VC := (.cal 4 [(.g shM6)] [(.rc (.cons (.v 0) (.cons (.v 1) (.cons (.v 2) (.cons (.v 3) (.cons (.v 4) (.cons (.v 5) (.cons (.v 6) (.cons (.v 7) (.cons (.v 8) (.cons (.v 9) (.cons (.v 10) (.cons (.v 11) (.cons (.v 12) (.cons (.v 13) (.cons (.v 14) (.cons (.v 15) (.cons (.v 16) (.cons (.v 17) (.cons (.v 18) (.cons (.v 19) (.cons (.v 20) (.cons (.v 21) (.cons (.v 22) (.cons (.v 23) (.cons (.v 24) .nil))))))))))))))))))))))))))] [(.c .bool)] 25
 (.ite (.v 25)
  (.cal 6 [(.g shM6)] [(.rc (.cons (.v 0) (.cons (.v 1) (.cons (.v 2) (.cons (.v 3) (.cons (.v 4) (.cons (.v 5) (.cons (.v 6) (.cons (.v 7) (.cons (.v 8) (.cons (.v 9) (.cons (.v 10) (.cons (.v 11) (.cons (.v 12) (.cons (.v 13) (.cons (.v 14) (.cons (.v 15) (.cons (.v 16) (.cons (.v 17) (.cons (.v 18) (.cons (.v 19) (.cons (.v 20) (.cons (.v 21) (.cons (.v 22) (.cons (.v 23) (.cons (.v 24) .nil))))))))))))))))))))))))))] [(.c (.lst [(.int .u8)])), (.c (.int .i64))] 26
   (.cal 7 [(.g shM6)] [(.rc (.cons (.v 0) (.cons (.v 1) (.cons (.v 2) (.cons (.v 3) (.cons (.v 4) (.cons (.v 5) (.cons (.v 6) (.cons (.v 7) (.cons (.v 8) (.cons (.v 9) (.cons (.v 10) (.cons (.v 11) (.cons (.v 12) (.cons (.v 13) (.cons (.v 14) (.cons (.v 15) (.cons (.v 16) (.cons (.v 17) (.cons (.v 18) (.cons (.v 19) (.cons (.v 20) (.cons (.v 21) (.cons (.v 22) (.cons (.v 23) (.cons (.v 24) .nil))))))))))))))))))))))))))] [(.c (.lst [(.int .u8)])), (.c (.int .i64))] 28
    (.ite (.cmp .eql (.v 27) (.v 29))
     (.ite (.seq (.b2s (.v 26)) (.b2s (.v 28)))
      (.cal 5 [] [] [(.c .bool)] 30
       (.ret [(.v 30)]))
      (.ret [(.kb false)]))
     (.ret [(.kb false)]))))
  (.cal 5 [] [] [(.c .bool)] 26
   (.ret [(.v 26)]))))
theorem lencodes_ent : EntOK Tryz.prog [] ⟨3, [(.g shM6)], [(.c .bool)], vclencodes⟩ :=
  ent_of_gen hP Tryz.func3 rfl (by decide) (sg := sgs) (by kernel_rfl)
def putE (l : List Fld) : Int := match putF l with | .ok _ => 0 | .error e => e
theorem rput_fn' (l : List Fld) (hl : l.length ≤ 1000) (hs : ∀ x ∈ l, x.2.length ≤ 1000000) : Fun Tryz.prog [] 58 [tF] [fsD l] [tY, tI] (.ok [bD (putB l), I64d (putE l)]) := by
  have hp := rput_fn l (by omega) hs
  unfold putB putE
  cases he : putF l with
  | ok b => rw [he] at hp; exact hp
  | error e => rw [he] at hp; exact hp
theorem put_nil {l : List Fld} (ha : Asc 0 l) (hl : l.length ≤ 256) (hs : ∀ x ∈ l, x.2.length ≤ 1000000) (h : putB l = []) : l = [] := by
  have h1 := (put_back ha hl hs).1
  rw [h] at h1
  have h2 : takeF [] = .ok [] := rfl
  rw [h2] at h1
  exact (Except.ok.inj h1).symm
theorem rtoken_fn (t : Tok) (h : TkT t) (hs : TkS t) : Fun Tryz.prog [] 59 [.g [.str, .str, .str, .int .i64, .int .i64, .int .i64]] [tkD t] [tY] (.ok [bD (tokB t)]) := by
  refine rtoken_ent _ _ ?_
  show vcrtoken.den _ _ _ _ _
  unfold vcrtoken
  (try simp only [flatD, dN, List.append_nil])
  have c1 := txtF_len 1 t.id
  have c2 := txtF_len 2 t.gr
  have c3 := txtF_len 3 t.co
  have c4 := numF_len 4 t.ki
  have c5 := numF_len 5 t.st
  have c6 := numF_len 6 t.ex
  obtain ⟨l0, hl0⟩ : ∃ l : List Fld, l = ([] : List Fld) := ⟨_, rfl⟩
  have bl0 : l0.length ≤ 0 := by rw [hl0]; (try simp only [List.length_append, List.length_nil]); omega
  refine den_ev ?_
  obtain ⟨l1, hl1⟩ : ∃ l : List Fld, l = l0 ++ txtF 1 t.id := ⟨_, rfl⟩
  have bl1 : l1.length ≤ 1 := by rw [hl1]; (try simp only [List.length_append, List.length_nil]); omega
  refine evs_call [fsD l1] rfl (fun_as (text_fn l0 1 t.id (by omega)) (by rw [hl1] <;> rfl)) (by rw [hl0]; rfl) rfl ?_
  (try simp only [dN])
  obtain ⟨l2, hl2⟩ : ∃ l : List Fld, l = l1 ++ txtF 2 t.gr := ⟨_, rfl⟩
  have bl2 : l2.length ≤ 2 := by rw [hl2]; (try simp only [List.length_append, List.length_nil]); omega
  refine evs_call [fsD l2] rfl (fun_as (text_fn l1 2 t.gr (by omega)) (by rw [hl2] <;> rfl)) rfl rfl ?_
  (try simp only [dN])
  obtain ⟨l3, hl3⟩ : ∃ l : List Fld, l = l2 ++ txtF 3 t.co := ⟨_, rfl⟩
  have bl3 : l3.length ≤ 3 := by rw [hl3]; (try simp only [List.length_append, List.length_nil]); omega
  refine evs_call [fsD l3] rfl (fun_as (text_fn l2 3 t.co (by omega)) (by rw [hl3] <;> rfl)) rfl rfl ?_
  (try simp only [dN])
  refine evs_nil ?_
  refine den_ev ?_
  obtain ⟨l4, hl4⟩ : ∃ l : List Fld, l = l3 ++ numF 4 t.ki := ⟨_, rfl⟩
  have bl4 : l4.length ≤ 4 := by rw [hl4]; (try simp only [List.length_append, List.length_nil]); omega
  refine evs_call [fsD l4] rfl (fun_as (num_fn l3 4 t.ki h.ki (by omega)) (by rw [hl4] <;> rfl)) rfl rfl ?_
  (try simp only [dN])
  obtain ⟨l5, hl5⟩ : ∃ l : List Fld, l = l4 ++ numF 5 t.st := ⟨_, rfl⟩
  have bl5 : l5.length ≤ 5 := by rw [hl5]; (try simp only [List.length_append, List.length_nil]); omega
  refine evs_call [fsD l5] rfl (fun_as (num_fn l4 5 t.st h.st (by omega)) (by rw [hl5] <;> rfl)) rfl rfl ?_
  (try simp only [dN])
  obtain ⟨l6, hl6⟩ : ∃ l : List Fld, l = l5 ++ numF 6 t.ex := ⟨_, rfl⟩
  have bl6 : l6.length ≤ 6 := by rw [hl6]; (try simp only [List.length_append, List.length_nil]); omega
  refine evs_call [fsD l6] rfl (fun_as (num_fn l5 6 t.ex h.ex (by omega)) (by rw [hl6] <;> rfl)) rfl rfl ?_
  (try simp only [dN])
  have hf : l6 = fldT t := by (rw [fldT_eq]; simp only [hl6, hl5, hl4, hl3, hl2, hl1, hl0, List.nil_append, List.append_assoc])
  refine evs_call [bD (putB (fldT t)), I64d (putE (fldT t))] rfl (rput_fn' (fldT t) (by have := fldT_len t; omega) (fun x hx => by have := fldT_data hs x hx; omega)) (by rw [← hf]; rfl) rfl ?_
  refine evs_nil ?_
  refine den_ret ?_
  (simp only [dF, dE] <;> rfl)
theorem pair_in {l : List (Int × Int)} (h : ∀ x ∈ l, inI x.1 ∧ inI x.2) : ∀ n ∈ l.flatMap pairL, in64 n := by
  intro n hn
  obtain ⟨x, hx, hn⟩ := List.mem_flatMap.1 hn
  have := h x hx
  simp only [pairL, List.mem_cons, List.not_mem_nil, or_false] at hn
  rcases hn with rfl | rfl
  · exact this.1
  · exact this.2
theorem rprof_fn (p : Prof) (h : PrT p) (h2 : p.pe.length ≤ 40) : Fun Tryz.prog [] 57 [tPr] [.rc (prL p)] [tF] (.ok [fsD (fldP p)]) := by
  refine rprof_ent _ _ ?_
  show vcrprof.den _ _ _ _ _
  unfold vcrprof
  (try simp only [flatD, dN, List.append_nil])
  have c1 := numF_len 1 p.id
  have c2 := numF_len 2 p.lv
  have c3 := numF_len 3 p.pu
  have c4 := numF_len 4 p.ki
  have c5 := numF_len 5 p.co
  have c6 := txtF_len 6 p.tx
  have c7 := numF_len 7 p.fr
  have c8 := numF_len 8 p.to
  have c9 := numF_len 9 p.st
  have c10 := numF_len 10 p.du
  obtain ⟨l0, hl0⟩ : ∃ l : List Fld, l = ([] : List Fld) := ⟨_, rfl⟩
  have bl0 : l0.length ≤ 0 := by rw [hl0]; (try simp only [List.length_append, List.length_nil]); omega
  refine den_ev ?_
  obtain ⟨l1, hl1⟩ : ∃ l : List Fld, l = l0 ++ numF 1 p.id := ⟨_, rfl⟩
  have bl1 : l1.length ≤ 1 := by rw [hl1]; (try simp only [List.length_append, List.length_nil]); omega
  refine evs_call [fsD l1] rfl (fun_as (num_fn l0 1 p.id h.id (by omega)) (by rw [hl1] <;> rfl)) (by rw [hl0]; rfl) rfl ?_
  (try simp only [dN])
  obtain ⟨l2, hl2⟩ : ∃ l : List Fld, l = l1 ++ numF 2 p.lv := ⟨_, rfl⟩
  have bl2 : l2.length ≤ 2 := by rw [hl2]; (try simp only [List.length_append, List.length_nil]); omega
  refine evs_call [fsD l2] rfl (fun_as (num_fn l1 2 p.lv h.lv (by omega)) (by rw [hl2] <;> rfl)) rfl rfl ?_
  (try simp only [dN])
  obtain ⟨l3, hl3⟩ : ∃ l : List Fld, l = l2 ++ numF 3 p.pu := ⟨_, rfl⟩
  have bl3 : l3.length ≤ 3 := by rw [hl3]; (try simp only [List.length_append, List.length_nil]); omega
  refine evs_call [fsD l3] rfl (fun_as (num_fn l2 3 p.pu h.pu (by omega)) (by rw [hl3] <;> rfl)) rfl rfl ?_
  (try simp only [dN])
  obtain ⟨l4, hl4⟩ : ∃ l : List Fld, l = l3 ++ numF 4 p.ki := ⟨_, rfl⟩
  have bl4 : l4.length ≤ 4 := by rw [hl4]; (try simp only [List.length_append, List.length_nil]); omega
  refine evs_call [fsD l4] rfl (fun_as (num_fn l3 4 p.ki h.ki (by omega)) (by rw [hl4] <;> rfl)) rfl rfl ?_
  (try simp only [dN])
  obtain ⟨l5, hl5⟩ : ∃ l : List Fld, l = l4 ++ numF 5 p.co := ⟨_, rfl⟩
  have bl5 : l5.length ≤ 5 := by rw [hl5]; (try simp only [List.length_append, List.length_nil]); omega
  refine evs_call [fsD l5] rfl (fun_as (num_fn l4 5 p.co h.co (by omega)) (by rw [hl5] <;> rfl)) rfl rfl ?_
  (try simp only [dN])
  refine evs_nil ?_
  refine den_ev ?_
  obtain ⟨l6, hl6⟩ : ∃ l : List Fld, l = l5 ++ txtF 6 p.tx := ⟨_, rfl⟩
  have bl6 : l6.length ≤ 6 := by rw [hl6]; (try simp only [List.length_append, List.length_nil]); omega
  refine evs_call [fsD l6] rfl (fun_as (text_fn l5 6 p.tx (by omega)) (by rw [hl6] <;> rfl)) rfl rfl ?_
  (try simp only [dN])
  obtain ⟨l7, hl7⟩ : ∃ l : List Fld, l = l6 ++ numF 7 p.fr := ⟨_, rfl⟩
  have bl7 : l7.length ≤ 7 := by rw [hl7]; (try simp only [List.length_append, List.length_nil]); omega
  refine evs_call [fsD l7] rfl (fun_as (num_fn l6 7 p.fr h.fr (by omega)) (by rw [hl7] <;> rfl)) rfl rfl ?_
  (try simp only [dN])
  obtain ⟨l8, hl8⟩ : ∃ l : List Fld, l = l7 ++ numF 8 p.to := ⟨_, rfl⟩
  have bl8 : l8.length ≤ 8 := by rw [hl8]; (try simp only [List.length_append, List.length_nil]); omega
  refine evs_call [fsD l8] rfl (fun_as (num_fn l7 8 p.to h.to (by omega)) (by rw [hl8] <;> rfl)) rfl rfl ?_
  (try simp only [dN])
  refine evs_nil ?_
  refine den_ev ?_
  obtain ⟨l9, hl9⟩ : ∃ l : List Fld, l = l8 ++ numF 9 p.st := ⟨_, rfl⟩
  have bl9 : l9.length ≤ 9 := by rw [hl9]; (try simp only [List.length_append, List.length_nil]); omega
  refine evs_call [fsD l9] rfl (fun_as (num_fn l8 9 p.st h.st (by omega)) (by rw [hl9] <;> rfl)) rfl rfl ?_
  (try simp only [dN])
  obtain ⟨l10, hl10⟩ : ∃ l : List Fld, l = l9 ++ numF 10 p.du := ⟨_, rfl⟩
  have bl10 : l10.length ≤ 10 := by rw [hl10]; (try simp only [List.length_append, List.length_nil]); omega
  refine evs_call [fsD l10] rfl (fun_as (num_fn l9 10 p.du h.du (by omega)) (by rw [hl10] <;> rfl)) rfl rfl ?_
  (try simp only [dN])
  refine evs_nil ?_
  have hL := rdP_len p.pe
  have hpl := pairs_len p.pe
  refine den_loop (fun xs => ∃ i : Nat, xs = [isD ((p.pe.take i).flatMap pairL), I64d i] ∧ i ≤ p.pe.length) (fun xs => p.pe.length - (xs.getD 1 default).toI.toNat) ⟨0, rfl, by omega⟩ ?_
  simp only [AllSh]
  intro _ _ n _ _ ⟨i, hq, hi⟩
  simp only [List.cons.injEq, D.int.injEq, D.lst.injEq, true_and, and_true] at hq
  obtain ⟨rfl, rfl⟩ := hq
  (try simp only [dN])
  refine den_ite (fun h3 => ?_) (fun h3 => ?_)
  · simp only [dF, dE] at h3
    have hi' : i < p.pe.length := by omega
    have hw : IntKind.wrap .i64 ((i : Int) + 1) = ((i + 1 : Nat) : Int) := by rw [wrap_i64 (by omega) (by omega)]; omega
    have hg := getD_map (g := rD) (0, 0) hi'
    have hLi := pairs_len (p.pe.take i)
    rw [List.length_take] at hLi
    refine den_ev (evs_ob (by simp only [dF, dE]; omega) (evs_ob (by simp only [dF, dE]; omega) (evs_ob (by simp only [dF, dE]; omega) (evs_ob (by simp only [dF, dE]; omega) (evs_ob (by simp only [dF, dE]; omega) (evs_nil ?_))))))
    refine den_back rfl ⟨i + 1, ?_, by omega⟩ (by simp only []; simp only [dF, dE]; rw [hw]; omega)
    simp only [dF, dE, hg]
    rw [hw, take_get (0, 0) hi']
    simp [pairL]
  · simp only [dF, dE] at h3
    have hi' : i = p.pe.length := by omega
    subst hi'
    rw [List.take_length]
    (try simp only [dN])
    refine den_cal [bbD (rdP p.pe)] rfl (ints_fn (p.pe.flatMap pairL) (pair_in h.pe.2) (by omega)) rfl rfl ?_
    (try simp only [dN])
    have hf : l10 ++ listF 11 (rdP p.pe) = fldP p := by (rw [fldP_eq]; simp only [hl10, hl9, hl8, hl7, hl6, hl5, hl4, hl3, hl2, hl1, hl0, List.nil_append, List.append_assoc])
    refine den_cal [fsD (fldP p)] rfl (fun_as (listf_fn l10 11 (rdP p.pe) (by omega) (by omega) (fun x hx => by have := rdP_small p.pe x hx; omega)) (by rw [hf] <;> rfl)) (by simp only [dF, dE]) rfl ?_
    (try simp only [dN])
    refine den_ret ?_
    (simp only [dF, dE] <;> rfl)
set_option maxHeartbeats 8000000 in
theorem rfields_fn (m : Msg) (h : MsT m) (hs : SmM m) (hr : m.rd.length ≤ 64) : Fun Tryz.prog [] 17 [tM] [msD m] [tY] (.ok [bD (byM m)]) := by
  refine rfields_ent _ _ ?_
  show vcrfields.den _ _ _ _ _
  unfold vcrfields
  (try simp only [flatD, dN, List.append_nil])
  have c1 := numF_len 1 m.ki
  have c2 := numF_len 2 m.id
  have c3 := numF_len 3 m.ac
  have c4 := numF_len 4 m.co
  have c5 := numF_len 5 m.st
  have c6 := numF_len 6 m.sq
  have c7 := numF_len 7 m.at'
  have c8 := numF_len 8 m.va
  have c9 := txtF_len 9 m.tx
  have c10 := txtF_len 10 m.tk
  have c11 := txtF_len 11 m.te
  have c12 := flagF_len 12 m.off
  obtain ⟨l0, hl0⟩ : ∃ l : List Fld, l = ([] : List Fld) := ⟨_, rfl⟩
  have bl0 : l0.length ≤ 0 := by rw [hl0]; (try simp only [List.length_append, List.length_nil]); omega
  refine den_ev ?_
  obtain ⟨l1, hl1⟩ : ∃ l : List Fld, l = l0 ++ numF 1 m.ki := ⟨_, rfl⟩
  have bl1 : l1.length ≤ 1 := by rw [hl1]; (try simp only [List.length_append, List.length_nil]); omega
  refine evs_call [fsD l1] rfl (fun_as (num_fn l0 1 m.ki h.ki (by omega)) (by rw [hl1] <;> rfl)) (by rw [hl0]; rfl) rfl ?_
  (try simp only [dN])
  obtain ⟨l2, hl2⟩ : ∃ l : List Fld, l = l1 ++ numF 2 m.id := ⟨_, rfl⟩
  have bl2 : l2.length ≤ 2 := by rw [hl2]; (try simp only [List.length_append, List.length_nil]); omega
  refine evs_call [fsD l2] rfl (fun_as (num_fn l1 2 m.id h.id (by omega)) (by rw [hl2] <;> rfl)) rfl rfl ?_
  (try simp only [dN])
  obtain ⟨l3, hl3⟩ : ∃ l : List Fld, l = l2 ++ numF 3 m.ac := ⟨_, rfl⟩
  have bl3 : l3.length ≤ 3 := by rw [hl3]; (try simp only [List.length_append, List.length_nil]); omega
  refine evs_call [fsD l3] rfl (fun_as (num_fn l2 3 m.ac h.ac (by omega)) (by rw [hl3] <;> rfl)) rfl rfl ?_
  (try simp only [dN])
  obtain ⟨l4, hl4⟩ : ∃ l : List Fld, l = l3 ++ numF 4 m.co := ⟨_, rfl⟩
  have bl4 : l4.length ≤ 4 := by rw [hl4]; (try simp only [List.length_append, List.length_nil]); omega
  refine evs_call [fsD l4] rfl (fun_as (num_fn l3 4 m.co h.co (by omega)) (by rw [hl4] <;> rfl)) rfl rfl ?_
  (try simp only [dN])
  refine evs_nil ?_
  refine den_ev ?_
  obtain ⟨l5, hl5⟩ : ∃ l : List Fld, l = l4 ++ numF 5 m.st := ⟨_, rfl⟩
  have bl5 : l5.length ≤ 5 := by rw [hl5]; (try simp only [List.length_append, List.length_nil]); omega
  refine evs_call [fsD l5] rfl (fun_as (num_fn l4 5 m.st h.st (by omega)) (by rw [hl5] <;> rfl)) rfl rfl ?_
  (try simp only [dN])
  obtain ⟨l6, hl6⟩ : ∃ l : List Fld, l = l5 ++ numF 6 m.sq := ⟨_, rfl⟩
  have bl6 : l6.length ≤ 6 := by rw [hl6]; (try simp only [List.length_append, List.length_nil]); omega
  refine evs_call [fsD l6] rfl (fun_as (num_fn l5 6 m.sq h.sq (by omega)) (by rw [hl6] <;> rfl)) rfl rfl ?_
  (try simp only [dN])
  obtain ⟨l7, hl7⟩ : ∃ l : List Fld, l = l6 ++ numF 7 m.at' := ⟨_, rfl⟩
  have bl7 : l7.length ≤ 7 := by rw [hl7]; (try simp only [List.length_append, List.length_nil]); omega
  refine evs_call [fsD l7] rfl (fun_as (num_fn l6 7 m.at' h.at' (by omega)) (by rw [hl7] <;> rfl)) rfl rfl ?_
  (try simp only [dN])
  obtain ⟨l8, hl8⟩ : ∃ l : List Fld, l = l7 ++ numF 8 m.va := ⟨_, rfl⟩
  have bl8 : l8.length ≤ 8 := by rw [hl8]; (try simp only [List.length_append, List.length_nil]); omega
  refine evs_call [fsD l8] rfl (fun_as (num_fn l7 8 m.va h.va (by omega)) (by rw [hl8] <;> rfl)) rfl rfl ?_
  (try simp only [dN])
  refine evs_nil ?_
  refine den_ev ?_
  obtain ⟨l9, hl9⟩ : ∃ l : List Fld, l = l8 ++ txtF 9 m.tx := ⟨_, rfl⟩
  have bl9 : l9.length ≤ 9 := by rw [hl9]; (try simp only [List.length_append, List.length_nil]); omega
  refine evs_call [fsD l9] rfl (fun_as (text_fn l8 9 m.tx (by omega)) (by rw [hl9] <;> rfl)) rfl rfl ?_
  (try simp only [dN])
  obtain ⟨l10, hl10⟩ : ∃ l : List Fld, l = l9 ++ txtF 10 m.tk := ⟨_, rfl⟩
  have bl10 : l10.length ≤ 10 := by rw [hl10]; (try simp only [List.length_append, List.length_nil]); omega
  refine evs_call [fsD l10] rfl (fun_as (text_fn l9 10 m.tk (by omega)) (by rw [hl10] <;> rfl)) rfl rfl ?_
  (try simp only [dN])
  obtain ⟨l11, hl11⟩ : ∃ l : List Fld, l = l10 ++ txtF 11 m.te := ⟨_, rfl⟩
  have bl11 : l11.length ≤ 11 := by rw [hl11]; (try simp only [List.length_append, List.length_nil]); omega
  refine evs_call [fsD l11] rfl (fun_as (text_fn l10 11 m.te (by omega)) (by rw [hl11] <;> rfl)) rfl rfl ?_
  (try simp only [dN])
  obtain ⟨l12, hl12⟩ : ∃ l : List Fld, l = l11 ++ flagF 12 m.off := ⟨_, rfl⟩
  have bl12 : l12.length ≤ 12 := by rw [hl12]; (try simp only [List.length_append, List.length_nil]); omega
  refine evs_call [fsD l12] rfl (fun_as (flag_fn l11 12 m.off (by omega)) (by rw [hl12] <;> rfl)) rfl rfl ?_
  (try simp only [dN])
  refine evs_nil ?_
  have hL := rdP_len m.rd
  have hpl := pairs_len m.rd
  have c13 := listF_len 13 (rdP m.rd)
  refine den_cal [isD (m.rd.flatMap pairL)] rfl (readings_fn m.rd (by omega)) rfl rfl ?_
  (try simp only [dN])
  refine den_cal [bbD (rdP m.rd)] rfl (ints_fn (m.rd.flatMap pairL) (pair_in h.rd.2) (by omega)) rfl rfl ?_
  (try simp only [dN])
  obtain ⟨l13, hl13⟩ : ∃ l : List Fld, l = l12 ++ listF 13 (rdP m.rd) := ⟨_, rfl⟩
  have bl13 : l13.length ≤ 13 := by rw [hl13]; (try simp only [List.length_append, List.length_nil]); omega
  (try simp only [dN])
  refine den_cal [fsD l13] rfl (fun_as (listf_fn l12 13 (rdP m.rd) (by omega) (by omega) (fun x hx => by have := rdP_small m.rd x hx; omega)) (by rw [hl13] <;> rfl)) (by simp only [dF, dE]) rfl ?_
  refine den_cal [fsD (fldP m.p)] rfl (rprof_fn m.p h.p hs.pe) rfl rfl ?_
  (try simp only [dN])
  (try simp only [dN])
  have hpd : ∀ x ∈ fldP m.p, x.2.length ≤ 1000000 := fun x hx => by have := fldP_data hs.ptx hs.pe x hx; omega
  have hpl2 := fldP_len m.p
  refine den_ite (fun h4 => ?_) (fun h4 => ?_)
  · simp only [dF, dE] at h4
    have hpn : fldP m.p ≠ [] := fun e => by rw [e] at h4; simp at h4
    have hpf : prfF m.p = [(14, putB (fldP m.p))] := by
      unfold prfF
      rw [if_neg fun e => hpn (put_nil (fldP_asc m.p) (by omega) hpd e)]
    refine den_cal [bD (putB (fldP m.p)), I64d (putE (fldP m.p))] rfl (rput_fn' (fldP m.p) (by omega) hpd) rfl rfl ?_
    (try simp only [dN])
    refine den_ev (evs_ob (by simp only [dF, dE]; omega) (evs_nil ?_))
    have hz := hs.tks
    refine den_loop (fun xs => ∃ i : Nat, xs = [bbD ((m.tks.take i).map tokB), I64d i] ∧ i ≤ m.tks.length) (fun xs => m.tks.length - (xs.getD 1 default).toI.toNat) ⟨0, rfl, by omega⟩ ?_
    simp only [AllSh]
    intro _ _ n _ _ ⟨i, hq, hi⟩
    simp only [List.cons.injEq, D.int.injEq, D.lst.injEq, true_and, and_true] at hq
    obtain ⟨rfl, rfl⟩ := hq
    (try simp only [dN])
    refine den_ite (fun h3 => ?_) (fun h3 => ?_)
    · simp only [dF, dE] at h3
      have hi' : i < m.tks.length := by omega
      have hw : IntKind.wrap .i64 ((i : Int) + 1) = ((i + 1 : Nat) : Int) := by rw [wrap_i64 (by omega) (by omega)]; omega
      have hg := getD_map (g := tkD) tok0 hi'
      have hm' := mem_getD tok0 hi'
      have hLi : (m.tks.take i).length ≤ 131 := by rw [List.length_take]; omega
      refine den_ev (evs_ob (by simp only [dF, dE]; omega) (evs_ob (by simp only [dF, dE]; omega) (evs_nil ?_)))
      refine den_cal [bD (tokB (m.tks.getD i tok0))] rfl (rtoken_fn (m.tks.getD i tok0) (h.tks _ hm') (tks_S hs hm')) (by simp only [dF, dE, hg]) rfl ?_
      (try simp only [dN])
      refine den_ev (evs_ob (by simp only [dF, dE]; omega) (evs_nil ?_))
      refine den_back rfl ⟨i + 1, ?_, by omega⟩ (by simp only []; simp only [dF, dE]; rw [hw]; omega)
      simp only [dF, dE]
      rw [hw, take_get tok0 hi']
      simp
    · simp only [dF, dE] at h3
      have hi' : i = m.tks.length := by omega
      subst hi'
      rw [List.take_length]
      (try simp only [dN])
      have a8 := listF_len 15 (m.tks.map tokB)
      have hf : l13 ++ [(14, putB (fldP m.p))] ++ listF 15 (m.tks.map tokB) = fldM m := by (rw [fldM_eq, hpf]; simp only [hl13, hl12, hl11, hl10, hl9, hl8, hl7, hl6, hl5, hl4, hl3, hl2, hl1, hl0, List.nil_append, List.append_assoc])
      refine den_cal [fsD (fldM m)] rfl (fun_as (listf_fn (l13 ++ [(14, putB (fldP m.p))]) 15 (m.tks.map tokB) (by (try simp only [List.length_append, List.length_cons, List.length_nil]); omega) (by rw [List.length_map]; omega) (fun x hx => by have := tksB_len hs x hx; omega)) (by rw [hf] <;> rfl)) (by simp only [dF, dE] <;> simp) rfl ?_
      (try simp only [dN])
      refine den_cal [bD (putB (fldM m)), I64d (putE (fldM m))] rfl (rput_fn' (fldM m) (by have := fldM_len m; omega) (fun x hx => by have := fldM_data hs x hx; omega)) rfl rfl ?_
      refine den_ret ?_
      (simp only [dF, dE] <;> rfl)
  · simp only [dF, dE] at h4
    have hpn : fldP m.p = [] := List.length_eq_zero_iff.1 (by omega)
    have hpf : prfF m.p = [] := by
      unfold prfF
      rw [hpn]
      rfl
    have hz := hs.tks
    refine den_loop (fun xs => ∃ i : Nat, xs = [bbD ((m.tks.take i).map tokB), I64d i] ∧ i ≤ m.tks.length) (fun xs => m.tks.length - (xs.getD 1 default).toI.toNat) ⟨0, rfl, by omega⟩ ?_
    simp only [AllSh]
    intro _ _ n _ _ ⟨i, hq, hi⟩
    simp only [List.cons.injEq, D.int.injEq, D.lst.injEq, true_and, and_true] at hq
    obtain ⟨rfl, rfl⟩ := hq
    (try simp only [dN])
    refine den_ite (fun h3 => ?_) (fun h3 => ?_)
    · simp only [dF, dE] at h3
      have hi' : i < m.tks.length := by omega
      have hw : IntKind.wrap .i64 ((i : Int) + 1) = ((i + 1 : Nat) : Int) := by rw [wrap_i64 (by omega) (by omega)]; omega
      have hg := getD_map (g := tkD) tok0 hi'
      have hm' := mem_getD tok0 hi'
      have hLi : (m.tks.take i).length ≤ 131 := by rw [List.length_take]; omega
      refine den_ev (evs_ob (by simp only [dF, dE]; omega) (evs_ob (by simp only [dF, dE]; omega) (evs_nil ?_)))
      refine den_cal [bD (tokB (m.tks.getD i tok0))] rfl (rtoken_fn (m.tks.getD i tok0) (h.tks _ hm') (tks_S hs hm')) (by simp only [dF, dE, hg]) rfl ?_
      (try simp only [dN])
      refine den_ev (evs_ob (by simp only [dF, dE]; omega) (evs_nil ?_))
      refine den_back rfl ⟨i + 1, ?_, by omega⟩ (by simp only []; simp only [dF, dE]; rw [hw]; omega)
      simp only [dF, dE]
      rw [hw, take_get tok0 hi']
      simp
    · simp only [dF, dE] at h3
      have hi' : i = m.tks.length := by omega
      subst hi'
      rw [List.take_length]
      (try simp only [dN])
      have a8 := listF_len 15 (m.tks.map tokB)
      have hf : l13 ++ listF 15 (m.tks.map tokB) = fldM m := by (rw [fldM_eq, hpf]; simp only [hl13, hl12, hl11, hl10, hl9, hl8, hl7, hl6, hl5, hl4, hl3, hl2, hl1, hl0, List.nil_append, List.append_assoc])
      refine den_cal [fsD (fldM m)] rfl (fun_as (listf_fn (l13) 15 (m.tks.map tokB) (by (try simp only [List.length_append, List.length_cons, List.length_nil]); omega) (by rw [List.length_map]; omega) (fun x hx => by have := tksB_len hs x hx; omega)) (by rw [hf] <;> rfl)) (by simp only [dF, dE] <;> simp) rfl ?_
      (try simp only [dN])
      refine den_cal [bD (putB (fldM m)), I64d (putE (fldM m))] rfl (rput_fn' (fldM m) (by have := fldM_len m; omega) (fun x hx => by have := fldM_data hs x hx; omega)) rfl rfl ?_
      refine den_ret ?_
      (simp only [dF, dE] <;> rfl)
theorem rmencode_fn (m : Msg) (h : MsT m) (hs : SmM m) : Fun Tryz.prog [] 7 [tM] [msD m] [tY, tI] (.ok [bD (encB m), I64d (encE m)]) := by
  refine rmencode_ent _ _ ?_
  show vcrmencode.den _ _ _ _ _
  unfold vcrmencode
  refine den_cal [I64d (msgS m)] rfl (rmval_fn' m h hs) rfl rfl ?_
  (try simp only [dN])
  refine den_ite (fun h1 => den_ret ?_) (fun h1 => ?_)
  · simp only [dF, dE] at h1
    have he : encE m = msgS m := by unfold encE; rw [if_pos h1]
    have hb : encB m = [] := by unfold encB; rw [he, if_neg h1]
    rw [he, hb]
    rfl
  · simp only [dF, dE] at h1
    have hr := (msg_ok h1).2.2.1
    refine den_cal [bD (byM m)] rfl (rfields_fn m h hs hr) rfl rfl ?_
    (try simp only [dN])
    have hp := rpack_fn (byM m) (byM_isB h hs hr) (by have := byM_len hs; omega)
    by_cases hl : 4096 < (byM m).length
    · rw [if_pos hl] at hp
      refine den_cal [bD [], I64d 3] rfl hp rfl rfl (den_ret ?_)
      have he : encE m = 3 := by unfold encE; rw [if_neg (by omega), if_pos hl]
      have hb : encB m = [] := by unfold encB; rw [he]; rfl
      rw [he, hb]
      rfl
    · rw [if_neg hl] at hp
      refine den_cal [bD (packS (byM m)), I64d 0] rfl hp rfl rfl (den_ret ?_)
      have he : encE m = 0 := by unfold encE; rw [if_neg (by omega), if_neg hl]
      have hb : encB m = packS (byM m) := by unfold encB; rw [if_pos he]
      rw [he, hb]
      rfl

end Go.Proofs.YtfhdgaecclfccaaGreat.Z26
