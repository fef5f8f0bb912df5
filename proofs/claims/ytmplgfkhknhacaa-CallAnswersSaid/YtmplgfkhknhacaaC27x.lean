/-
  The examples of layer 27, reckoned out. No conditions stand ahead of what is proved.
-/
import Derived.Test.YtmplgfkhknhacaaC27
import Derived.Test.YtmplgfkhknhacaaSyE2
set_option maxRecDepth 100000
set_option linter.unusedSimpArgs false
set_option linter.unusedVariables false
namespace Go.Proofs.Ytmplgfkhknhacaa.C27
open Go.Proofs.Ytmplgfkhknhacaa Go.Proofs.Ytmplgfkhknhacaa.Sy Go.Proofs.Ytmplgfkhknhacaa.L7 Go.Proofs.Ytmplgfkhknhacaa.Id Go.Proofs.Ytmplgfkhknhacaa.R26 Go.Proofs.Ytmplgfkhknhacaa.V26 Go.Proofs.Ytmplgfkhknhacaa.N27 Go.RowKit Go.WideShapes Go.ChangeShapes Go.ChangeAt
theorem newer_nil (d : D) : Fun Try.prog [] 47 [tM, tMs] [d, .lst []] [tB] (.ok [.bool true]) := by
  intro w M vs ps hM hG hA hI
  have h := hA
  obtain ⟨hps, _⟩ := hA.plain rfl
  subst hps
  obtain ⟨v1, v2, rfl, ha, hb⟩ : ∃ v1 v2, vs = [v1, v2] ∧ RepT M tM v1 d ∧ Rep M (.lst shM) v2 (.lst []) := by
    generalize hq : ([] : List (Nat × Nat)) = q at hA
    cases hA with
    | cons ha hA => cases hA with
      | cons hb hA => cases hA; exact ⟨_, _, rfl, ha.1, hb.1⟩
  obtain ⟨ws, ds, rfl, rfl, hwl, hws⟩ := ha
  have hwl : ws.length = 25 := hwl
  obtain ⟨a, h1⟩ : ∃ a, ws[1]? = some (.int .i64 a) := by
    rw [RepCells_cons] at hws
    obtain ⟨d, ds', e, _, hws⟩ := hws
    rw [RepCells_cons] at hws
    obtain ⟨d, ds', e, ⟨v, hv, hr⟩, _⟩ := hws
    rw [Rep_int] at hr
    obtain ⟨n, rfl, e, _⟩ := hr
    exact ⟨n, hv⟩
  obtain ⟨p, c, rfl⟩ : ∃ p c, v2 = .slice p 0 c := by
    rw [Rep_lst] at hb
    obtain ⟨L, e, hLl, hc⟩ := hb
    cases e
    rcases hc with ⟨rfl, _⟩ | ⟨b, off, sp, cap, rfl, _⟩
    · exact ⟨_, _, rfl⟩
    · exact ⟨_, _, rfl⟩
  refine (newer0 ws a hwl h1 p c w).mono ?_
  rintro e w' ⟨rfl, hbl⟩
  refine fun_grown (fun b o v hv => ?_) ⟨hbl.os, hbl.tape, hbl.output, hbl.size, fun k hk _ => hbl.block k hk⟩ rfl ⟨_, rfl, ?_, rfl⟩
  · have hcell := (hM b o v hv).1
    exact ⟨(hbl.cell (p := ⟨b, o, none⟩) (lt_of_cell hcell)).trans hcell, (hM b o v hv).2⟩
  · rw [Rep_bool]
    exact ⟨_, rfl, rfl⟩
def isNilD : D → Bool
  | .lst [] => true
  | _ => false
theorem isNilD_eq {d : D} (h : isNilD d = true) : d = .lst [] := by
  unfold isNilD at h
  split at h
  · rfl
  · cases h
def nNewer : NEnt := ⟨47, [tM, tMs], [tB], fun ds => match ds with
  | [_, l] => if isNilD l = true then some (.ok [.bool true]) else none
  | _ => none⟩
theorem nNewer_ok : NEntOK Try.prog [] nNewer := by
  intro ds r h
  simp only [nNewer] at h
  split at h
  · rename_i d l
    split at h
    · rename_i hl
      cases h
      have := isNilD_eq hl
      subst this
      exact newer_nil d
    · cases h
  · cases h
def nIdent : NEnt := ⟨95, [tZ], [tB], fun ds => match ds with
  | [.str s] => if Nat.ble s.size 1000 then some (.ok [.bool (nameS s)]) else none
  | _ => none⟩
theorem nIdent_ok : NEntOK Try.prog [] nIdent := by
  intro ds r h
  simp only [nIdent] at h
  split at h
  · rename_i s
    split at h
    · rename_i hs
      cases h
      exact ident_fn s (Nat.le_trans (Nat.le_of_ble_eq_true hs) (by decide))
    · cases h
  · cases h
def nClRd : NEnt := ⟨71, [tR], [tR], fun ds => match ds with
  | [l] => if isNilD l = true then some (.ok [.lst []]) else none
  | _ => none⟩
theorem nClRd_ok : NEntOK Try.prog [] nClRd := by
  intro ds r h
  simp only [nClRd] at h
  split at h
  · rename_i l
    split at h
    · rename_i hl
      cases h
      have := isNilD_eq hl
      subst this
      exact clonerd_fn [] (Nat.zero_le _)
    · cases h
  · cases h
def nClPe : NEnt := ⟨72, [tR], [tR], fun ds => match ds with
  | [l] => if isNilD l = true then some (.ok [.lst []]) else none
  | _ => none⟩
theorem nClPe_ok : NEntOK Try.prog [] nClPe := by
  intro ds r h
  simp only [nClPe] at h
  split at h
  · rename_i l
    split at h
    · rename_i hl
      cases h
      have := isNilD_eq hl
      subst this
      exact clper_fn [] (Nat.zero_le _)
    · cases h
  · cases h
def nClTk : NEnt := ⟨73, [tTk], [tTk], fun ds => match ds with
  | [l] => if isNilD l = true then some (.ok [.lst []]) else none
  | _ => none⟩
theorem nClTk_ok : NEntOK Try.prog [] nClTk := by
  intro ds r h
  simp only [nClTk] at h
  split at h
  · rename_i l
    split at h
    · rename_i hl
      cases h
      have := isNilD_eq hl
      subst this
      exact cltok_fn [] (Nat.zero_le _)
    · cases h
  · cases h
def natX : List NEnt := [nNewer, nIdent, nClRd, nClPe, nClTk]
theorem natX_ok : ∀ e ∈ natX, NEntOK Try.prog [] e := by
  intro e he
  simp only [natX, List.mem_cons, List.not_mem_nil, or_false] at he
  rcases he with rfl | rfl | rfl | rfl | rfl
  · exact nNewer_ok
  · exact nIdent_ok
  · exact nClRd_ok
  · exact nClPe_ok
  · exact nClTk_ok
def entX : List Ent := [⟨12, [], [(.c .bool)], C27.vcawake⟩,
  ⟨28, [(.c (.int .i64))], [(.g shM)], C27.vcbeat⟩,
  ⟨35, [(.c (.int .i64))], [(.g shM)], C27.vcdone⟩,
  ⟨15, [(.c (.int .i64)), (.c (.int .i64)), (.c (.int .i64))], [(.g [(.int .i64), (.int .i64), (.int .i64), (.lst shM), (.lst shM), (.int .i64), (.int .i64), (.lst shM)]), (.c (.int .i64))], C27.vcnew⟩,
  ⟨19, [(.g [(.int .i64), (.int .i64), (.int .i64), (.lst shM), (.lst shM), (.int .i64), (.int .i64), (.lst shM)]), (.g shM)], [(.g [(.int .i64), (.int .i64), (.int .i64), (.lst shM), (.lst shM), (.int .i64), (.int .i64), (.lst shM)]), (.c (.int .i64)), (.c (.int .i64))], C27.vccall⟩,
  ⟨13, [(.g [(.int .i64), (.int .i64), (.int .i64), (.lst shM), (.lst shM), (.int .i64), (.int .i64), (.lst shM)])], [(.c (.int .i64))], C27.vcval⟩,
  ⟨36, [(.c (.int .i64)), (.c (.int .i64))], [(.c .bool)], C27.vcset⟩,
  ⟨37, [(.g [(.int .i64), (.int .i64), (.int .i64), (.lst shM), (.lst shM), (.int .i64), (.int .i64), (.lst shM)])], [(.c .bool)], C27.vcwait⟩,
  ⟨21, [(.g [(.int .i64), (.int .i64), (.int .i64), (.lst shM), (.lst shM), (.int .i64), (.int .i64), (.lst shM)]), (.c (.int .i64))], [(.g [(.int .i64), (.int .i64), (.int .i64), (.lst shM), (.lst shM), (.int .i64), (.int .i64), (.lst shM)]), (.c (.lst shM)), (.c (.lst shM))], C27.vcsend⟩,
  ⟨24, [(.g [(.int .i64), (.int .i64), (.int .i64), (.lst shM), (.lst shM), (.int .i64), (.int .i64), (.lst shM)]), (.g shM)], [(.g [(.int .i64), (.int .i64), (.int .i64), (.lst shM), (.lst shM), (.int .i64), (.int .i64), (.lst shM)]), (.c (.lst shM)), (.c (.lst shM)), (.c (.lst shM))], C27.vcrecv⟩,
  ⟨26, [(.g [(.int .i64), (.int .i64), (.int .i64), (.lst shM), (.lst shM), (.int .i64), (.int .i64), (.lst shM)]), (.g shM)], [(.g [(.int .i64), (.int .i64), (.int .i64), (.lst shM), (.lst shM), (.int .i64), (.int .i64), (.lst shM)]), (.c (.int .i64))], C27.vcans⟩,
  ⟨39, [(.g shM)], [(.c .bool)], C27.vcisr⟩,
  ⟨43, [(.g [(.int .i64), (.int .i64), (.int .i64), (.lst shM), (.lst shM), (.int .i64), (.int .i64), (.lst shM)])], [(.h [(.s (.int .i64)), (.s (.int .i64)), (.s (.int .i64)), (.r shM), (.r shM), (.s (.int .i64)), (.s (.int .i64)), (.r shM)])], C27.vccop⟩,
  ⟨44, [(.c (.lst shM))], [(.r shM)], C27.vccoll⟩,
  ⟨23, [(.c (.lst shM)), (.c (.lst shM))], [(.c .bool)], C27.vcsameall⟩,
  ⟨38, [(.g shM)], [(.c (.int .i64))], V26.vcmval⟩,
  ⟨56, [(.c (.int .i64)), (.c (.int .i64))], [(.c (.int .i64)), (.c .bool)], V26.vcusd⟩,
  ⟨94, [(.c (.int .i64))], [(.c (.int .i64)), (.c .bool)], V26.vcuic⟩,
  ⟨57, [(.g shM)], [(.c (.int .i64))], V26.vcpres⟩,
  ⟨58, [(.g shM), (.c (.int .i64))], [(.c .bool)], V26.vcmnum⟩,
  ⟨59, [(.g shM), (.c (.int .i64))], [(.c .bool)], V26.vcmnam⟩,
  ⟨60, [(.g shM), (.c (.int .i64))], [(.c (.int .i64))], V26.vcmlis⟩,
  ⟨46, [(.g shM), (.g shM)], [(.c .bool)], R26.vcsame26⟩,
  ⟨74, [(.c (.lst [(.int .i64), (.int .i64)])), (.c (.lst [(.int .i64), (.int .i64)]))], [(.c .bool)], R26.vcsamerd⟩,
  ⟨75, [(.g [(.int .i64), (.int .i64), (.int .i64), (.int .i64), (.int .i64), .str, (.int .i64), (.int .i64), (.int .i64), (.int .i64), (.lst [(.int .i64), (.int .i64)])]), (.g [(.int .i64), (.int .i64), (.int .i64), (.int .i64), (.int .i64), .str, (.int .i64), (.int .i64), (.int .i64), (.int .i64), (.lst [(.int .i64), (.int .i64)])])], [(.c .bool)], R26.vcsamepr⟩,
  ⟨76, [(.c (.lst [.str, .str, .str, (.int .i64), (.int .i64), (.int .i64)])), (.c (.lst [.str, .str, .str, (.int .i64), (.int .i64), (.int .i64)]))], [(.c .bool)], R26.vcsametk⟩]
theorem entX_ok : ∀ e ∈ entX, EntOK Try.prog [] e := by
  intro e he
  simp only [entX, List.mem_cons, List.not_mem_nil, or_false] at he
  rcases he with rfl | rfl | rfl | rfl | rfl | rfl | rfl | rfl | rfl | rfl | rfl | rfl | rfl | rfl | rfl | rfl | rfl | rfl | rfl | rfl | rfl | rfl | rfl | rfl | rfl | rfl
  · exact C27.awake_ent
  · exact C27.beat_ent
  · exact C27.done_ent
  · exact C27.new_ent
  · exact C27.call_ent
  · exact C27.val_ent
  · exact C27.set_ent
  · exact C27.wait_ent
  · exact C27.send_ent
  · exact C27.recv_ent
  · exact C27.ans_ent
  · exact C27.isr_ent
  · exact C27.cop_ent
  · exact C27.coll_ent
  · exact C27.sameall_ent
  · exact V26.mval_ent
  · exact V26.usd_ent
  · exact V26.uic_ent
  · exact V26.pres_ent
  · exact V26.mnum_ent
  · exact V26.mnam_ent
  · exact V26.mlis_ent
  · exact R26.same26_ent
  · exact R26.samerd_ent
  · exact R26.samepr_ent
  · exact R26.sametk_ent
theorem ex_fn : Fun Try.prog [] 12 [] [] [tB] (.ok [.bool true]) := fun_of_evalG natX_ok entX_ok 60 (by kernel_rfl)

end Go.Proofs.Ytmplgfkhknhacaa.C27
set_option maxRecDepth 100000
set_option linter.unusedSimpArgs false
set_option linter.unusedVariables false
namespace Go.Proofs.Ytmplgfkhknhacaa.C27
open Go.Proofs.Ytmplgfkhknhacaa Go.Proofs.Ytmplgfkhknhacaa.Sy Go.Proofs.Ytmplgfkhknhacaa.L7 Go.Proofs.Ytmplgfkhknhacaa.Id Go.Proofs.Ytmplgfkhknhacaa.R26 Go.Proofs.Ytmplgfkhknhacaa.V26 Go.Proofs.Ytmplgfkhknhacaa.N27 Go.RowKit Go.WideShapes Go.ChangeShapes Go.ChangeAt
def sgsl : Nat → Option (List TS × List TS) := fun _ => none
def vclCallValids : VC := (.cal 11 [(.g [(.int .i64), (.int .i64), (.int .i64), (.lst shM), (.lst shM), (.int .i64), (.int .i64), (.lst shM)])] [(.rc (.cons (.v 0) (.cons (.v 1) (.cons (.v 2) (.cons (.v 3) (.cons (.v 4) (.cons (.v 5) (.cons (.v 6) (.cons (.v 7) .nil)))))))))] [(.c .bool)] 8
 (.ite (.v 8)
  (.ev [(.call 13 [(.g [(.int .i64), (.int .i64), (.int .i64), (.lst shM), (.lst shM), (.int .i64), (.int .i64), (.lst shM)])] [(.rc (.cons (.v 0) (.cons (.v 1) (.cons (.v 2) (.cons (.v 3) (.cons (.v 4) (.cons (.v 5) (.cons (.v 6) (.cons (.v 7) .nil)))))))))] [(.c (.int .i64))] 9), (.call 14 [(.g [(.int .i64), (.int .i64), (.int .i64), (.lst shM), (.lst shM), (.int .i64), (.int .i64), (.lst shM)])] [(.rc (.cons (.v 0) (.cons (.v 1) (.cons (.v 2) (.cons (.v 3) (.cons (.v 4) (.cons (.v 5) (.cons (.v 6) (.cons (.v 7) .nil)))))))))] [(.c (.int .i64))] 10)]
   (.ite (.cmp .eql (.v 9) (.v 10))
    (.ev [(.call 12 [] [] [(.c .bool)] 11)]
     (.ret [(.v 11)]))
    (.ret [(.kb false)])))
  (.cal 12 [] [] [(.c .bool)] 9
   (.ret [(.v 9)]))))
theorem lCallValids_ent : EntOK Try.prog [] ⟨3, [(.g [(.int .i64), (.int .i64), (.int .i64), (.lst shM), (.lst shM), (.int .i64), (.int .i64), (.lst shM)])], [(.c .bool)], vclCallValids⟩ :=
  ent_of_gen hP Try.func3 rfl (by decide) (sg := sgsl) (by kernel_rfl)
def vclCallNews : VC := (.cal 15 [(.c (.int .i64)), (.c (.int .i64)), (.c (.int .i64))] [(.v 0), (.v 1), (.v 2)] [(.g [(.int .i64), (.int .i64), (.int .i64), (.lst shM), (.lst shM), (.int .i64), (.int .i64), (.lst shM)]), (.c (.int .i64))] 3
 (.cal 16 [(.c (.int .i64)), (.c (.int .i64)), (.c (.int .i64))] [(.v 0), (.v 1), (.v 2)] [(.g [(.int .i64), (.int .i64), (.int .i64), (.lst shM), (.lst shM), (.int .i64), (.int .i64), (.lst shM)]), (.c (.int .i64))] 12
  (.cal 17 [(.g [(.int .i64), (.int .i64), (.int .i64), (.lst shM), (.lst shM), (.int .i64), (.int .i64), (.lst shM)]), (.g [(.int .i64), (.int .i64), (.int .i64), (.lst shM), (.lst shM), (.int .i64), (.int .i64), (.lst shM)])] [(.rc (.cons (.v 3) (.cons (.v 4) (.cons (.v 5) (.cons (.v 6) (.cons (.v 7) (.cons (.v 8) (.cons (.v 9) (.cons (.v 10) .nil))))))))), (.rc (.cons (.v 12) (.cons (.v 13) (.cons (.v 14) (.cons (.v 15) (.cons (.v 16) (.cons (.v 17) (.cons (.v 18) (.cons (.v 19) .nil)))))))))] [(.c .bool)] 21
   (.ite (.v 21)
    (.ite (.cmp .eql (.v 11) (.v 20))
     (.cal 12 [] [] [(.c .bool)] 22
      (.ret [(.v 22)]))
     (.ret [(.kb false)]))
    (.ret [(.kb false)])))))
theorem lCallNews_ent : EntOK Try.prog [] ⟨4, [(.c (.int .i64)), (.c (.int .i64)), (.c (.int .i64))], [(.c .bool)], vclCallNews⟩ :=
  ent_of_gen hP Try.func4 rfl (by decide) (sg := sgsl) (by kernel_rfl)
def vclCallQueues : VC := (.cal 11 [(.g [(.int .i64), (.int .i64), (.int .i64), (.lst shM), (.lst shM), (.int .i64), (.int .i64), (.lst shM)])] [(.rc (.cons (.v 0) (.cons (.v 1) (.cons (.v 2) (.cons (.v 3) (.cons (.v 4) (.cons (.v 5) (.cons (.v 6) (.cons (.v 7) .nil)))))))))] [(.c .bool)] 33
 (.ite (.v 33)
  (.cal 18 [(.c (.lst shM))] [(.cons (.rc (.cons (.v 8) (.cons (.v 9) (.cons (.v 10) (.cons (.v 11) (.cons (.v 12) (.cons (.v 13) (.cons (.v 14) (.cons (.v 15) (.cons (.v 16) (.cons (.v 17) (.cons (.v 18) (.cons (.v 19) (.cons (.v 20) (.cons (.v 21) (.cons (.v 22) (.cons (.v 23) (.cons (.v 24) (.cons (.v 25) (.cons (.v 26) (.cons (.v 27) (.cons (.v 28) (.cons (.v 29) (.cons (.v 30) (.cons (.v 31) (.cons (.v 32) .nil)))))))))))))))))))))))))) .nil)] [(.c .bool)] 34
   (.ite (.v 34)
    (.cal 14 [(.g [(.int .i64), (.int .i64), (.int .i64), (.lst shM), (.lst shM), (.int .i64), (.int .i64), (.lst shM)])] [(.rc (.cons (.v 0) (.cons (.v 1) (.cons (.v 2) (.cons (.v 3) (.cons (.v 4) (.cons (.v 5) (.cons (.v 6) (.cons (.v 7) .nil)))))))))] [(.c (.int .i64))] 35
     (.ite (.cmp .neq (.v 35) (.ki .i64 0))
      (.cal 12 [] [] [(.c .bool)] 36
       (.ret [(.v 36)]))
      (.cal 19 [(.g [(.int .i64), (.int .i64), (.int .i64), (.lst shM), (.lst shM), (.int .i64), (.int .i64), (.lst shM)]), (.g shM)] [(.rc (.cons (.v 0) (.cons (.v 1) (.cons (.v 2) (.cons (.v 3) (.cons (.v 4) (.cons (.v 5) (.cons (.v 6) (.cons (.v 7) .nil))))))))), (.rc (.cons (.v 8) (.cons (.v 9) (.cons (.v 10) (.cons (.v 11) (.cons (.v 12) (.cons (.v 13) (.cons (.v 14) (.cons (.v 15) (.cons (.v 16) (.cons (.v 17) (.cons (.v 18) (.cons (.v 19) (.cons (.v 20) (.cons (.v 21) (.cons (.v 22) (.cons (.v 23) (.cons (.v 24) (.cons (.v 25) (.cons (.v 26) (.cons (.v 27) (.cons (.v 28) (.cons (.v 29) (.cons (.v 30) (.cons (.v 31) (.cons (.v 32) .nil))))))))))))))))))))))))))] [(.g [(.int .i64), (.int .i64), (.int .i64), (.lst shM), (.lst shM), (.int .i64), (.int .i64), (.lst shM)]), (.c (.int .i64)), (.c (.int .i64))] 36
       (.cal 20 [(.g [(.int .i64), (.int .i64), (.int .i64), (.lst shM), (.lst shM), (.int .i64), (.int .i64), (.lst shM)]), (.g shM)] [(.rc (.cons (.v 0) (.cons (.v 1) (.cons (.v 2) (.cons (.v 3) (.cons (.v 4) (.cons (.v 5) (.cons (.v 6) (.cons (.v 7) .nil))))))))), (.rc (.cons (.v 8) (.cons (.v 9) (.cons (.v 10) (.cons (.v 11) (.cons (.v 12) (.cons (.v 13) (.cons (.v 14) (.cons (.v 15) (.cons (.v 16) (.cons (.v 17) (.cons (.v 18) (.cons (.v 19) (.cons (.v 20) (.cons (.v 21) (.cons (.v 22) (.cons (.v 23) (.cons (.v 24) (.cons (.v 25) (.cons (.v 26) (.cons (.v 27) (.cons (.v 28) (.cons (.v 29) (.cons (.v 30) (.cons (.v 31) (.cons (.v 32) .nil))))))))))))))))))))))))))] [(.g [(.int .i64), (.int .i64), (.int .i64), (.lst shM), (.lst shM), (.int .i64), (.int .i64), (.lst shM)]), (.c (.int .i64)), (.c (.int .i64))] 46
        (.cal 17 [(.g [(.int .i64), (.int .i64), (.int .i64), (.lst shM), (.lst shM), (.int .i64), (.int .i64), (.lst shM)]), (.g [(.int .i64), (.int .i64), (.int .i64), (.lst shM), (.lst shM), (.int .i64), (.int .i64), (.lst shM)])] [(.rc (.cons (.v 36) (.cons (.v 37) (.cons (.v 38) (.cons (.v 39) (.cons (.v 40) (.cons (.v 41) (.cons (.v 42) (.cons (.v 43) .nil))))))))), (.rc (.cons (.v 46) (.cons (.v 47) (.cons (.v 48) (.cons (.v 49) (.cons (.v 50) (.cons (.v 51) (.cons (.v 52) (.cons (.v 53) .nil)))))))))] [(.c .bool)] 56
         (.ite (.v 56)
          (.ite (.cmp .eql (.v 44) (.v 54))
           (.ite (.cmp .eql (.v 45) (.v 55))
            (.cal 13 [(.g [(.int .i64), (.int .i64), (.int .i64), (.lst shM), (.lst shM), (.int .i64), (.int .i64), (.lst shM)])] [(.rc (.cons (.v 36) (.cons (.v 37) (.cons (.v 38) (.cons (.v 39) (.cons (.v 40) (.cons (.v 41) (.cons (.v 42) (.cons (.v 43) .nil)))))))))] [(.c (.int .i64))] 57
             (.ite (.cmp .eql (.v 57) (.ki .i64 0))
              (.cal 12 [] [] [(.c .bool)] 58
               (.ret [(.v 58)]))
              (.ret [(.kb false)])))
            (.ret [(.kb false)]))
           (.ret [(.kb false)]))
          (.ret [(.kb false)])))))))
    (.cal 12 [] [] [(.c .bool)] 35
     (.ret [(.v 35)]))))
  (.cal 12 [] [] [(.c .bool)] 34
   (.ret [(.v 34)]))))
theorem lCallQueues_ent : EntOK Try.prog [] ⟨5, [(.g [(.int .i64), (.int .i64), (.int .i64), (.lst shM), (.lst shM), (.int .i64), (.int .i64), (.lst shM)]), (.g shM)], [(.c .bool)], vclCallQueues⟩ :=
  ent_of_gen hP Try.func5 rfl (by decide) (sg := sgsl) (by kernel_rfl)
def vclCallSends : VC := (.cal 11 [(.g [(.int .i64), (.int .i64), (.int .i64), (.lst shM), (.lst shM), (.int .i64), (.int .i64), (.lst shM)])] [(.rc (.cons (.v 0) (.cons (.v 1) (.cons (.v 2) (.cons (.v 3) (.cons (.v 4) (.cons (.v 5) (.cons (.v 6) (.cons (.v 7) .nil)))))))))] [(.c .bool)] 9
 (.ite (.v 9)
  (.cal 14 [(.g [(.int .i64), (.int .i64), (.int .i64), (.lst shM), (.lst shM), (.int .i64), (.int .i64), (.lst shM)])] [(.rc (.cons (.v 0) (.cons (.v 1) (.cons (.v 2) (.cons (.v 3) (.cons (.v 4) (.cons (.v 5) (.cons (.v 6) (.cons (.v 7) .nil)))))))))] [(.c (.int .i64))] 10
   (.ite (.cmp .neq (.v 10) (.ki .i64 0))
    (.cal 12 [] [] [(.c .bool)] 11
     (.ret [(.v 11)]))
    (.cal 21 [(.g [(.int .i64), (.int .i64), (.int .i64), (.lst shM), (.lst shM), (.int .i64), (.int .i64), (.lst shM)]), (.c (.int .i64))] [(.rc (.cons (.v 0) (.cons (.v 1) (.cons (.v 2) (.cons (.v 3) (.cons (.v 4) (.cons (.v 5) (.cons (.v 6) (.cons (.v 7) .nil))))))))), (.v 8)] [(.g [(.int .i64), (.int .i64), (.int .i64), (.lst shM), (.lst shM), (.int .i64), (.int .i64), (.lst shM)]), (.c (.lst shM)), (.c (.lst shM))] 11
     (.cal 22 [(.g [(.int .i64), (.int .i64), (.int .i64), (.lst shM), (.lst shM), (.int .i64), (.int .i64), (.lst shM)]), (.c (.int .i64))] [(.rc (.cons (.v 0) (.cons (.v 1) (.cons (.v 2) (.cons (.v 3) (.cons (.v 4) (.cons (.v 5) (.cons (.v 6) (.cons (.v 7) .nil))))))))), (.v 8)] [(.g [(.int .i64), (.int .i64), (.int .i64), (.lst shM), (.lst shM), (.int .i64), (.int .i64), (.lst shM)]), (.c (.lst shM)), (.c (.lst shM))] 21
      (.cal 17 [(.g [(.int .i64), (.int .i64), (.int .i64), (.lst shM), (.lst shM), (.int .i64), (.int .i64), (.lst shM)]), (.g [(.int .i64), (.int .i64), (.int .i64), (.lst shM), (.lst shM), (.int .i64), (.int .i64), (.lst shM)])] [(.rc (.cons (.v 11) (.cons (.v 12) (.cons (.v 13) (.cons (.v 14) (.cons (.v 15) (.cons (.v 16) (.cons (.v 17) (.cons (.v 18) .nil))))))))), (.rc (.cons (.v 21) (.cons (.v 22) (.cons (.v 23) (.cons (.v 24) (.cons (.v 25) (.cons (.v 26) (.cons (.v 27) (.cons (.v 28) .nil)))))))))] [(.c .bool)] 31
       (.ite (.v 31)
        (.cal 23 [(.c (.lst shM)), (.c (.lst shM))] [(.v 19), (.v 29)] [(.c .bool)] 32
         (.ite (.v 32)
          (.cal 23 [(.c (.lst shM)), (.c (.lst shM))] [(.v 20), (.v 30)] [(.c .bool)] 33
           (.ite (.v 33)
            (.cal 13 [(.g [(.int .i64), (.int .i64), (.int .i64), (.lst shM), (.lst shM), (.int .i64), (.int .i64), (.lst shM)])] [(.rc (.cons (.v 11) (.cons (.v 12) (.cons (.v 13) (.cons (.v 14) (.cons (.v 15) (.cons (.v 16) (.cons (.v 17) (.cons (.v 18) .nil)))))))))] [(.c (.int .i64))] 34
             (.ite (.cmp .eql (.v 34) (.ki .i64 0))
              (.cal 12 [] [] [(.c .bool)] 35
               (.ret [(.v 35)]))
              (.ret [(.kb false)])))
            (.ret [(.kb false)])))
          (.ret [(.kb false)])))
        (.ret [(.kb false)])))))))
  (.cal 12 [] [] [(.c .bool)] 10
   (.ret [(.v 10)]))))
theorem lCallSends_ent : EntOK Try.prog [] ⟨6, [(.g [(.int .i64), (.int .i64), (.int .i64), (.lst shM), (.lst shM), (.int .i64), (.int .i64), (.lst shM)]), (.c (.int .i64))], [(.c .bool)], vclCallSends⟩ :=
  ent_of_gen hP Try.func6 rfl (by decide) (sg := sgsl) (by kernel_rfl)
def vclCallReceives : VC := (.cal 11 [(.g [(.int .i64), (.int .i64), (.int .i64), (.lst shM), (.lst shM), (.int .i64), (.int .i64), (.lst shM)])] [(.rc (.cons (.v 0) (.cons (.v 1) (.cons (.v 2) (.cons (.v 3) (.cons (.v 4) (.cons (.v 5) (.cons (.v 6) (.cons (.v 7) .nil)))))))))] [(.c .bool)] 33
 (.ite (.v 33)
  (.cal 18 [(.c (.lst shM))] [(.cons (.rc (.cons (.v 8) (.cons (.v 9) (.cons (.v 10) (.cons (.v 11) (.cons (.v 12) (.cons (.v 13) (.cons (.v 14) (.cons (.v 15) (.cons (.v 16) (.cons (.v 17) (.cons (.v 18) (.cons (.v 19) (.cons (.v 20) (.cons (.v 21) (.cons (.v 22) (.cons (.v 23) (.cons (.v 24) (.cons (.v 25) (.cons (.v 26) (.cons (.v 27) (.cons (.v 28) (.cons (.v 29) (.cons (.v 30) (.cons (.v 31) (.cons (.v 32) .nil)))))))))))))))))))))))))) .nil)] [(.c .bool)] 34
   (.ite (.v 34)
    (.cal 14 [(.g [(.int .i64), (.int .i64), (.int .i64), (.lst shM), (.lst shM), (.int .i64), (.int .i64), (.lst shM)])] [(.rc (.cons (.v 0) (.cons (.v 1) (.cons (.v 2) (.cons (.v 3) (.cons (.v 4) (.cons (.v 5) (.cons (.v 6) (.cons (.v 7) .nil)))))))))] [(.c (.int .i64))] 35
     (.ite (.cmp .neq (.v 35) (.ki .i64 0))
      (.cal 12 [] [] [(.c .bool)] 36
       (.ret [(.v 36)]))
      (.cal 24 [(.g [(.int .i64), (.int .i64), (.int .i64), (.lst shM), (.lst shM), (.int .i64), (.int .i64), (.lst shM)]), (.g shM)] [(.rc (.cons (.v 0) (.cons (.v 1) (.cons (.v 2) (.cons (.v 3) (.cons (.v 4) (.cons (.v 5) (.cons (.v 6) (.cons (.v 7) .nil))))))))), (.rc (.cons (.v 8) (.cons (.v 9) (.cons (.v 10) (.cons (.v 11) (.cons (.v 12) (.cons (.v 13) (.cons (.v 14) (.cons (.v 15) (.cons (.v 16) (.cons (.v 17) (.cons (.v 18) (.cons (.v 19) (.cons (.v 20) (.cons (.v 21) (.cons (.v 22) (.cons (.v 23) (.cons (.v 24) (.cons (.v 25) (.cons (.v 26) (.cons (.v 27) (.cons (.v 28) (.cons (.v 29) (.cons (.v 30) (.cons (.v 31) (.cons (.v 32) .nil))))))))))))))))))))))))))] [(.g [(.int .i64), (.int .i64), (.int .i64), (.lst shM), (.lst shM), (.int .i64), (.int .i64), (.lst shM)]), (.c (.lst shM)), (.c (.lst shM)), (.c (.lst shM))] 36
       (.cal 25 [(.g [(.int .i64), (.int .i64), (.int .i64), (.lst shM), (.lst shM), (.int .i64), (.int .i64), (.lst shM)]), (.g shM)] [(.rc (.cons (.v 0) (.cons (.v 1) (.cons (.v 2) (.cons (.v 3) (.cons (.v 4) (.cons (.v 5) (.cons (.v 6) (.cons (.v 7) .nil))))))))), (.rc (.cons (.v 8) (.cons (.v 9) (.cons (.v 10) (.cons (.v 11) (.cons (.v 12) (.cons (.v 13) (.cons (.v 14) (.cons (.v 15) (.cons (.v 16) (.cons (.v 17) (.cons (.v 18) (.cons (.v 19) (.cons (.v 20) (.cons (.v 21) (.cons (.v 22) (.cons (.v 23) (.cons (.v 24) (.cons (.v 25) (.cons (.v 26) (.cons (.v 27) (.cons (.v 28) (.cons (.v 29) (.cons (.v 30) (.cons (.v 31) (.cons (.v 32) .nil))))))))))))))))))))))))))] [(.g [(.int .i64), (.int .i64), (.int .i64), (.lst shM), (.lst shM), (.int .i64), (.int .i64), (.lst shM)]), (.c (.lst shM)), (.c (.lst shM)), (.c (.lst shM))] 47
        (.cal 17 [(.g [(.int .i64), (.int .i64), (.int .i64), (.lst shM), (.lst shM), (.int .i64), (.int .i64), (.lst shM)]), (.g [(.int .i64), (.int .i64), (.int .i64), (.lst shM), (.lst shM), (.int .i64), (.int .i64), (.lst shM)])] [(.rc (.cons (.v 36) (.cons (.v 37) (.cons (.v 38) (.cons (.v 39) (.cons (.v 40) (.cons (.v 41) (.cons (.v 42) (.cons (.v 43) .nil))))))))), (.rc (.cons (.v 47) (.cons (.v 48) (.cons (.v 49) (.cons (.v 50) (.cons (.v 51) (.cons (.v 52) (.cons (.v 53) (.cons (.v 54) .nil)))))))))] [(.c .bool)] 58
         (.ite (.v 58)
          (.cal 23 [(.c (.lst shM)), (.c (.lst shM))] [(.v 44), (.v 55)] [(.c .bool)] 59
           (.ite (.v 59)
            (.cal 23 [(.c (.lst shM)), (.c (.lst shM))] [(.v 45), (.v 56)] [(.c .bool)] 60
             (.ite (.v 60)
              (.cal 23 [(.c (.lst shM)), (.c (.lst shM))] [(.v 46), (.v 57)] [(.c .bool)] 61
               (.ite (.v 61)
                (.cal 13 [(.g [(.int .i64), (.int .i64), (.int .i64), (.lst shM), (.lst shM), (.int .i64), (.int .i64), (.lst shM)])] [(.rc (.cons (.v 36) (.cons (.v 37) (.cons (.v 38) (.cons (.v 39) (.cons (.v 40) (.cons (.v 41) (.cons (.v 42) (.cons (.v 43) .nil)))))))))] [(.c (.int .i64))] 62
                 (.ite (.cmp .eql (.v 62) (.ki .i64 0))
                  (.cal 12 [] [] [(.c .bool)] 63
                   (.ret [(.v 63)]))
                  (.ret [(.kb false)])))
                (.ret [(.kb false)])))
              (.ret [(.kb false)])))
            (.ret [(.kb false)])))
          (.ret [(.kb false)])))))))
    (.cal 12 [] [] [(.c .bool)] 35
     (.ret [(.v 35)]))))
  (.cal 12 [] [] [(.c .bool)] 34
   (.ret [(.v 34)]))))
theorem lCallReceives_ent : EntOK Try.prog [] ⟨7, [(.g [(.int .i64), (.int .i64), (.int .i64), (.lst shM), (.lst shM), (.int .i64), (.int .i64), (.lst shM)]), (.g shM)], [(.c .bool)], vclCallReceives⟩ :=
  ent_of_gen hP Try.func7 rfl (by decide) (sg := sgsl) (by kernel_rfl)
def vclCallAnswers : VC := (.cal 11 [(.g [(.int .i64), (.int .i64), (.int .i64), (.lst shM), (.lst shM), (.int .i64), (.int .i64), (.lst shM)])] [(.rc (.cons (.v 0) (.cons (.v 1) (.cons (.v 2) (.cons (.v 3) (.cons (.v 4) (.cons (.v 5) (.cons (.v 6) (.cons (.v 7) .nil)))))))))] [(.c .bool)] 33
 (.ite (.v 33)
  (.cal 18 [(.c (.lst shM))] [(.cons (.rc (.cons (.v 8) (.cons (.v 9) (.cons (.v 10) (.cons (.v 11) (.cons (.v 12) (.cons (.v 13) (.cons (.v 14) (.cons (.v 15) (.cons (.v 16) (.cons (.v 17) (.cons (.v 18) (.cons (.v 19) (.cons (.v 20) (.cons (.v 21) (.cons (.v 22) (.cons (.v 23) (.cons (.v 24) (.cons (.v 25) (.cons (.v 26) (.cons (.v 27) (.cons (.v 28) (.cons (.v 29) (.cons (.v 30) (.cons (.v 31) (.cons (.v 32) .nil)))))))))))))))))))))))))) .nil)] [(.c .bool)] 34
   (.ite (.v 34)
    (.cal 14 [(.g [(.int .i64), (.int .i64), (.int .i64), (.lst shM), (.lst shM), (.int .i64), (.int .i64), (.lst shM)])] [(.rc (.cons (.v 0) (.cons (.v 1) (.cons (.v 2) (.cons (.v 3) (.cons (.v 4) (.cons (.v 5) (.cons (.v 6) (.cons (.v 7) .nil)))))))))] [(.c (.int .i64))] 35
     (.ite (.cmp .neq (.v 35) (.ki .i64 0))
      (.cal 12 [] [] [(.c .bool)] 36
       (.ret [(.v 36)]))
      (.cal 26 [(.g [(.int .i64), (.int .i64), (.int .i64), (.lst shM), (.lst shM), (.int .i64), (.int .i64), (.lst shM)]), (.g shM)] [(.rc (.cons (.v 0) (.cons (.v 1) (.cons (.v 2) (.cons (.v 3) (.cons (.v 4) (.cons (.v 5) (.cons (.v 6) (.cons (.v 7) .nil))))))))), (.rc (.cons (.v 8) (.cons (.v 9) (.cons (.v 10) (.cons (.v 11) (.cons (.v 12) (.cons (.v 13) (.cons (.v 14) (.cons (.v 15) (.cons (.v 16) (.cons (.v 17) (.cons (.v 18) (.cons (.v 19) (.cons (.v 20) (.cons (.v 21) (.cons (.v 22) (.cons (.v 23) (.cons (.v 24) (.cons (.v 25) (.cons (.v 26) (.cons (.v 27) (.cons (.v 28) (.cons (.v 29) (.cons (.v 30) (.cons (.v 31) (.cons (.v 32) .nil))))))))))))))))))))))))))] [(.g [(.int .i64), (.int .i64), (.int .i64), (.lst shM), (.lst shM), (.int .i64), (.int .i64), (.lst shM)]), (.c (.int .i64))] 36
       (.cal 27 [(.g [(.int .i64), (.int .i64), (.int .i64), (.lst shM), (.lst shM), (.int .i64), (.int .i64), (.lst shM)]), (.g shM)] [(.rc (.cons (.v 0) (.cons (.v 1) (.cons (.v 2) (.cons (.v 3) (.cons (.v 4) (.cons (.v 5) (.cons (.v 6) (.cons (.v 7) .nil))))))))), (.rc (.cons (.v 8) (.cons (.v 9) (.cons (.v 10) (.cons (.v 11) (.cons (.v 12) (.cons (.v 13) (.cons (.v 14) (.cons (.v 15) (.cons (.v 16) (.cons (.v 17) (.cons (.v 18) (.cons (.v 19) (.cons (.v 20) (.cons (.v 21) (.cons (.v 22) (.cons (.v 23) (.cons (.v 24) (.cons (.v 25) (.cons (.v 26) (.cons (.v 27) (.cons (.v 28) (.cons (.v 29) (.cons (.v 30) (.cons (.v 31) (.cons (.v 32) .nil))))))))))))))))))))))))))] [(.g [(.int .i64), (.int .i64), (.int .i64), (.lst shM), (.lst shM), (.int .i64), (.int .i64), (.lst shM)]), (.c (.int .i64))] 45
        (.cal 17 [(.g [(.int .i64), (.int .i64), (.int .i64), (.lst shM), (.lst shM), (.int .i64), (.int .i64), (.lst shM)]), (.g [(.int .i64), (.int .i64), (.int .i64), (.lst shM), (.lst shM), (.int .i64), (.int .i64), (.lst shM)])] [(.rc (.cons (.v 36) (.cons (.v 37) (.cons (.v 38) (.cons (.v 39) (.cons (.v 40) (.cons (.v 41) (.cons (.v 42) (.cons (.v 43) .nil))))))))), (.rc (.cons (.v 45) (.cons (.v 46) (.cons (.v 47) (.cons (.v 48) (.cons (.v 49) (.cons (.v 50) (.cons (.v 51) (.cons (.v 52) .nil)))))))))] [(.c .bool)] 54
         (.ite (.v 54)
          (.ite (.cmp .eql (.v 44) (.v 53))
           (.cal 13 [(.g [(.int .i64), (.int .i64), (.int .i64), (.lst shM), (.lst shM), (.int .i64), (.int .i64), (.lst shM)])] [(.rc (.cons (.v 36) (.cons (.v 37) (.cons (.v 38) (.cons (.v 39) (.cons (.v 40) (.cons (.v 41) (.cons (.v 42) (.cons (.v 43) .nil)))))))))] [(.c (.int .i64))] 55
            (.ite (.cmp .eql (.v 55) (.ki .i64 0))
             (.cal 12 [] [] [(.c .bool)] 56
              (.ret [(.v 56)]))
             (.ret [(.kb false)])))
           (.ret [(.kb false)]))
          (.ret [(.kb false)])))))))
    (.cal 12 [] [] [(.c .bool)] 35
     (.ret [(.v 35)]))))
  (.cal 12 [] [] [(.c .bool)] 34
   (.ret [(.v 34)]))))
theorem lCallAnswers_ent : EntOK Try.prog [] ⟨8, [(.g [(.int .i64), (.int .i64), (.int .i64), (.lst shM), (.lst shM), (.int .i64), (.int .i64), (.lst shM)]), (.g shM)], [(.c .bool)], vclCallAnswers⟩ :=
  ent_of_gen hP Try.func8 rfl (by decide) (sg := sgsl) (by kernel_rfl)

theorem typ_msgs {d : D} (h : Typ (.lst shM) d) : ∃ l : List Msg, d = msgsD l ∧ l.length ≤ maxLen ∧ ∀ x ∈ l, MsT x := by
  unfold Typ at h
  obtain ⟨l, rfl, hl, hx⟩ := h
  obtain ⟨L, rfl, hL⟩ := list_read (g := msD) (q := MsT) (p := fun d => Typs shM (d.cells shM)) (fun d hd => by
    cases d with
    | rc ds =>
      have hd2 : TypT tM (.rc ds) := ⟨ds, rfl, hd⟩
      exact typ_msg hd2
    | _ => simp [D.cells, shM, Typs] at hd) l hx
  exact ⟨L, rfl, by simpa using hl, hL⟩
structure EpT (e : Ep) : Prop where
  nx : inI e.nx
  tm : inI e.tm
  rt : inI e.rt
  q : ∀ x ∈ e.qu, MsT x
  o : ∀ x ∈ e.ou, MsT x
  s : ∀ x ∈ e.se, MsT x
theorem typ_ep {d : D} (h : TypT tEp d) : ∃ e : Ep, d = epD e ∧ EpT e := by
  obtain ⟨ds, rfl, h⟩ := h
  unfold Typs at h
  obtain ⟨_, _, rfl, h0, h⟩ := h
  unfold Typs at h
  obtain ⟨_, _, rfl, h1, h⟩ := h
  unfold Typs at h
  obtain ⟨_, _, rfl, h2, h⟩ := h
  unfold Typs at h
  obtain ⟨_, _, rfl, h3, h⟩ := h
  unfold Typs at h
  obtain ⟨_, _, rfl, h4, h⟩ := h
  unfold Typs at h
  obtain ⟨_, _, rfl, h5, h⟩ := h
  unfold Typs at h
  obtain ⟨_, _, rfl, h6, h⟩ := h
  unfold Typs at h
  obtain ⟨_, _, rfl, h7, h⟩ := h
  unfold Typs at h
  subst h
  obtain ⟨a0, rfl, b0⟩ := typ_int h0
  obtain ⟨a1, rfl, b1⟩ := typ_int h1
  obtain ⟨a2, rfl, b2⟩ := typ_int h2
  obtain ⟨a3, rfl, _, b3⟩ := typ_msgs h3
  obtain ⟨a4, rfl, _, b4⟩ := typ_msgs h4
  obtain ⟨a5, rfl, b5⟩ := typ_int h5
  obtain ⟨a6, rfl, b6⟩ := typ_int h6
  obtain ⟨a7, rfl, _, b7⟩ := typ_msgs h7
  exact ⟨⟨a0, a1, a2, a3, a4, a5, a6, a7⟩, rfl, ⟨b0, b1, b2, b3, b4, b7⟩⟩
theorem sh_b {m : Msg} (ht : MsT m) (h : shMs m = true) : MsB m := by
  unfold shMs at h
  rw [Bool.and_eq_true, decide_eq_true_eq] at h
  exact ⟨ht, by omega, by omega, by omega⟩
theorem shL_b {l : List Msg} (ht : ∀ x ∈ l, MsT x) (h : shL l = true) : ∀ x ∈ l, MsB x := fun x hx => sh_b (ht x hx) (List.all_eq_true.1 h x hx)
theorem sm_b {e : Ep} (ht : EpT e) (h : smE e = true) : EpB e := by
  unfold smE at h
  simp only [Bool.and_eq_true, decide_eq_true_eq] at h
  obtain ⟨⟨⟨h1, h2⟩, h3⟩, h4⟩ := h
  exact ⟨by omega, by omega, by omega, shL_b ht.q h2, shL_b ht.o h3, shL_b ht.s h4⟩
structure EOk (e : Ep) : Prop where
  st : 1 ≤ e.tm ∧ e.tm ≤ 1440 ∧ 0 ≤ e.rt ∧ e.rt ≤ 100
  nx : 1 ≤ e.nx ∧ e.nx ≤ 2147483648
  ln : (e.qu.length : Int) ≤ 256 ∧ (e.ou.length : Int) ≤ 1 ∧ (e.se.length : Int) ≤ 16
  w : ((e.ou.length : Int) = 0 ∧ e.tr = 0 ∧ e.du = 0) ∨ ((e.ou.length : Int) ≠ 0 ∧ 1 ≤ e.tr ∧ e.tr ≤ e.rt + 1 ∧ 0 ≤ e.du ∧ e.du ≤ 268436896)
  c : callsE e.nx 0 (e.ou ++ e.qu) = 0
  s : seenE 0 e.se = 0
theorem ep_ok {e : Ep} (h : epS e = 0) : EOk e := by
  unfold epS at h
  split at h
  · cases h
  rename_i h1
  split at h
  · cases h
  rename_i h2
  split at h
  · cases h
  rename_i h3
  split at h
  · rename_i h4
    exact absurd h h4
  rename_i h4
  have h5 : setB e.tm e.rt = true := by
    cases hs : setB e.tm e.rt with
    | true => rfl
    | false => exact absurd (.inl hs) h1
  unfold setB at h5
  rw [decide_eq_true_eq] at h5
  have h6 : waitB e = true := by
    cases hs : waitB e with
    | true => rfl
    | false => exact absurd hs h3
  unfold waitB at h6
  rw [decide_eq_true_eq] at h6
  exact ⟨h5, by omega, by omega, h6, Decidable.not_not.1 h4, h⟩
theorem ok_ep {e : Ep} (h : EOk e) : epS e = 0 := by
  have h1 := h.st
  have h2 := h.nx
  have h3 := h.ln
  have hs : setB e.tm e.rt = true := by unfold setB; rw [decide_eq_true_eq]; exact h1
  have hw : waitB e = true := by unfold waitB; rw [decide_eq_true_eq]; exact h.w
  unfold epS
  rw [if_neg (by rw [hs]; rintro (c | c | c); · cases c
                 · omega
                 · omega), if_neg (by omega), if_neg (by rw [hw]; decide), if_neg (fun c => c h.c)]
  exact h.s
theorem calls_cons {nx a : Int} {m : Msg} {l : List Msg} (h : callsE nx a (m :: l) = 0) : msgS m = 0 ∧ m.ki = 1 ∧ a < m.id ∧ m.id < nx ∧ callsE nx m.id l = 0 := by
  rw [callsE] at h
  split at h
  · rename_i h1; exact absurd h h1
  rename_i h1
  split at h
  · cases h
  rename_i h2
  exact ⟨Decidable.not_not.1 h1, by omega, by omega, by omega, h⟩
theorem cons_calls {nx a : Int} {m : Msg} {l : List Msg} (h1 : msgS m = 0) (h2 : m.ki = 1) (h3 : a < m.id) (h4 : m.id < nx) (h5 : callsE nx m.id l = 0) : callsE nx a (m :: l) = 0 := by
  rw [callsE, if_neg (fun c => c h1), if_neg (by omega)]
  exact h5
theorem calls_mono {nx a b : Int} : ∀ {l : List Msg}, callsE nx a l = 0 → b ≤ a → callsE nx b l = 0
  | [], _, _ => rfl
  | m :: l, h, hb => by
    obtain ⟨h1, h2, h3, h4, h5⟩ := calls_cons h
    exact cons_calls h1 h2 (by omega) h4 h5
theorem calls_snoc {nx : Int} {m : Msg} (h1 : msgS m = 0) (h2 : m.ki = 1) (h3 : m.id = nx) : ∀ {l : List Msg} {a : Int}, callsE nx a l = 0 → a < nx → callsE (nx + 1) a (l ++ [m]) = 0
  | [], a, _, ha => cons_calls h1 h2 (by omega) (by omega) rfl
  | x :: l, a, h, _ => by
    obtain ⟨g1, g2, g3, g4, g5⟩ := calls_cons h
    exact cons_calls g1 g2 g3 (by omega) (calls_snoc h1 h2 h3 g5 g4)
theorem seen_cons {a : Int} {m : Msg} {l : List Msg} (h : seenE a (m :: l) = 0) : msgS m = 0 ∧ resB m = true ∧ a < m.id ∧ seenE m.id l = 0 := by
  rw [seenE] at h
  split at h
  · rename_i h1; exact absurd h h1
  rename_i h1
  split at h
  · cases h
  rename_i h2
  refine ⟨Decidable.not_not.1 h1, ?_, ?_, h⟩
  · cases hr : resB m with
    | true => rfl
    | false => exact absurd (.inl hr) h2
  · have : ¬ m.id ≤ a := fun c => h2 (.inr c)
    omega
theorem cons_seen {a : Int} {m : Msg} {l : List Msg} (h1 : msgS m = 0) (h2 : resB m = true) (h3 : a < m.id) (h4 : seenE m.id l = 0) : seenE a (m :: l) = 0 := by
  rw [seenE, if_neg (fun c => c h1), if_neg (fun c => c.elim (fun c => by rw [h2] at c; cases c) (fun c => by omega))]
  exact h4
theorem seen_mono {a b : Int} : ∀ {l : List Msg}, seenE a l = 0 → b ≤ a → seenE b l = 0
  | [], _, _ => rfl
  | m :: l, h, hb => by
    obtain ⟨h1, h2, h3, h4⟩ := seen_cons h
    exact cons_seen h1 h2 (by omega) h4
theorem seen_snoc {m : Msg} (h1 : msgS m = 0) (h2 : resB m = true) : ∀ {l : List Msg} {a : Int}, seenE a l = 0 → newB m.id l = true → a < m.id → seenE a (l ++ [m]) = 0
  | [], a, _, _, ha => cons_seen h1 h2 ha rfl
  | x :: l, a, h, hn, _ => by
    obtain ⟨g1, g2, g3, g4⟩ := seen_cons h
    unfold newB at hn
    rw [List.all_cons, Bool.and_eq_true, decide_eq_true_eq] at hn
    exact cons_seen g1 g2 g3 (seen_snoc h1 h2 g4 hn.2 hn.1)
theorem last_cons (x y : Msg) (l : List Msg) : lastM (x :: y :: l) = lastM (y :: l) := by
  unfold lastM
  simp only [List.length_cons, Nat.add_sub_cancel]
  rfl
theorem seen_last : ∀ {l : List Msg} {a : Int}, seenE a l = 0 → ∀ o ∈ l, o.id ≤ (lastM l).id
  | [], _, _, o, ho => by cases ho
  | [x], _, _, o, ho => by rw [List.mem_singleton.1 ho]; exact Int.le_refl _
  | x :: y :: l, a, h, o, ho => by
    obtain ⟨_, _, _, g4⟩ := seen_cons h
    rw [last_cons]
    have hy := seen_last g4
    rcases List.mem_cons.1 ho with rfl | ho
    · have h1 := (seen_cons g4).2.2.1
      have h2 := hy y (by simp)
      omega
    · exact hy o ho
theorem last_mem : ∀ {l : List Msg}, l ≠ [] → lastM l ∈ l
  | [], h => absurd rfl h
  | x :: l, _ => EpB.mem (by simp only [List.length_cons]; omega)
theorem new_last {l : List Msg} (h : seenE 0 l = 0) (k : Int) : newB k l = (decide (l.length = 0) || decide ((lastM l).id < k)) := by
  by_cases hl : l = []
  · subst hl; rfl
  have hlen : l.length ≠ 0 := fun c => hl (List.length_eq_zero_iff.1 c)
  rw [decide_eq_false hlen, Bool.false_or, Bool.eq_iff_iff, decide_eq_true_eq]
  unfold newB
  rw [List.all_eq_true]
  constructor
  · intro hh
    have := hh _ (last_mem hl)
    rw [decide_eq_true_eq] at this
    exact this
  · intro hh o ho
    rw [decide_eq_true_eq]
    have := seen_last h o ho
    omega
theorem call_ok {e : Ep} {m : Msg} (h : EOk e) (he : EpB e) (hm : MsB m) : EOk (callO e m) ∧ EpB (callO e m) := by
  by_cases hv : callV e m = 0
  · obtain ⟨q1, _⟩ := call_yes hv
    rw [q1]
    have h2 := h.nx
    have h3 := h.ln
    have hb := callM_b hm (show inI e.nx by unfold inI; omega)
    have hl : ¬ (256 ≤ (e.qu.length : Int) ∨ 2147483648 ≤ e.nx) := fun c => by
      unfold callV at hv
      rw [if_pos c] at hv
      cases hv
    have hs : msgS (callM e m) = 0 := by
      unfold callV at hv
      rw [if_neg hl] at hv
      exact hv
    refine ⟨⟨h.st, by simp only []; omega, ?_, h.w, ?_, h.s⟩, ⟨?_, he.ol, he.sl, ?_, he.o, he.s⟩⟩
    · simp only [List.length_append, List.length_cons, List.length_nil]; omega
    · simp only []
      rw [← List.append_assoc]
      exact calls_snoc (nx := e.nx) hs rfl rfl h.c (by omega)
    · simp only [List.length_append, List.length_cons, List.length_nil]; omega
    · intro x hx
      rcases List.mem_append.1 hx with hx | hx
      · exact he.q x hx
      · rw [List.mem_singleton.1 hx]; exact hb
  · obtain ⟨q1, _⟩ := call_no rfl hv
    rw [q1]
    exact ⟨h, he⟩
theorem next_ok {e : Ep} {now : Int} (h1 : 0 ≤ now) (h2 : now ≤ 268435456) (st : 1 ≤ e.tm ∧ e.tm ≤ 1440 ∧ 0 ≤ e.rt ∧ e.rt ≤ 100) (nx : 1 ≤ e.nx ∧ e.nx ≤ 2147483648) (ln : (e.qu.length : Int) ≤ 256) (lo : e.ou = []) (ls : (e.se.length : Int) ≤ 16) (c : callsE e.nx 0 e.qu = 0) (s : seenE 0 e.se = 0) (he : EpB e) :
    EOk (nextQ e now).1 ∧ EpB (nextQ e now).1 ∧ (nextQ e now).2.length ≤ 1 ∧ ∀ x ∈ (nextQ e now).2, MsB x := by
  obtain ⟨a, b, r, qu, ou, du, tr, se⟩ := e
  simp only at st nx ln lo ls c s
  subst lo
  cases qu with
  | nil => exact ⟨⟨st, nx, ⟨ln, (show (([] : List Msg).length : Int) ≤ 1 by simp), ls⟩, .inl ⟨rfl, rfl, rfl⟩, c, s⟩, ⟨he.ql, Nat.zero_le _, he.sl, he.q, he.o, he.s⟩, Nat.zero_le _, fun x hx => by cases hx⟩
  | cons q r2 =>
    simp only [List.length_cons] at ln
    have hq := he.q q (by simp)
    have hql := he.ql
    simp only [List.length_cons] at hql
    exact ⟨⟨st, nx, ⟨(by simp only [nextQ]; omega), (by simp [nextQ]), ls⟩, .inr ⟨(by simp [nextQ]), (by simp [nextQ]), (by simp only [nextQ]; omega), (by simp only [nextQ]; omega), (by simp only [nextQ]; omega)⟩, c, s⟩,
      ⟨(by simp only [nextQ]; omega), (by simp [nextQ]), he.sl, (fun x hx => he.q x (by simp only [nextQ] at hx; simp [hx])), (fun x hx => by simp only [nextQ, List.mem_singleton] at hx; rw [hx]; exact hq), he.s⟩, (by simp [nextQ]), fun x hx => by simp only [nextQ, List.mem_singleton] at hx; rw [hx]; exact hq⟩
theorem send_ok {e : Ep} {now : Int} (h : EOk e) (he : EpB e) : EOk (sendR e now).1 ∧ EpB (sendR e now).1 ∧ ((sendR e now).2.1.length ≤ 1 ∧ ∀ x ∈ (sendR e now).2.1, MsB x) ∧ ((sendR e now).2.2.length ≤ 1 ∧ ∀ x ∈ (sendR e now).2.2, MsB x) := by
  have hnil : ([] : List Msg).length ≤ 1 ∧ ∀ x ∈ ([] : List Msg), MsB x := ⟨Nat.zero_le _, fun x hx => by cases hx⟩
  by_cases hn : now < 0 ∨ 268435456 < now
  · have hs : sendR e now = (e, [], []) := by unfold sendR; rw [if_pos hn]
    rw [hs]
    exact ⟨h, he, hnil, hnil⟩
  obtain ⟨a, b, r, qu, ou, du, tr, se⟩ := e
  have st := h.st
  have nx := h.nx
  have ln := h.ln
  have w := h.w
  have c := h.c
  have s := h.s
  simp only at st nx ln w c s
  match ou, ln, w, c, h, he with
  | [], ln, w, c, h, he =>
    have hs : sendR ⟨a, b, r, qu, [], du, tr, se⟩ now = ((nextQ ⟨a, b, r, qu, [], du, tr, se⟩ now).1, (nextQ ⟨a, b, r, qu, [], du, tr, se⟩ now).2, []) := by unfold sendR; rw [if_neg hn]
    rw [hs]
    obtain ⟨n1, n2, n3, n4⟩ := next_ok (e := ⟨a, b, r, qu, [], du, tr, se⟩) (now := now) (by omega) (by omega) st nx ln.1 rfl ln.2.2 c s he
    exact ⟨n1, n2, ⟨n3, n4⟩, hnil⟩
  | [o], ln, w, c, h, he =>
    have ho := he.o o (by simp)
    have hone : [o].length ≤ 1 ∧ ∀ x ∈ [o], MsB x := ⟨Nat.le_refl _, fun x hx => by rw [List.mem_singleton.1 hx]; exact ho⟩
    by_cases h1 : du ≤ now
    · by_cases h2 : tr ≤ r
      · have hs : sendR ⟨a, b, r, qu, [o], du, tr, se⟩ now = (⟨a, b, r, qu, [o], now + b, tr + 1, se⟩, [o], []) := by unfold sendR; rw [if_neg hn]; simp only []; rw [if_pos h1, if_pos h2]
        rw [hs]
        simp only [List.length_cons, List.length_nil] at w
        exact ⟨⟨st, nx, ln, .inr ⟨(by simp), (by simp only []; omega), (by simp only []; omega), (by simp only []; omega), (by simp only []; omega)⟩, c, s⟩, ⟨he.ql, he.ol, he.sl, he.q, he.o, he.s⟩, hone, hnil⟩
      · have hs : sendR ⟨a, b, r, qu, [o], du, tr, se⟩ now = ((nextQ ⟨a, b, r, qu, [], du, tr, se⟩ now).1, (nextQ ⟨a, b, r, qu, [], du, tr, se⟩ now).2, [o]) := by unfold sendR; rw [if_neg hn]; simp only []; rw [if_pos h1, if_neg h2]
        rw [hs]
        obtain ⟨c1, c2, c3, c4, c5⟩ := calls_cons c
        obtain ⟨n1, n2, n3, n4⟩ := next_ok (e := ⟨a, b, r, qu, [], du, tr, se⟩) (now := now) (by omega) (by omega) st nx ln.1 rfl ln.2.2 (calls_mono c5 (by omega)) s ⟨he.ql, Nat.zero_le _, he.sl, he.q, (fun x hx => by cases hx), he.s⟩
        exact ⟨n1, n2, ⟨n3, n4⟩, hone⟩
    · have hs : sendR ⟨a, b, r, qu, [o], du, tr, se⟩ now = (⟨a, b, r, qu, [o], du, tr, se⟩, [], []) := by unfold sendR; rw [if_neg hn]; simp only []; rw [if_neg h1]
      rw [hs]
      exact ⟨h, he, hnil, hnil⟩
  | _ :: _ :: _, ln, _, _, _, _ => simp only [List.length_cons] at ln; omega
def SmL (l : List Msg) : Prop := l.length ≤ 2 ∧ ∀ x ∈ l, MsB x
theorem smL_nil : SmL [] := ⟨Nat.zero_le _, fun x hx => by cases hx⟩
theorem smL_one {m : Msg} (h : MsB m) : SmL [m] := ⟨by simp, fun x hx => by rw [List.mem_singleton.1 hx]; exact h⟩
theorem recv_ok {e : Ep} {m : Msg} (h : EOk e) (he : EpB e) (hm : MsB m) : EOk (recvR e m).1 ∧ EpB (recvR e m).1 ∧ SmL (recvR e m).2.1 ∧ SmL (recvR e m).2.2.1 ∧ SmL (recvR e m).2.2.2 := by
  have hsame : EOk e ∧ EpB e ∧ SmL [] ∧ SmL [] ∧ SmL [] := ⟨h, he, smL_nil, smL_nil, smL_nil⟩
  by_cases hr : resB m = true
  · obtain ⟨a, b, r, qu, ou, du, tr, se⟩ := e
    have ln := h.ln
    have c := h.c
    simp only at ln c
    match ou, ln, c, h, he, hsame with
    | [], _, _, h, he, hsame =>
      rw [show recvR ⟨a, b, r, qu, [], du, tr, se⟩ m = (⟨a, b, r, qu, [], du, tr, se⟩, [], [], []) from by unfold recvR; rw [if_pos hr]]
      exact hsame
    | [o], ln, c, h, he, hsame =>
      have ho := he.o o (by simp)
      by_cases hid : m.id = o.id ∧ m.ac = o.ac
      · rw [show recvR ⟨a, b, r, qu, [o], du, tr, se⟩ m = (⟨a, b, r, qu, [], 0, 0, se⟩, [o, m], [], []) from by unfold recvR; rw [if_pos hr]; simp only []; rw [if_pos hid]]
        obtain ⟨c1, c2, c3, c4, c5⟩ := calls_cons c
        exact ⟨⟨h.st, h.nx, ⟨ln.1, (by simp), ln.2.2⟩, .inl ⟨rfl, rfl, rfl⟩, calls_mono c5 (by omega), h.s⟩, ⟨he.ql, Nat.zero_le _, he.sl, he.q, (fun x hx => by cases hx), he.s⟩, ⟨by simp, fun x hx => by simp only [List.mem_cons, List.not_mem_nil, or_false] at hx; rcases hx with rfl | rfl <;> assumption⟩, smL_nil, smL_nil⟩
      · rw [show recvR ⟨a, b, r, qu, [o], du, tr, se⟩ m = (⟨a, b, r, qu, [o], du, tr, se⟩, [], [], []) from by unfold recvR; rw [if_pos hr]; simp only []; rw [if_neg hid]]
        exact hsame
    | _ :: _ :: _, ln, _, _, _, _ => simp only [List.length_cons] at ln; omega
  · have e1 : recvR e m = lookR e m := by unfold recvR; rw [if_neg hr]
    rw [e1]
    unfold lookR
    split
    · exact hsame
    · split
      · rename_i s hs
        exact ⟨h, he, smL_nil, smL_nil, smL_one (he.s s (fnd_mem hs))⟩
      · split
        · exact ⟨h, he, smL_nil, smL_one hm, smL_nil⟩
        · exact hsame
theorem ans_ok {e : Ep} {m : Msg} (h : EOk e) (he : EpB e) (hm : MsB m) : EOk (ansO e m) ∧ EpB (ansO e m) := by
  by_cases hv : ansV e m = 0
  · rw [ans_yes hv]
    have ln := h.ln
    unfold ansV at hv
    split at hv
    · rename_i c; exact absurd hv c
    rename_i h1
    split at hv
    · cases hv
    rename_i h2
    split at hv
    · cases hv
    rename_i h3
    have h1 : msgS m = 0 := Decidable.not_not.1 h1
    have h2 : resB m = true := by cases hr : resB m <;> simp_all
    have h3 : newB m.id e.se = true := by cases hr : newB m.id e.se <;> simp_all
    have hid := msg_id h1
    have hsn := seen_snoc h1 h2 h.s h3 (by omega)
    have hbl : ∀ x ∈ e.se ++ [m], MsB x := fun x hx => (List.mem_append.1 hx).elim (he.s x) (fun hx => by rw [List.mem_singleton.1 hx]; exact hm)
    have hlen : (e.se ++ [m]).length = e.se.length + 1 := by simp
    unfold ansL
    by_cases hb : 16 < ((e.se ++ [m]).length : Int)
    · rw [if_pos hb]
      have hdl : ((e.se ++ [m]).drop 1).length = e.se.length := by simp
      refine ⟨⟨h.st, h.nx, ⟨ln.1, ln.2.1, by simp only [hdl]; omega⟩, h.w, h.c, ?_⟩, ⟨he.ql, he.ol, by simp only [hdl]; exact he.sl, he.q, he.o, fun x hx => hbl x (List.mem_of_mem_drop hx)⟩⟩
      simp only []
      cases hse : e.se ++ [m] with
      | nil => rfl
      | cons y l =>
        rw [hse] at hsn
        obtain ⟨_, _, g3, g4⟩ := seen_cons hsn
        exact seen_mono g4 (by omega)
    · rw [if_neg hb]
      have hsl := he.sl
      exact ⟨⟨h.st, h.nx, ⟨ln.1, ln.2.1, by simp only [hlen] at *; omega⟩, h.w, h.c, hsn⟩, ⟨he.ql, he.ol, by simp only [hlen] at *; omega, he.q, he.o, hbl⟩⟩
  · obtain ⟨q1, _⟩ := ans_no rfl hv
    rw [q1]
    exact ⟨h, he⟩
theorem new_b (a b c : Int) : EpB (newO a b c) := by
  unfold newO
  split <;> exact ⟨Nat.zero_le _, Nat.zero_le _, Nat.zero_le _, (fun x hx => by cases hx), (fun x hx => by cases hx), (fun x hx => by cases hx)⟩
theorem rt_lim {e : Ep} (h : EOk e) : -9223372036854775808 ≤ e.rt ∧ e.rt ≤ 9223372036854775807 := by have := h.st; omega

end Go.Proofs.Ytmplgfkhknhacaa.C27
