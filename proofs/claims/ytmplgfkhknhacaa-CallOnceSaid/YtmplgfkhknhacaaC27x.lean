/-
  The examples of layer 27, reckoned out. No conditions stand ahead of what is proved.
-/
import Derived.Test.YtmplgfkhknhacaaC27
import Derived.Test.YtmplgfkhknhacaaSyE2
set_option maxRecDepth 100000
set_option linter.unusedSimpArgs false
set_option linter.unusedVariables false
namespace Go.Proofs.Ytmplgfkhknhacaa.C27
open Go.Proofs.Ytmplgfkhknhacaa Go.Proofs.Ytmplgfkhknhacaa.Sy Go.Proofs.Ytmplgfkhknhacaa.L7 Go.Proofs.Ytmplgfkhknhacaa.Id Go.Proofs.Ytmplgfkhknhacaa.R26 Go.Proofs.Ytmplgfkhknhacaa.V26 Go.Proofs.Ytmplgfkhknhacaa.N27 Go.RowKit Go.WideShapes Go.ChangeShapes Go.ChangeAt
theorem newer_nil (d : D) : Fun Try.prog [] 47 [tM, tMs] [d, .lst []] [tB] (.ok [.bool true]) := by
  intro w M vs ps hM hG hA hI
  have h := hA
  obtain ⟨hps, _⟩ := hA.plain rfl
  subst hps
  obtain ⟨v1, v2, rfl, ha, hb⟩ : ∃ v1 v2, vs = [v1, v2] ∧ RepT M tM v1 d ∧ Rep M (.lst shM) v2 (.lst []) := by
    generalize hq : ([] : List (Nat × Nat)) = q at hA
    cases hA with
    | cons ha hA => cases hA with
      | cons hb hA => cases hA; exact ⟨_, _, rfl, ha.1, hb.1⟩
  obtain ⟨ws, ds, rfl, rfl, hwl, hws⟩ := ha
  have hwl : ws.length = 25 := hwl
  obtain ⟨a, h1⟩ : ∃ a, ws[1]? = some (.int .i64 a) := by
    rw [RepCells_cons] at hws
    obtain ⟨d, ds', e, _, hws⟩ := hws
    rw [RepCells_cons] at hws
    obtain ⟨d, ds', e, ⟨v, hv, hr⟩, _⟩ := hws
    rw [Rep_int] at hr
    obtain ⟨n, rfl, e, _⟩ := hr
    exact ⟨n, hv⟩
  obtain ⟨p, c, rfl⟩ : ∃ p c, v2 = .slice p 0 c := by
    rw [Rep_lst] at hb
    obtain ⟨L, e, hLl, hc⟩ := hb
    cases e
    rcases hc with ⟨rfl, _⟩ | ⟨b, off, sp, cap, rfl, _⟩
    · exact ⟨_, _, rfl⟩
    · exact ⟨_, _, rfl⟩
  refine (newer0 ws a hwl h1 p c w).mono ?_
  rintro e w' ⟨rfl, hbl⟩
  refine fun_grown (fun b o v hv => ?_) ⟨hbl.os, hbl.tape, hbl.output, hbl.size, fun k hk _ => hbl.block k hk⟩ rfl ⟨_, rfl, ?_, rfl⟩
  · have hcell := (hM b o v hv).1
    exact ⟨(hbl.cell (p := ⟨b, o, none⟩) (lt_of_cell hcell)).trans hcell, (hM b o v hv).2⟩
  · rw [Rep_bool]
    exact ⟨_, rfl, rfl⟩
def isNilD : D → Bool
  | .lst [] => true
  | _ => false
theorem isNilD_eq {d : D} (h : isNilD d = true) : d = .lst [] := by
  unfold isNilD at h
  split at h
  · rfl
  · cases h
def nNewer : NEnt := ⟨47, [tM, tMs], [tB], fun ds => match ds with
  | [_, l] => if isNilD l = true then some (.ok [.bool true]) else none
  | _ => none⟩
theorem nNewer_ok : NEntOK Try.prog [] nNewer := by
  intro ds r h
  simp only [nNewer] at h
  split at h
  · rename_i d l
    split at h
    · rename_i hl
      cases h
      have := isNilD_eq hl
      subst this
      exact newer_nil d
    · cases h
  · cases h
def nIdent : NEnt := ⟨95, [tZ], [tB], fun ds => match ds with
  | [.str s] => if Nat.ble s.size 1000 then some (.ok [.bool (nameS s)]) else none
  | _ => none⟩
theorem nIdent_ok : NEntOK Try.prog [] nIdent := by
  intro ds r h
  simp only [nIdent] at h
  split at h
  · rename_i s
    split at h
    · rename_i hs
      cases h
      exact ident_fn s (Nat.le_trans (Nat.le_of_ble_eq_true hs) (by decide))
    · cases h
  · cases h
def nClRd : NEnt := ⟨71, [tR], [tR], fun ds => match ds with
  | [l] => if isNilD l = true then some (.ok [.lst []]) else none
  | _ => none⟩
theorem nClRd_ok : NEntOK Try.prog [] nClRd := by
  intro ds r h
  simp only [nClRd] at h
  split at h
  · rename_i l
    split at h
    · rename_i hl
      cases h
      have := isNilD_eq hl
      subst this
      exact clonerd_fn [] (Nat.zero_le _)
    · cases h
  · cases h
def nClPe : NEnt := ⟨72, [tR], [tR], fun ds => match ds with
  | [l] => if isNilD l = true then some (.ok [.lst []]) else none
  | _ => none⟩
theorem nClPe_ok : NEntOK Try.prog [] nClPe := by
  intro ds r h
  simp only [nClPe] at h
  split at h
  · rename_i l
    split at h
    · rename_i hl
      cases h
      have := isNilD_eq hl
      subst this
      exact clper_fn [] (Nat.zero_le _)
    · cases h
  · cases h
def nClTk : NEnt := ⟨73, [tTk], [tTk], fun ds => match ds with
  | [l] => if isNilD l = true then some (.ok [.lst []]) else none
  | _ => none⟩
theorem nClTk_ok : NEntOK Try.prog [] nClTk := by
  intro ds r h
  simp only [nClTk] at h
  split at h
  · rename_i l
    split at h
    · rename_i hl
      cases h
      have := isNilD_eq hl
      subst this
      exact cltok_fn [] (Nat.zero_le _)
    · cases h
  · cases h
def natX : List NEnt := [nNewer, nIdent, nClRd, nClPe, nClTk]
theorem natX_ok : ∀ e ∈ natX, NEntOK Try.prog [] e := by
  intro e he
  simp only [natX, List.mem_cons, List.not_mem_nil, or_false] at he
  rcases he with rfl | rfl | rfl | rfl | rfl
  · exact nNewer_ok
  · exact nIdent_ok
  · exact nClRd_ok
  · exact nClPe_ok
  · exact nClTk_ok
def entX : List Ent := [⟨12, [], [(.c .bool)], C27.vcawake⟩,
  ⟨28, [(.c (.int .i64))], [(.g shM)], C27.vcbeat⟩,
  ⟨35, [(.c (.int .i64))], [(.g shM)], C27.vcdone⟩,
  ⟨15, [(.c (.int .i64)), (.c (.int .i64)), (.c (.int .i64))], [(.g [(.int .i64), (.int .i64), (.int .i64), (.lst shM), (.lst shM), (.int .i64), (.int .i64), (.lst shM)]), (.c (.int .i64))], C27.vcnew⟩,
  ⟨19, [(.g [(.int .i64), (.int .i64), (.int .i64), (.lst shM), (.lst shM), (.int .i64), (.int .i64), (.lst shM)]), (.g shM)], [(.g [(.int .i64), (.int .i64), (.int .i64), (.lst shM), (.lst shM), (.int .i64), (.int .i64), (.lst shM)]), (.c (.int .i64)), (.c (.int .i64))], C27.vccall⟩,
  ⟨13, [(.g [(.int .i64), (.int .i64), (.int .i64), (.lst shM), (.lst shM), (.int .i64), (.int .i64), (.lst shM)])], [(.c (.int .i64))], C27.vcval⟩,
  ⟨36, [(.c (.int .i64)), (.c (.int .i64))], [(.c .bool)], C27.vcset⟩,
  ⟨37, [(.g [(.int .i64), (.int .i64), (.int .i64), (.lst shM), (.lst shM), (.int .i64), (.int .i64), (.lst shM)])], [(.c .bool)], C27.vcwait⟩,
  ⟨21, [(.g [(.int .i64), (.int .i64), (.int .i64), (.lst shM), (.lst shM), (.int .i64), (.int .i64), (.lst shM)]), (.c (.int .i64))], [(.g [(.int .i64), (.int .i64), (.int .i64), (.lst shM), (.lst shM), (.int .i64), (.int .i64), (.lst shM)]), (.c (.lst shM)), (.c (.lst shM))], C27.vcsend⟩,
  ⟨24, [(.g [(.int .i64), (.int .i64), (.int .i64), (.lst shM), (.lst shM), (.int .i64), (.int .i64), (.lst shM)]), (.g shM)], [(.g [(.int .i64), (.int .i64), (.int .i64), (.lst shM), (.lst shM), (.int .i64), (.int .i64), (.lst shM)]), (.c (.lst shM)), (.c (.lst shM)), (.c (.lst shM))], C27.vcrecv⟩,
  ⟨26, [(.g [(.int .i64), (.int .i64), (.int .i64), (.lst shM), (.lst shM), (.int .i64), (.int .i64), (.lst shM)]), (.g shM)], [(.g [(.int .i64), (.int .i64), (.int .i64), (.lst shM), (.lst shM), (.int .i64), (.int .i64), (.lst shM)]), (.c (.int .i64))], C27.vcans⟩,
  ⟨39, [(.g shM)], [(.c .bool)], C27.vcisr⟩,
  ⟨43, [(.g [(.int .i64), (.int .i64), (.int .i64), (.lst shM), (.lst shM), (.int .i64), (.int .i64), (.lst shM)])], [(.h [(.s (.int .i64)), (.s (.int .i64)), (.s (.int .i64)), (.r shM), (.r shM), (.s (.int .i64)), (.s (.int .i64)), (.r shM)])], C27.vccop⟩,
  ⟨44, [(.c (.lst shM))], [(.r shM)], C27.vccoll⟩,
  ⟨23, [(.c (.lst shM)), (.c (.lst shM))], [(.c .bool)], C27.vcsameall⟩,
  ⟨38, [(.g shM)], [(.c (.int .i64))], V26.vcmval⟩,
  ⟨56, [(.c (.int .i64)), (.c (.int .i64))], [(.c (.int .i64)), (.c .bool)], V26.vcusd⟩,
  ⟨94, [(.c (.int .i64))], [(.c (.int .i64)), (.c .bool)], V26.vcuic⟩,
  ⟨57, [(.g shM)], [(.c (.int .i64))], V26.vcpres⟩,
  ⟨58, [(.g shM), (.c (.int .i64))], [(.c .bool)], V26.vcmnum⟩,
  ⟨59, [(.g shM), (.c (.int .i64))], [(.c .bool)], V26.vcmnam⟩,
  ⟨60, [(.g shM), (.c (.int .i64))], [(.c (.int .i64))], V26.vcmlis⟩,
  ⟨46, [(.g shM), (.g shM)], [(.c .bool)], R26.vcsame26⟩,
  ⟨74, [(.c (.lst [(.int .i64), (.int .i64)])), (.c (.lst [(.int .i64), (.int .i64)]))], [(.c .bool)], R26.vcsamerd⟩,
  ⟨75, [(.g [(.int .i64), (.int .i64), (.int .i64), (.int .i64), (.int .i64), .str, (.int .i64), (.int .i64), (.int .i64), (.int .i64), (.lst [(.int .i64), (.int .i64)])]), (.g [(.int .i64), (.int .i64), (.int .i64), (.int .i64), (.int .i64), .str, (.int .i64), (.int .i64), (.int .i64), (.int .i64), (.lst [(.int .i64), (.int .i64)])])], [(.c .bool)], R26.vcsamepr⟩,
  ⟨76, [(.c (.lst [.str, .str, .str, (.int .i64), (.int .i64), (.int .i64)])), (.c (.lst [.str, .str, .str, (.int .i64), (.int .i64), (.int .i64)]))], [(.c .bool)], R26.vcsametk⟩]
theorem entX_ok : ∀ e ∈ entX, EntOK Try.prog [] e := by
  intro e he
  simp only [entX, List.mem_cons, List.not_mem_nil, or_false] at he
  rcases he with rfl | rfl | rfl | rfl | rfl | rfl | rfl | rfl | rfl | rfl | rfl | rfl | rfl | rfl | rfl | rfl | rfl | rfl | rfl | rfl | rfl | rfl | rfl | rfl | rfl | rfl
  · exact C27.awake_ent
  · exact C27.beat_ent
  · exact C27.done_ent
  · exact C27.new_ent
  · exact C27.call_ent
  · exact C27.val_ent
  · exact C27.set_ent
  · exact C27.wait_ent
  · exact C27.send_ent
  · exact C27.recv_ent
  · exact C27.ans_ent
  · exact C27.isr_ent
  · exact C27.cop_ent
  · exact C27.coll_ent
  · exact C27.sameall_ent
  · exact V26.mval_ent
  · exact V26.usd_ent
  · exact V26.uic_ent
  · exact V26.pres_ent
  · exact V26.mnum_ent
  · exact V26.mnam_ent
  · exact V26.mlis_ent
  · exact R26.same26_ent
  · exact R26.samerd_ent
  · exact R26.samepr_ent
  · exact R26.sametk_ent
theorem ex_fn : Fun Try.prog [] 12 [] [] [tB] (.ok [.bool true]) := fun_of_evalG natX_ok entX_ok 60 (by kernel_rfl)

end Go.Proofs.Ytmplgfkhknhacaa.C27
set_option maxRecDepth 100000
set_option linter.unusedSimpArgs false
set_option linter.unusedVariables false
namespace Go.Proofs.Ytmplgfkhknhacaa.C27
open Go.Proofs.Ytmplgfkhknhacaa Go.Proofs.Ytmplgfkhknhacaa.Sy Go.Proofs.Ytmplgfkhknhacaa.L7 Go.Proofs.Ytmplgfkhknhacaa.Id Go.Proofs.Ytmplgfkhknhacaa.R26 Go.Proofs.Ytmplgfkhknhacaa.V26 Go.Proofs.Ytmplgfkhknhacaa.N27 Go.RowKit Go.WideShapes Go.ChangeShapes Go.ChangeAt

end Go.Proofs.Ytmplgfkhknhacaa.C27
