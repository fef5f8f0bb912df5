/-
  Layer 7's functions and identifiers, for calls on closed data. No conditions stand ahead of what is proved.
-/
import Derived.Test.YtmkkijgnlohieaaL7d
import Derived.Test.YtmkkijgnlohieaaId
import Derived.Test.YtmkkijgnlohieaaSyE2
set_option maxRecDepth 100000
set_option linter.unusedSimpArgs false
set_option linter.unusedVariables false
namespace Go.Proofs.Ytmkkijgnlohieaa.L7n
open Go.Proofs.Ytmkkijgnlohieaa Go.Proofs.Ytmkkijgnlohieaa.Sy Go.Proofs.Ytmkkijgnlohieaa.L7 Go.Proofs.Ytmkkijgnlohieaa.Id
def nTakeInt : NEnt := ⟨45, [tY], [tI, tI], fun ds => match ds with
  | [.lst l] => (match bOf l with | some b => (if Nat.ble b.length 4294967296 then some (.ok (tiR b)) else none) | none => none)
  | _ => none⟩
theorem nTakeInt_ok : NEntOK Try.prog [] nTakeInt := by
  intro ds r h
  simp only [nTakeInt] at h
  split at h
  · rename_i l
    split at h
    · rename_i b hb
      split at h
      · rename_i hl
        cases h
        obtain ⟨h1, h2⟩ := bOf_eq hb
        subst h1
        exact takeint_fn b h2 (Nat.le_of_ble_eq_true hl)
      · cases h
    · cases h
  · cases h
def nTake : NEnt := ⟨44, [tY], [tF, tI], fun ds => match ds with
  | [.lst l] => (match bOf l with | some b => (if Nat.ble b.length 4294967296 then some (.ok (takeR (takeF b))) else none) | none => none)
  | _ => none⟩
theorem nTake_ok : NEntOK Try.prog [] nTake := by
  intro ds r h
  simp only [nTake] at h
  split at h
  · rename_i l
    split at h
    · rename_i b hb
      split at h
      · rename_i hl
        cases h
        obtain ⟨h1, h2⟩ := bOf_eq hb
        subst h1
        exact take_fn b h2 (Nat.le_of_ble_eq_true hl)
      · cases h
    · cases h
  · cases h
def nTakeList : NEnt := ⟨46, [tY], [tYY, tI], fun ds => match ds with
  | [.lst l] => (match bOf l with | some b => (if Nat.ble b.length 4294967296 then some (.ok (takeLR (takeListS b))) else none) | none => none)
  | _ => none⟩
theorem nTakeList_ok : NEntOK Try.prog [] nTakeList := by
  intro ds r h
  simp only [nTakeList] at h
  split at h
  · rename_i l
    split at h
    · rename_i b hb
      split at h
      · rename_i hl
        cases h
        obtain ⟨h1, h2⟩ := bOf_eq hb
        subst h1
        exact takel_fn b h2 (Nat.le_of_ble_eq_true hl)
      · cases h
    · cases h
  · cases h
def nPutInt : NEnt := ⟨39, [tI], [tY], fun ds => match ds with
  | [.int .i64 n] => if decide (-9223372036854775808 ≤ n) && decide (n ≤ 9223372036854775807) then some (.ok [bD (putS n)]) else none
  | _ => none⟩
theorem nPutInt_ok : NEntOK Try.prog [] nPutInt := by
  intro ds r h
  simp only [nPutInt] at h
  split at h
  · rename_i n
    split at h
    · rename_i hn
      cases h
      simp only [Bool.and_eq_true, decide_eq_true_eq] at hn
      exact putint_fn n hn
    · cases h
  · cases h
def nPutList : NEnt := ⟨37, [tYY], [tY, tI], fun ds => match ds with
  | [.lst l] => (match bbOf l with | some m => (if Nat.ble m.length 4294967296 && shortB m 1000000 then some (.ok (putR (putListS m))) else none) | none => none)
  | _ => none⟩
theorem nPutList_ok : NEntOK Try.prog [] nPutList := by
  intro ds r h
  simp only [nPutList] at h
  split at h
  · rename_i l
    split at h
    · rename_i m hb
      split at h
      · rename_i hl
        cases h
        simp only [Bool.and_eq_true] at hl
        obtain ⟨h1, h2⟩ := bbOf_eq hb
        subst h1
        exact putl_fn m (Nat.le_of_ble_eq_true hl.1) (shortB_le hl.2)
      · cases h
    · cases h
  · cases h
def nPut : NEnt := ⟨38, [tF], [tY, tI], fun ds => match ds with
  | [.lst l] => (match fOf l with | some m => (if Nat.ble m.length 4294967296 && shortB (m.map (·.2)) 1000000 then some (.ok (putR (putF m))) else none) | none => none)
  | _ => none⟩
theorem nPut_ok : NEntOK Try.prog [] nPut := by
  intro ds r h
  simp only [nPut] at h
  split at h
  · rename_i l
    split at h
    · rename_i m hb
      split at h
      · rename_i hl
        cases h
        simp only [Bool.and_eq_true] at hl
        obtain ⟨h1, h2⟩ := fOf_eq hb
        subst h1
        exact put_fn m (Nat.le_of_ble_eq_true hl.1) (fun x hx => shortB_le hl.2 _ (List.mem_map_of_mem hx))
      · cases h
    · cases h
  · cases h
def nIdent : NEnt := ⟨52, [tZ], [tB], fun ds => match ds with
  | [.str s] => if Nat.ble s.size 9223372036854775807 then some (.ok [.bool (nameS s)]) else none
  | _ => none⟩
theorem nIdent_ok : NEntOK Try.prog [] nIdent := by
  intro ds r h
  simp only [nIdent] at h
  split at h
  · rename_i s
    split at h
    · rename_i hs
      cases h
      exact ident_fn s (Nat.le_of_ble_eq_true hs)
    · cases h
  · cases h
def nats : List NEnt := [nTakeInt, nTake, nTakeList, nPutInt, nPutList, nPut, nIdent]
theorem nats_ok : ∀ e ∈ nats, NEntOK Try.prog [] e := by
  intro e he
  simp only [nats, List.mem_cons, List.not_mem_nil, or_false] at he
  rcases he with rfl | rfl | rfl | rfl | rfl | rfl | rfl
  · exact nTakeInt_ok
  · exact nTake_ok
  · exact nTakeList_ok
  · exact nPutInt_ok
  · exact nPutList_ok
  · exact nPut_ok
  · exact nIdent_ok
end Go.Proofs.Ytmkkijgnlohieaa.L7n
