/-
  Identifiers: what the functions of layer 1 do with data. No conditions stand ahead of what is proved.
-/
import Derived.Test.YtindphofgojfbaaFrame
import Derived.Test.YtindphofgojfbaaSyXd
import Derived.Tactics
import Derived.Tactics2
import Derived.LoopTactic
import Derived.StillTactics
import Derived.Laws.RangeString
import Derived.Laws.RangeAny
import Derived.Laws.Strings
import Derived.Test.YtindphofgojfbaaL7c
import Derived.Test.YtindphofgojfbaaSyE2
set_option maxRecDepth 100000
set_option linter.unusedSimpArgs false
set_option linter.unusedVariables false
namespace Go.Proofs.Ytindphofgojfbaa.Id
open Go.Proofs.Ytindphofgojfbaa Go.Proofs.Ytindphofgojfbaa.Sy Go.RowKit Go.WideShapes Go.ChangeShapes Go.ChangeAt
theorem hP : NoNum Try.prog := by unfold NoNum; kernel_rfl
def sgs : Nat → Option (List TS × List TS) := fun _ => none
def valI (c : Int) : Int := if 48 ≤ c ∧ c ≤ 57 then c - 48 else if 65 ≤ c ∧ c ≤ 90 then c - 55 else if 97 ≤ c ∧ c ≤ 122 then c - 87 else -1
def nameB (c : Int) : Bool := decide (0 ≤ valI c ∨ c = 45 ∨ c = 95 ∨ c = 46 ∨ c = 58 ∨ c = 42)
def sB (s : ByteArray) : List Int := s.data.toList.map fun b => (b.toNat : Int)
def nameS (s : ByteArray) : Bool := decide (1 ≤ s.size ∧ s.size ≤ 36) && (sB s).all nameB
theorem sB_len (s : ByteArray) : (sB s).length = s.size := by unfold sB; rw [List.length_map, Array.length_toList]; rfl
theorem sB_isB (s : ByteArray) : ∀ x ∈ sB s, 0 ≤ x ∧ x ≤ 255 := by
  intro x hx
  obtain ⟨b, _, rfl⟩ := List.mem_map.1 hx
  have := b.toNat_lt
  omega
theorem sidx_eq (s : ByteArray) {i : Nat} (h : i < s.size) : (((s.data.toList).getD i 0).toNat : Int) = (sB s).getD i 0 := by
  have h2 : i < s.data.toList.length := by rw [Array.length_toList]; exact h
  rw [List.getD_eq_getElem?_getD, List.getD_eq_getElem?_getD]
  unfold sB
  rw [List.getElem?_map, List.getElem?_eq_getElem h2]
  rfl
theorem sB_rng (s : ByteArray) {i : Nat} (h : i < s.size) : 0 ≤ (sB s).getD i 0 ∧ (sB s).getD i 0 ≤ 255 := sB_isB s _ (by rw [← sB_len] at h; simp [List.getD_eq_getElem?_getD, h])
theorem valI_hi {c : Int} (h : 123 ≤ c) : valI c = -1 := by unfold valI; rw [if_neg (by omega), if_neg (by omega), if_neg (by omega)]
theorem value_calls (r : Int) (h0 : 0 ≤ r) (h1 : r ≤ 2147483647) (w : World) : Calls Try.prog 74 #[.int .i32 r] w fun e w' => e = .returned (.int .i64 (valI r)) ∧ w' = w := by
  go_enter Try.func74, Try.ntmps74
  go_wp2
  all_goals go_ret
  all_goals refine ⟨?_, rfl⟩
  all_goals (first | (simp_all [valI]; done) | (simp_all [valI]; omega) | skip)

theorem ident_calls (s : ByteArray) (hs : s.size ≤ maxLen) (w : World) : Calls Try.prog 54 #[.string s] w fun e w' => e = .returned (.bool (nameS s)) ∧ (w' = w ∨ ∃ pos, w' = w.iter s pos) := by
  have hm : maxLen ≤ 9223372036854775807 := by decide
  have hl := sB_len s
  have hfalse : ∀ pos : Nat, pos < s.size → ∀ c : Int, (sB s).getD pos 0 = c → nameB c = false → Ending.returned (Value.bool false) = Ending.returned (.bool (nameS s)) := by
    intro pos hp c hc hbad
    have : ((sB s).all nameB) = false := by
      rw [List.all_eq_false]
      exact ⟨(sB s).getD pos 0, by simp [List.getD_eq_getElem?_getD, show pos < (sB s).length by omega], by rw [hc, hbad]; decide⟩
    simp [nameS, this]
  go_enter Try.func54, Try.ntmps54
  by_cases h1 : (s.size : Int) < 1
  · go_wp2
    all_goals (go_ret; refine ⟨?_, .inl rfl⟩; have : ¬ (1 ≤ s.size ∧ s.size ≤ 36) := (by omega); simp [nameS, this])
  by_cases h2 : 36 < (s.size : Int)
  · go_wp2
    all_goals (go_ret; refine ⟨?_, .inl rfl⟩; have : ¬ (1 ≤ s.size ∧ s.size ≤ 36) := (by omega); simp [nameS, this])
  go_wp2
  · go_loopw [] (fun w' => ∃ pos : Nat, w' = w.iter s pos ∧ pos ≤ s.size ∧ ((sB s).take pos).all nameB = true) (fun w' => s.size - w'.iterPos w.heap.size)
    case atStart => exact ⟨0, rfl, by omega, rfl⟩
    case round =>
      obtain ⟨pos, rfl, hps, hall⟩ := hrel
      by_cases hp : pos < s.size
      · have hgB : (sB s).getD pos 0 = (((s[pos]'hp).toNat : Nat) : Int) := by
          rw [← sidx_eq s hp]
          have h2 : pos < s.data.toList.length := by rw [Array.length_toList]; exact hp
          rw [List.getD_eq_getElem?_getD, List.getElem?_eq_getElem h2]
          rfl
        have htk := take_get 0 (l := sB s) (show pos < (sB s).length by omega)
        by_cases ha : (s[pos]'hp).toNat < 128
        · have hnx : ∀ ty, (Instr.next (.pointer (some ⟨w.heap.size, 0, none⟩)) true ty).run Try.prog (w.iter s pos) = _ := fun ty => run_next_ascii w s pos ty hp ha
          generalize (s[pos]'hp).toNat = c at *
          have hv := fun w1 => value_calls (c : Int) (by omega) (by omega) w1
          go_wp2_with (go_at_call 74; refine (hv _).mono ?_; rintro e w1 ⟨rfl, rfl⟩)
          all_goals (first | (go_roundw; (case rel => exact ⟨pos + 1, rfl, by omega, by (rw [htk, hgB]; simp_all [nameB] <;> omega)⟩); (case measure => (simp; omega))) | (go_ret; refine ⟨?_, .inr ⟨_, rfl⟩⟩; have hbad : nameB (c : Int) = false := (by simp_all [nameB] <;> omega); exact hfalse pos hp _ hgB hbad))
        · have hd := decode_high s pos hp (by omega)
          have hnx : ∀ ty, (Instr.next (.pointer (some ⟨w.heap.size, 0, none⟩)) true ty).run Try.prog (w.iter s pos) = _ := fun ty => run_next_any w s pos ty hp
          have hr2 := decode_le s pos
          generalize Utf8.decode s pos = dd at *
          obtain ⟨c, wd⟩ := dd
          simp only at hd hr2
          have hb2 := sB_rng s hp
          have hv := fun w1 => value_calls (c : Int) (by omega) (by omega) w1
          simp only [valI_hi (show 123 ≤ (c : Int) by omega)] at hv
          go_wp2_with (go_at_call 74; refine (hv _).mono ?_; rintro e w1 ⟨rfl, rfl⟩)
          all_goals (first | (exfalso; omega) | (go_ret; refine ⟨?_, .inr ⟨_, rfl⟩⟩; exact hfalse pos hp _ hgB (by simp [nameB, valI_hi (show 123 ≤ (((s[pos]'hp).toNat : Nat) : Int) by omega)] <;> omega)))
      · have hnx : ∀ ty, (Instr.next (.pointer (some ⟨w.heap.size, 0, none⟩)) true ty).run Try.prog (w.iter s pos) = _ := fun ty => run_next_end w s pos ty hp
        go_wp2
        go_ret
        refine ⟨?_, .inr ⟨_, rfl⟩⟩
        rw [List.take_of_length_le (by omega)] at hall
        have : 1 ≤ s.size ∧ s.size ≤ 36 := by omega
        simp [nameS, this, hall]

theorem outs_nil : ∀ (ts : List TS) (vs : List Value), outsT ts = [] → outVals ts vs = []
  | [], vs, _ => rfl
  | t :: ts, [], h => by cases t <;> rfl
  | t :: ts, v :: vs, h => by
    cases t with
    | p l => simp [outsT] at h
    | i _ _ => simp [outsT] at h
    | _ => exact outs_nil ts vs h
theorem fun_grown {ts us : List TS} {rs : List D} {M : Mem} {w w' : World} {vs : List Value} {v : Value} (hM : MemOK M w') (hB : BelowX w.heap.size (ownS []) w w') (hpl : outsT ts = []) (hr : ResR M w' us v rs []) : FunPost M w (ownS []) ts vs us (.ok rs) (.returned v) w' := by
  refine ⟨v, M, [], [], rs, [], rfl, by simp, hB, hM, Mem.le.refl _, fun _ _ _ h => .inl h, hr, ?_, (fun i j p q hi => by simp at hi), (fun p hp => by cases hp)⟩
  rw [hpl, outs_nil ts vs hpl]
  exact .nil
theorem ident_fn (s : ByteArray) (hs : s.size ≤ maxLen) : Fun Try.prog [] 54 [tZ] [.str s] [tB] (.ok [.bool (nameS s)]) := by
  intro w M vs ps hM hG hA hI
  obtain ⟨hps, _⟩ := hA.plain rfl
  subst hps
  obtain ⟨v1, rfl, ha⟩ : ∃ v1, vs = [v1] ∧ Rep M .str v1 (.str s) := by
    generalize hq : ([] : List (Nat × Nat)) = q at hA
    cases hA with
    | cons ha hA => cases hA; exact ⟨_, rfl, ha.1⟩
  rw [Rep_str] at ha
  obtain ⟨s', rfl, e, _⟩ := ha
  cases e
  refine (ident_calls s hs w).mono ?_
  rintro e w' ⟨rfl, hw⟩
  have hold : BelowX w.heap.size (ownS []) w w' := by
    rcases hw with rfl | ⟨pos, rfl⟩
    · exact BelowX.refl _ _ _
    · have e : w.iter s pos = w.alloc (.stringIter s pos) := rfl
      rw [e]
      exact ⟨rfl, rfl, rfl, (by show w.heap.size ≤ (w.heap.push _).size; simp), fun k hk _ => heap_old w _ hk⟩
  refine fun_grown (fun b o v hv => ?_) hold rfl ⟨_, rfl, ?_, rfl⟩
  · obtain ⟨h1, h2⟩ := hM b o v hv
    have hb := lt_of_cell h1
    exact ⟨by rw [cell_congr (hold.block b hb (by simp [ownS]))]; exact h1, h2⟩
  · rw [Rep_bool]
    exact ⟨_, rfl, rfl⟩


end Go.Proofs.Ytindphofgojfbaa.Id
set_option maxRecDepth 100000
set_option linter.unusedSimpArgs false
set_option linter.unusedVariables false
namespace Go.Proofs.Ytindphofgojfbaa.L7n
open Go.Proofs.Ytindphofgojfbaa Go.Proofs.Ytindphofgojfbaa.Sy Go.Proofs.Ytindphofgojfbaa.L7 Go.Proofs.Ytindphofgojfbaa.Id
def nTakeInt : NEnt := ⟨67, [tY], [tI, tI], fun ds => match ds with
  | [.lst l] => (match bOf l with | some b => (if Nat.ble b.length 4294967296 then some (.ok (tiR b)) else none) | none => none)
  | _ => none⟩
theorem nTakeInt_ok : NEntOK Try.prog [] nTakeInt := by
  intro ds r h
  simp only [nTakeInt] at h
  split at h
  · rename_i l
    split at h
    · rename_i b hb
      split at h
      · rename_i hl
        cases h
        obtain ⟨h1, h2⟩ := bOf_eq hb
        subst h1
        exact takeint_fn b h2 (Nat.le_of_ble_eq_true hl)
      · cases h
    · cases h
  · cases h
def nTake : NEnt := ⟨66, [tY], [tF, tI], fun ds => match ds with
  | [.lst l] => (match bOf l with | some b => (if Nat.ble b.length 4294967296 then some (.ok (takeR (takeF b))) else none) | none => none)
  | _ => none⟩
theorem nTake_ok : NEntOK Try.prog [] nTake := by
  intro ds r h
  simp only [nTake] at h
  split at h
  · rename_i l
    split at h
    · rename_i b hb
      split at h
      · rename_i hl
        cases h
        obtain ⟨h1, h2⟩ := bOf_eq hb
        subst h1
        exact take_fn b h2 (Nat.le_of_ble_eq_true hl)
      · cases h
    · cases h
  · cases h
def nTakeList : NEnt := ⟨48, [tY], [tYY, tI], fun ds => match ds with
  | [.lst l] => (match bOf l with | some b => (if Nat.ble b.length 4294967296 then some (.ok (takeLR (takeListS b))) else none) | none => none)
  | _ => none⟩
theorem nTakeList_ok : NEntOK Try.prog [] nTakeList := by
  intro ds r h
  simp only [nTakeList] at h
  split at h
  · rename_i l
    split at h
    · rename_i b hb
      split at h
      · rename_i hl
        cases h
        obtain ⟨h1, h2⟩ := bOf_eq hb
        subst h1
        exact takel_fn b h2 (Nat.le_of_ble_eq_true hl)
      · cases h
    · cases h
  · cases h
def nPutInt : NEnt := ⟨60, [tI], [tY], fun ds => match ds with
  | [.int .i64 n] => if decide (-9223372036854775808 ≤ n) && decide (n ≤ 9223372036854775807) then some (.ok [bD (putS n)]) else none
  | _ => none⟩
theorem nPutInt_ok : NEntOK Try.prog [] nPutInt := by
  intro ds r h
  simp only [nPutInt] at h
  split at h
  · rename_i n
    split at h
    · rename_i hn
      cases h
      simp only [Bool.and_eq_true, decide_eq_true_eq] at hn
      exact putint_fn n hn
    · cases h
  · cases h
def nPutList : NEnt := ⟨80, [tYY], [tY, tI], fun ds => match ds with
  | [.lst l] => (match bbOf l with | some m => (if Nat.ble m.length 4294967296 && shortB m 1000000 then some (.ok (putR (putListS m))) else none) | none => none)
  | _ => none⟩
theorem nPutList_ok : NEntOK Try.prog [] nPutList := by
  intro ds r h
  simp only [nPutList] at h
  split at h
  · rename_i l
    split at h
    · rename_i m hb
      split at h
      · rename_i hl
        cases h
        simp only [Bool.and_eq_true] at hl
        obtain ⟨h1, h2⟩ := bbOf_eq hb
        subst h1
        exact putl_fn m (Nat.le_of_ble_eq_true hl.1) (shortB_le hl.2)
      · cases h
    · cases h
  · cases h
def nPut : NEnt := ⟨81, [tF], [tY, tI], fun ds => match ds with
  | [.lst l] => (match fOf l with | some m => (if Nat.ble m.length 4294967296 && shortB (m.map (·.2)) 1000000 then some (.ok (putR (putF m))) else none) | none => none)
  | _ => none⟩
theorem nPut_ok : NEntOK Try.prog [] nPut := by
  intro ds r h
  simp only [nPut] at h
  split at h
  · rename_i l
    split at h
    · rename_i m hb
      split at h
      · rename_i hl
        cases h
        simp only [Bool.and_eq_true] at hl
        obtain ⟨h1, h2⟩ := fOf_eq hb
        subst h1
        exact put_fn m (Nat.le_of_ble_eq_true hl.1) (fun x hx => shortB_le hl.2 _ (List.mem_map_of_mem hx))
      · cases h
    · cases h
  · cases h
def nIdent : NEnt := ⟨54, [tZ], [tB], fun ds => match ds with
  | [.str s] => if Nat.ble s.size 9223372036854775807 then some (.ok [.bool (nameS s)]) else none
  | _ => none⟩
theorem nIdent_ok : NEntOK Try.prog [] nIdent := by
  intro ds r h
  simp only [nIdent] at h
  split at h
  · rename_i s
    split at h
    · rename_i hs
      cases h
      exact ident_fn s (Nat.le_of_ble_eq_true hs)
    · cases h
  · cases h
def nats : List NEnt := [nTakeInt, nTake, nTakeList, nPutInt, nPutList, nPut, nIdent]
theorem nats_ok : ∀ e ∈ nats, NEntOK Try.prog [] e := by
  intro e he
  simp only [nats, List.mem_cons, List.not_mem_nil, or_false] at he
  rcases he with rfl | rfl | rfl | rfl | rfl | rfl | rfl
  · exact nTakeInt_ok
  · exact nTake_ok
  · exact nTakeList_ok
  · exact nPutInt_ok
  · exact nPutList_ok
  · exact nPut_ok
  · exact nIdent_ok


end Go.Proofs.Ytindphofgojfbaa.L7n
