/-
  Identifiers: what the functions of layer 1 do with data. No conditions stand ahead of what is proved.
-/
import Derived.Test.YtmplgfkhknhacaaFrame
import Derived.Test.YtmplgfkhknhacaaDE
import Derived.Test.YtmplgfkhknhacaaSyXd
import Derived.Tactics
import Derived.Tactics2
import Derived.LoopTactic
import Derived.StillTactics
import Derived.Laws.RangeString
import Derived.Laws.RangeAny
import Derived.Laws.Strings
set_option maxRecDepth 100000
set_option linter.unusedSimpArgs false
set_option linter.unusedVariables false
namespace Go.Proofs.Ytmplgfkhknhacaa.Id
open Go.Proofs.Ytmplgfkhknhacaa Go.Proofs.Ytmplgfkhknhacaa.Sy Go.RowKit Go.WideShapes Go.ChangeShapes Go.ChangeAt
theorem hP : NoNum Try.prog := by unfold NoNum; kernel_rfl
def sgs : Nat → Option (List TS × List TS) := fun _ => none
def valI (c : Int) : Int := if 48 ≤ c ∧ c ≤ 57 then c - 48 else if 65 ≤ c ∧ c ≤ 90 then c - 55 else if 97 ≤ c ∧ c ≤ 122 then c - 87 else -1
def nameB (c : Int) : Bool := decide (0 ≤ valI c ∨ c = 45 ∨ c = 95 ∨ c = 46 ∨ c = 58 ∨ c = 42)
def sB (s : ByteArray) : List Int := s.data.toList.map fun b => (b.toNat : Int)
def nameS (s : ByteArray) : Bool := decide (1 ≤ s.size ∧ s.size ≤ 36) && (sB s).all nameB
theorem sB_len (s : ByteArray) : (sB s).length = s.size := by unfold sB; rw [List.length_map, Array.length_toList]; rfl
theorem sB_isB (s : ByteArray) : ∀ x ∈ sB s, 0 ≤ x ∧ x ≤ 255 := by
  intro x hx
  obtain ⟨b, _, rfl⟩ := List.mem_map.1 hx
  have := b.toNat_lt
  omega
theorem sidx_eq (s : ByteArray) {i : Nat} (h : i < s.size) : (((s.data.toList).getD i 0).toNat : Int) = (sB s).getD i 0 := by
  have h2 : i < s.data.toList.length := by rw [Array.length_toList]; exact h
  rw [List.getD_eq_getElem?_getD, List.getD_eq_getElem?_getD]
  unfold sB
  rw [List.getElem?_map, List.getElem?_eq_getElem h2]
  rfl
theorem sB_rng (s : ByteArray) {i : Nat} (h : i < s.size) : 0 ≤ (sB s).getD i 0 ∧ (sB s).getD i 0 ≤ 255 := sB_isB s _ (by rw [← sB_len] at h; simp [List.getD_eq_getElem?_getD, h])
theorem valI_hi {c : Int} (h : 123 ≤ c) : valI c = -1 := by unfold valI; rw [if_neg (by omega), if_neg (by omega), if_neg (by omega)]
theorem value_calls (r : Int) (h0 : 0 ≤ r) (h1 : r ≤ 2147483647) (w : World) : Calls Try.prog 123 #[.int .i32 r] w fun e w' => e = .returned (.int .i64 (valI r)) ∧ w' = w := by
  go_enter Try.func123, Try.ntmps123
  go_wp2
  all_goals go_ret
  all_goals refine ⟨?_, rfl⟩
  all_goals (first | (simp_all [valI]; done) | (simp_all [valI]; omega) | skip)

theorem ident_calls (s : ByteArray) (hs : s.size ≤ maxLen) (w : World) : Calls Try.prog 95 #[.string s] w fun e w' => e = .returned (.bool (nameS s)) ∧ (w' = w ∨ ∃ pos, w' = w.iter s pos) := by
  have hm : maxLen ≤ 9223372036854775807 := by decide
  have hl := sB_len s
  have hfalse : ∀ pos : Nat, pos < s.size → ∀ c : Int, (sB s).getD pos 0 = c → nameB c = false → Ending.returned (Value.bool false) = Ending.returned (.bool (nameS s)) := by
    intro pos hp c hc hbad
    have : ((sB s).all nameB) = false := by
      rw [List.all_eq_false]
      exact ⟨(sB s).getD pos 0, by simp [List.getD_eq_getElem?_getD, show pos < (sB s).length by omega], by rw [hc, hbad]; decide⟩
    simp [nameS, this]
  go_enter Try.func95, Try.ntmps95
  by_cases h1 : (s.size : Int) < 1
  · go_wp2
    all_goals (go_ret; refine ⟨?_, .inl rfl⟩; have : ¬ (1 ≤ s.size ∧ s.size ≤ 36) := (by omega); simp [nameS, this])
  by_cases h2 : 36 < (s.size : Int)
  · go_wp2
    all_goals (go_ret; refine ⟨?_, .inl rfl⟩; have : ¬ (1 ≤ s.size ∧ s.size ≤ 36) := (by omega); simp [nameS, this])
  go_wp2
  · go_loopw [] (fun w' => ∃ pos : Nat, w' = w.iter s pos ∧ pos ≤ s.size ∧ ((sB s).take pos).all nameB = true) (fun w' => s.size - w'.iterPos w.heap.size)
    case atStart => exact ⟨0, rfl, by omega, rfl⟩
    case round =>
      obtain ⟨pos, rfl, hps, hall⟩ := hrel
      by_cases hp : pos < s.size
      · have hgB : (sB s).getD pos 0 = (((s[pos]'hp).toNat : Nat) : Int) := by
          rw [← sidx_eq s hp]
          have h2 : pos < s.data.toList.length := by rw [Array.length_toList]; exact hp
          rw [List.getD_eq_getElem?_getD, List.getElem?_eq_getElem h2]
          rfl
        have htk := take_get 0 (l := sB s) (show pos < (sB s).length by omega)
        by_cases ha : (s[pos]'hp).toNat < 128
        · have hnx : ∀ ty, (Instr.next (.pointer (some ⟨w.heap.size, 0, none⟩)) true ty).run Try.prog (w.iter s pos) = _ := fun ty => run_next_ascii w s pos ty hp ha
          generalize (s[pos]'hp).toNat = c at *
          have hv := fun w1 => value_calls (c : Int) (by omega) (by omega) w1
          go_wp2_with (go_at_call 123; refine (hv _).mono ?_; rintro e w1 ⟨rfl, rfl⟩)
          all_goals (first | (go_roundw; (case rel => exact ⟨pos + 1, rfl, by omega, by (rw [htk, hgB]; simp_all [nameB] <;> omega)⟩); (case measure => (simp; omega))) | (go_ret; refine ⟨?_, .inr ⟨_, rfl⟩⟩; have hbad : nameB (c : Int) = false := (by simp_all [nameB] <;> omega); exact hfalse pos hp _ hgB hbad))
        · have hd := decode_high s pos hp (by omega)
          have hnx : ∀ ty, (Instr.next (.pointer (some ⟨w.heap.size, 0, none⟩)) true ty).run Try.prog (w.iter s pos) = _ := fun ty => run_next_any w s pos ty hp
          have hr2 := decode_le s pos
          generalize Utf8.decode s pos = dd at *
          obtain ⟨c, wd⟩ := dd
          simp only at hd hr2
          have hb2 := sB_rng s hp
          have hv := fun w1 => value_calls (c : Int) (by omega) (by omega) w1
          simp only [valI_hi (show 123 ≤ (c : Int) by omega)] at hv
          go_wp2_with (go_at_call 123; refine (hv _).mono ?_; rintro e w1 ⟨rfl, rfl⟩)
          all_goals (first | (exfalso; omega) | (go_ret; refine ⟨?_, .inr ⟨_, rfl⟩⟩; exact hfalse pos hp _ hgB (by simp [nameB, valI_hi (show 123 ≤ (((s[pos]'hp).toNat : Nat) : Int) by omega)] <;> omega)))
      · have hnx : ∀ ty, (Instr.next (.pointer (some ⟨w.heap.size, 0, none⟩)) true ty).run Try.prog (w.iter s pos) = _ := fun ty => run_next_end w s pos ty hp
        go_wp2
        go_ret
        refine ⟨?_, .inr ⟨_, rfl⟩⟩
        rw [List.take_of_length_le (by omega)] at hall
        have : 1 ≤ s.size ∧ s.size ≤ 36 := by omega
        simp [nameS, this, hall]

theorem outs_nil : ∀ (ts : List TS) (vs : List Value), outsT ts = [] → outVals ts vs = []
  | [], vs, _ => rfl
  | t :: ts, [], h => by cases t <;> rfl
  | t :: ts, v :: vs, h => by
    cases t with
    | p l => simp [outsT] at h
    | _ => exact outs_nil ts vs h
theorem fun_grown {ts us : List TS} {rs : List D} {M : Mem} {w w' : World} {vs : List Value} {v : Value} (hM : MemOK M w') (hB : BelowX w.heap.size (ownS []) w w') (hpl : outsT ts = []) (hr : ResR M w' us v rs []) : FunPost M w (ownS []) ts vs us (.ok rs) (.returned v) w' := by
  refine ⟨v, M, [], [], rs, [], rfl, by simp, hB, hM, Mem.le.refl _, fun _ _ _ h => .inl h, hr, ?_, (fun i j p q hi => by simp at hi), (fun p hp => by cases hp)⟩
  rw [hpl, outs_nil ts vs hpl]
  exact .nil
theorem ident_fn (s : ByteArray) (hs : s.size ≤ maxLen) : Fun Try.prog [] 95 [tZ] [.str s] [tB] (.ok [.bool (nameS s)]) := by
  intro w M vs ps hM hG hA hI
  obtain ⟨hps, _⟩ := hA.plain rfl
  subst hps
  obtain ⟨v1, rfl, ha⟩ : ∃ v1, vs = [v1] ∧ Rep M .str v1 (.str s) := by
    generalize hq : ([] : List (Nat × Nat)) = q at hA
    cases hA with
    | cons ha hA => cases hA; exact ⟨_, rfl, ha.1⟩
  rw [Rep_str] at ha
  obtain ⟨s', rfl, e, _⟩ := ha
  cases e
  refine (ident_calls s hs w).mono ?_
  rintro e w' ⟨rfl, hw⟩
  have hold : BelowX w.heap.size (ownS []) w w' := by
    rcases hw with rfl | ⟨pos, rfl⟩
    · exact BelowX.refl _ _ _
    · have e : w.iter s pos = w.alloc (.stringIter s pos) := rfl
      rw [e]
      exact ⟨rfl, rfl, rfl, (by show w.heap.size ≤ (w.heap.push _).size; simp), fun k hk _ => heap_old w _ hk⟩
  refine fun_grown (fun b o v hv => ?_) hold rfl ⟨_, rfl, ?_, rfl⟩
  · obtain ⟨h1, h2⟩ := hM b o v hv
    have hb := lt_of_cell h1
    exact ⟨by rw [cell_congr (hold.block b hb (by simp [ownS]))]; exact h1, h2⟩
  · rw [Rep_bool]
    exact ⟨_, rfl, rfl⟩


end Go.Proofs.Ytmplgfkhknhacaa.Id
