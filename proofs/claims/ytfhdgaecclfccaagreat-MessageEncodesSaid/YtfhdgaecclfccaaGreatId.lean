/-
  Identifiers: what the functions of layer 1 do with data. No conditions stand ahead of what is proved.
-/
import Derived.Test.YtfhdgaecclfccaaGreatFrame
import Derived.Test.YtfhdgaecclfccaaGreatBytes
import Derived.Test.YtfhdgaecclfccaaGreatSyXd
import Derived.Tactics
import Derived.Tactics2
import Derived.LoopTactic
import Derived.StillTactics
import Derived.Laws.RangeString
import Derived.Laws.RangeAny
import Derived.Laws.Strings
import Derived.Test.YtfhdgaecclfccaaGreatL7c
import Derived.Test.YtfhdgaecclfccaaGreatSyE2
set_option maxRecDepth 100000
set_option linter.unusedSimpArgs false
set_option linter.unusedVariables false
namespace Go.Proofs.YtfhdgaecclfccaaGreat.Id
open Go.Proofs.YtfhdgaecclfccaaGreat Go.Proofs.YtfhdgaecclfccaaGreat.Sy Go.RowKit Go.WideShapes Go.ChangeShapes Go.ChangeAt
theorem hP : NoNum Tryz.prog := by unfold NoNum; kernel_rfl
def sgs : Nat → Option (List TS × List TS) := fun _ => none
def vcrcapital : VC := (.ite (.cmp .geq (.v 0) (.ki .u8 97))
 (.ite (.cmp .leq (.v 0) (.ki .u8 122))
  (.ret [(.ar .sub .u8 (.v 0) (.ki .u8 32))])
  (.ret [(.v 0)]))
 (.ret [(.v 0)]))
theorem rcapital_ent : EntOK Tryz.prog [] ⟨106, [(.c (.int .u8))], [(.c (.int .u8))], vcrcapital⟩ :=
  ent_of_gen hP Tryz.func106 rfl (by decide) (sg := sgs) (by kernel_rfl)
def vcrvalue : VC := (.loop [(.int .i64), (.int .i64)] [(.ki .i64 0), (.ki .i64 0)]
 (.ite (.cmp .lss (.v 2) (.ki .i64 36))
  (.ev [(.ob (.cmp .geq (.v 2) (.ki .i64 0))), (.ob (.cmp .lss (.v 2) (.len (.ks ⟨List.toArray [48, 49, 50, 51, 52, 53, 54, 55, 56, 57, 65, 66, 67, 68, 69, 70, 71, 72, 73, 74, 75, 76, 77, 78, 79, 80, 81, 82, 83, 84, 85, 86, 87, 88, 89, 90]⟩))))]
   (.cal 106 [(.c (.int .u8))] [(.v 0)] [(.c (.int .u8))] 3
    (.ite (.cmp .eql (.sidx (.ks ⟨List.toArray [48, 49, 50, 51, 52, 53, 54, 55, 56, 57, 65, 66, 67, 68, 69, 70, 71, 72, 73, 74, 75, 76, 77, 78, 79, 80, 81, 82, 83, 84, 85, 86, 87, 88, 89, 90]⟩) (.v 2)) (.v 3))
     (.ret [(.v 2)])
     (.back 0 [(.v 1), (.ar .add .i64 (.v 2) (.ki .i64 1))]))))
  (.ret [(.ki .i64 (-1))])))
theorem rvalue_ent : EntOK Tryz.prog [] ⟨101, [(.c (.int .u8))], [(.c (.int .i64))], vcrvalue⟩ :=
  ent_of_gen hP Tryz.func101 rfl (by decide) (sg := sgs) (by kernel_rfl)
def vcrvalid : VC := (.ite (.cmp .lss (.len (.v 0)) (.ki .i64 1))
 (.ret [(.kb false)])
 (.ite (.cmp .gtr (.len (.v 0)) (.ki .i64 36))
  (.ret [(.kb false)])
  (.loop [.bool, (.int .i64)] [(.kb false), (.ki .i64 0)]
   (.ite (.cmp .lss (.v 2) (.len (.v 0)))
    (.ev [(.ob (.cmp .geq (.v 2) (.ki .i64 0))), (.ob (.cmp .lss (.v 2) (.len (.v 0))))]
     (.cal 101 [(.c (.int .u8))] [(.sidx (.v 0) (.v 2))] [(.c (.int .i64))] 3
      (.ite (.cmp .lss (.v 3) (.ki .i64 0))
       (.ite (.cmp .neq (.sidx (.v 0) (.v 2)) (.ki .u8 45))
        (.ite (.cmp .neq (.sidx (.v 0) (.v 2)) (.ki .u8 95))
         (.ite (.cmp .neq (.sidx (.v 0) (.v 2)) (.ki .u8 46))
          (.ite (.cmp .neq (.sidx (.v 0) (.v 2)) (.ki .u8 58))
           (.ite (.cmp .neq (.sidx (.v 0) (.v 2)) (.ki .u8 42))
            (.ret [(.kb false)])
            (.back 0 [(.v 1), (.ar .add .i64 (.v 2) (.ki .i64 1))]))
           (.back 0 [(.v 1), (.ar .add .i64 (.v 2) (.ki .i64 1))]))
          (.back 0 [(.v 1), (.ar .add .i64 (.v 2) (.ki .i64 1))]))
         (.back 0 [(.v 1), (.ar .add .i64 (.v 2) (.ki .i64 1))]))
        (.back 0 [(.v 1), (.ar .add .i64 (.v 2) (.ki .i64 1))]))
       (.back 0 [(.v 1), (.ar .add .i64 (.v 2) (.ki .i64 1))]))))
    (.ret [(.kb true)])))))
theorem rvalid_ent : EntOK Tryz.prog [] ⟨80, [(.c .str)], [(.c .bool)], vcrvalid⟩ :=
  ent_of_gen hP Tryz.func80 rfl (by decide) (sg := sgs) (by kernel_rfl)

def valI (c : Int) : Int := if 48 ≤ c ∧ c ≤ 57 then c - 48 else if 65 ≤ c ∧ c ≤ 90 then c - 55 else if 97 ≤ c ∧ c ≤ 122 then c - 87 else -1
def nameB (c : Int) : Bool := decide (0 ≤ valI c ∨ c = 45 ∨ c = 95 ∨ c = 46 ∨ c = 58 ∨ c = 42)
def sB (s : ByteArray) : List Int := s.data.toList.map fun b => (b.toNat : Int)
def nameS (s : ByteArray) : Bool := decide (1 ≤ s.size ∧ s.size ≤ 36) && (sB s).all nameB
theorem sB_len (s : ByteArray) : (sB s).length = s.size := by unfold sB; rw [List.length_map, Array.length_toList]; rfl
theorem sB_isB (s : ByteArray) : ∀ x ∈ sB s, 0 ≤ x ∧ x ≤ 255 := by
  intro x hx
  obtain ⟨b, _, rfl⟩ := List.mem_map.1 hx
  have := b.toNat_lt
  omega
theorem sidx_eq (s : ByteArray) {i : Nat} (h : i < s.size) : (((s.data.toList).getD i 0).toNat : Int) = (sB s).getD i 0 := by
  have h2 : i < s.data.toList.length := by rw [Array.length_toList]; exact h
  rw [List.getD_eq_getElem?_getD, List.getD_eq_getElem?_getD]
  unfold sB
  rw [List.getElem?_map, List.getElem?_eq_getElem h2]
  rfl
theorem sB_rng (s : ByteArray) {i : Nat} (h : i < s.size) : 0 ≤ (sB s).getD i 0 ∧ (sB s).getD i 0 ≤ 255 := sB_isB s _ (by rw [← sB_len] at h; simp [List.getD_eq_getElem?_getD, h])
theorem valI_hi {c : Int} (h : 123 ≤ c) : valI c = -1 := by unfold valI; rw [if_neg (by omega), if_neg (by omega), if_neg (by omega)]
def capI (c : Int) : Int := if 97 ≤ c ∧ c ≤ 122 then c - 32 else c
theorem rcap_fn (c : Int) (h0 : 0 ≤ c) (h1 : c ≤ 255) : Fun Tryz.prog [] 106 [.c (.int .u8)] [U8d c] [.c (.int .u8)] (.ok [U8d (capI c)]) := by
  refine rcapital_ent _ _ ?_
  show vcrcapital.den _ _ _ _ _
  unfold vcrcapital
  refine den_ite (fun h => den_ite (fun h2 => den_ret ?_) (fun h2 => den_ret ?_)) (fun h => den_ret ?_)
  · simp only [dF, dE] at h h2
    simp only [dF, dE]
    rw [wrap_u8 (by omega) (by omega), capI, if_pos ⟨h, h2⟩]
  · simp only [dF, dE] at h h2
    simp only [dF, dE]
    rw [capI, if_neg (by omega)]
  · simp only [dF, dE] at h
    simp only [dF, dE]
    rw [capI, if_neg (by omega)]
def letB : ByteArray := ⟨List.toArray [48, 49, 50, 51, 52, 53, 54, 55, 56, 57, 65, 66, 67, 68, 69, 70, 71, 72, 73, 74, 75, 76, 77, 78, 79, 80, 81, 82, 83, 84, 85, 86, 87, 88, 89, 90]⟩
def letC (i : Nat) : Bool := (((letB.data.toList).getD i 0).toNat : Int) == if i < 10 then 48 + (i : Int) else 55 + i
theorem let_all : ((List.range 36).all letC) = true := by kernel_rfl
theorem let_at {i : Nat} (h : i < 36) : (((letB.data.toList).getD i 0).toNat : Int) = if i < 10 then 48 + (i : Int) else 55 + i := by
  have := List.all_eq_true.1 let_all i (by simp; omega)
  unfold letC at this
  exact of_decide_eq_true this
theorem rvalue_fn (c : Int) (h0 : 0 ≤ c) (h1 : c ≤ 255) : Fun Tryz.prog [] 101 [.c (.int .u8)] [U8d c] [tI] (.ok [I64d (valI c)]) := by
  refine rvalue_ent _ _ ?_
  show vcrvalue.den _ _ _ _ _
  unfold vcrvalue
  refine den_loop (fun xs => ∃ (q : Int) (i : Nat), xs = [I64d q, I64d i] ∧ i ≤ 36 ∧ ∀ j : Nat, j < i → (if j < 10 then 48 + (j : Int) else 55 + j) ≠ capI c) (fun xs => 36 - (xs.getD 1 default).toI.toNat) ⟨0, 0, rfl, by omega, fun j hj => by omega⟩ ?_
  simp only [AllSh]
  intro q _ _ n _ _ ⟨_, i, he, hi, hall⟩
  simp only [List.cons.injEq, D.int.injEq, true_and, and_true] at he
  obtain ⟨rfl, rfl⟩ := he
  (try simp only [dN])
  refine den_ite (fun h => ?_) (fun h => ?_)
  · simp only [dF, dE] at h
    have hi' : i < 36 := by omega
    have hw : IntKind.wrap .i64 ((i : Int) + 1) = ((i + 1 : Nat) : Int) := by rw [wrap_i64 (by omega) (by omega)]; omega
    have hg := let_at hi'
    unfold letB at hg
    refine den_ev (evs_ob (by simp only [dF, dE]; omega) (evs_ob (by simp only [dF, dE]; show ((i : Int) < ((36 : Nat) : Int)); omega) (evs_nil ?_)))
    refine den_cal [U8d (capI c)] rfl (rcap_fn c h0 h1) rfl rfl ?_
    refine den_ite (fun h3 => ?_) (fun h3 => ?_)
    · simp only [dF, dE] at h3
      rw [hg] at h3
      refine den_ret ?_
      simp only [dF, dE]
      have : valI c = i := by unfold valI; unfold capI at h3; (repeat' split) <;> (repeat' split at h3) <;> omega
      rw [this]
    · simp only [dF, dE] at h3
      rw [hg] at h3
      refine den_back rfl ⟨q, i + 1, (by simp only [dF, dE]; rw [hw]), by omega, fun j hj => ?_⟩ (by simp only []; simp only [dF, dE]; rw [hw]; omega)
      rcases Nat.lt_or_ge j i with h4 | h4
      · exact hall j h4
      · rw [show j = i by omega]; exact h3
  · simp only [dF, dE] at h
    have : i = 36 := by omega
    subst this
    refine den_ret ?_
    simp only [dF, dE]
    have : valI c = -1 := by
      unfold valI
      split
      · have := hall (c - 48).toNat (by omega)
        unfold capI at this
        rw [if_pos (by omega), if_neg (by omega)] at this
        omega
      · split
        · have := hall (c - 55).toNat (by omega)
          unfold capI at this
          rw [if_neg (by omega), if_neg (by omega)] at this
          omega
        · split
          · have := hall (c - 87).toNat (by omega)
            unfold capI at this
            rw [if_neg (by omega), if_pos (by omega)] at this
            omega
          · rfl
    rw [this]
theorem rvalid_fn (s : ByteArray) (hs : s.size ≤ maxLen) : Fun Tryz.prog [] 80 [tZ] [.str s] [tB] (.ok [.bool (nameS s)]) := by
  refine rvalid_ent _ _ ?_
  show vcrvalid.den _ _ _ _ _
  unfold vcrvalid
  have hl := sB_len s
  refine den_ite (fun h => den_ret ?_) (fun h => ?_)
  · simp only [dF, dE] at h
    simp only [dF, dE]
    simp [nameS, show ¬ (1 ≤ s.size) by omega]
  simp only [dF, dE] at h
  refine den_ite (fun h2 => den_ret ?_) (fun h2 => ?_)
  · simp only [dF, dE] at h2
    simp only [dF, dE]
    simp [nameS, show ¬ (s.size ≤ 36) by omega]
  simp only [dF, dE] at h2
  refine den_loop (fun xs => ∃ (b : Bool) (i : Nat), xs = [.bool b, I64d i] ∧ i ≤ s.size ∧ ((sB s).take i).all nameB = true) (fun xs => s.size - (xs.getD 1 default).toI.toNat) ⟨false, 0, rfl, by omega, rfl⟩ ?_
  simp only [AllSh]
  intro b n _ _ ⟨_, i, he, hi, hall⟩
  simp only [List.cons.injEq, D.int.injEq, D.bool.injEq, true_and, and_true] at he
  obtain ⟨rfl, rfl⟩ := he
  (try simp only [dN])
  refine den_ite (fun h3 => ?_) (fun h3 => ?_)
  · simp only [dF, dE] at h3
    have hi' : i < s.size := by omega
    have hc := sB_rng s hi'
    have hg := sidx_eq s hi'
    have hw : IntKind.wrap .i64 ((i : Int) + 1) = ((i + 1 : Nat) : Int) := by rw [wrap_i64 (by omega) (by omega)]; omega
    have htk := take_get 0 (l := sB s) (show i < (sB s).length by omega)
    refine den_ev (evs_ob (by simp only [dF, dE]; omega) (evs_ob (by simp only [dF, dE]; omega) (evs_nil ?_)))
    refine den_cal [I64d (valI ((sB s).getD i 0))] rfl (rvalue_fn ((sB s).getD i 0) hc.1 hc.2) (by simp only [dF, dE]; rw [hg]) rfl ?_
    (try simp only [dN])
    refine den_ite (fun h4 => ?_) (fun h4 => ?_)
    · simp only [dF, dE] at h4
      refine den_ite (fun t45 => ?_) (fun t45 => ?_)
      · simp only [dF, dE] at t45
        rw [hg] at t45
        refine den_ite (fun t95 => ?_) (fun t95 => ?_)
        · simp only [dF, dE] at t95
          rw [hg] at t95
          refine den_ite (fun t46 => ?_) (fun t46 => ?_)
          · simp only [dF, dE] at t46
            rw [hg] at t46
            refine den_ite (fun t58 => ?_) (fun t58 => ?_)
            · simp only [dF, dE] at t58
              rw [hg] at t58
              refine den_ite (fun t42 => ?_) (fun t42 => ?_)
              · simp only [dF, dE] at t42
                rw [hg] at t42
                refine den_ret ?_
                simp only [dF, dE]
                have hbad : nameB ((sB s).getD i 0) = false := by
                  generalize (sB s).getD i 0 = c at *
                  simp [nameB, *] <;> omega
                have : ((sB s).all nameB) = false := by
                  rw [List.all_eq_false]
                  exact ⟨(sB s).getD i 0, by simp [List.getD_eq_getElem?_getD, show i < (sB s).length by omega], by rw [hbad]; decide⟩
                simp [nameS, this]
              · simp only [dF, dE] at t42
                rw [hg] at t42
                refine den_back rfl ⟨b, i + 1, (by simp only [dF, dE]; rw [hw]), by omega, ?_⟩ (by simp only []; simp only [dF, dE]; rw [hw]; omega)
                rw [htk]
                generalize (sB s).getD i 0 = c at *
                simp [nameB, hall, t42]
            · simp only [dF, dE] at t58
              rw [hg] at t58
              refine den_back rfl ⟨b, i + 1, (by simp only [dF, dE]; rw [hw]), by omega, ?_⟩ (by simp only []; simp only [dF, dE]; rw [hw]; omega)
              rw [htk]
              generalize (sB s).getD i 0 = c at *
              simp [nameB, hall, t58]
          · simp only [dF, dE] at t46
            rw [hg] at t46
            refine den_back rfl ⟨b, i + 1, (by simp only [dF, dE]; rw [hw]), by omega, ?_⟩ (by simp only []; simp only [dF, dE]; rw [hw]; omega)
            rw [htk]
            generalize (sB s).getD i 0 = c at *
            simp [nameB, hall, t46]
        · simp only [dF, dE] at t95
          rw [hg] at t95
          refine den_back rfl ⟨b, i + 1, (by simp only [dF, dE]; rw [hw]), by omega, ?_⟩ (by simp only []; simp only [dF, dE]; rw [hw]; omega)
          rw [htk]
          generalize (sB s).getD i 0 = c at *
          simp [nameB, hall, t95]
      · simp only [dF, dE] at t45
        rw [hg] at t45
        refine den_back rfl ⟨b, i + 1, (by simp only [dF, dE]; rw [hw]), by omega, ?_⟩ (by simp only []; simp only [dF, dE]; rw [hw]; omega)
        rw [htk]
        generalize (sB s).getD i 0 = c at *
        simp [nameB, hall, t45]
    · simp only [dF, dE] at h4
      refine den_back rfl ⟨b, i + 1, (by simp only [dF, dE]; rw [hw]), by omega, ?_⟩ (by simp only []; simp only [dF, dE]; rw [hw]; omega)
      rw [htk]
      generalize (sB s).getD i 0 = c at *
      simp [nameB, hall, h4]
  · simp only [dF, dE] at h3
    have hi' : i = s.size := by omega
    refine den_ret ?_
    simp only [dF, dE]
    rw [show (sB s).take i = sB s from List.take_of_length_le (by omega)] at hall
    simp [nameS, hall, show 1 ≤ s.size by omega, show s.size ≤ 36 by omega]

theorem value_calls (r : Int) (h0 : 0 ≤ r) (h1 : r ≤ 2147483647) (w : World) : Calls Tryz.prog 96 #[.int .i32 r] w fun e w' => e = .returned (.int .i64 (valI r)) ∧ w' = w := by
  go_enter Tryz.func96, Tryz.ntmps96
  go_wp2
  all_goals go_ret
  all_goals refine ⟨?_, rfl⟩
  all_goals (first | (simp_all [valI]; done) | (simp_all [valI]; omega) | skip)

theorem ident_calls (s : ByteArray) (hs : s.size ≤ maxLen) (w : World) : Calls Tryz.prog 71 #[.string s] w fun e w' => e = .returned (.bool (nameS s)) ∧ (w' = w ∨ ∃ pos, w' = w.iter s pos) := by
  have hm : maxLen ≤ 9223372036854775807 := by decide
  have hl := sB_len s
  have hfalse : ∀ pos : Nat, pos < s.size → ∀ c : Int, (sB s).getD pos 0 = c → nameB c = false → Ending.returned (Value.bool false) = Ending.returned (.bool (nameS s)) := by
    intro pos hp c hc hbad
    have : ((sB s).all nameB) = false := by
      rw [List.all_eq_false]
      exact ⟨(sB s).getD pos 0, by simp [List.getD_eq_getElem?_getD, show pos < (sB s).length by omega], by rw [hc, hbad]; decide⟩
    simp [nameS, this]
  go_enter Tryz.func71, Tryz.ntmps71
  by_cases h1 : (s.size : Int) < 1
  · go_wp2
    all_goals (go_ret; refine ⟨?_, .inl rfl⟩; have : ¬ (1 ≤ s.size ∧ s.size ≤ 36) := (by omega); simp [nameS, this])
  by_cases h2 : 36 < (s.size : Int)
  · go_wp2
    all_goals (go_ret; refine ⟨?_, .inl rfl⟩; have : ¬ (1 ≤ s.size ∧ s.size ≤ 36) := (by omega); simp [nameS, this])
  go_wp2
  · go_loopw [] (fun w' => ∃ pos : Nat, w' = w.iter s pos ∧ pos ≤ s.size ∧ ((sB s).take pos).all nameB = true) (fun w' => s.size - w'.iterPos w.heap.size)
    case atStart => exact ⟨0, rfl, by omega, rfl⟩
    case round =>
      obtain ⟨pos, rfl, hps, hall⟩ := hrel
      by_cases hp : pos < s.size
      · have hgB : (sB s).getD pos 0 = (((s[pos]'hp).toNat : Nat) : Int) := by
          rw [← sidx_eq s hp]
          have h2 : pos < s.data.toList.length := by rw [Array.length_toList]; exact hp
          rw [List.getD_eq_getElem?_getD, List.getElem?_eq_getElem h2]
          rfl
        have htk := take_get 0 (l := sB s) (show pos < (sB s).length by omega)
        by_cases ha : (s[pos]'hp).toNat < 128
        · have hnx : ∀ ty, (Instr.next (.pointer (some ⟨w.heap.size, 0, none⟩)) true ty).run Tryz.prog (w.iter s pos) = _ := fun ty => run_next_ascii w s pos ty hp ha
          generalize (s[pos]'hp).toNat = c at *
          have hv := fun w1 => value_calls (c : Int) (by omega) (by omega) w1
          go_wp2_with (go_at_call 96; refine (hv _).mono ?_; rintro e w1 ⟨rfl, rfl⟩)
          all_goals (first | (go_roundw; (case rel => exact ⟨pos + 1, rfl, by omega, by (rw [htk, hgB]; simp_all [nameB] <;> omega)⟩); (case measure => (simp; omega))) | (go_ret; refine ⟨?_, .inr ⟨_, rfl⟩⟩; have hbad : nameB (c : Int) = false := (by simp_all [nameB] <;> omega); exact hfalse pos hp _ hgB hbad))
        · have hd := decode_high s pos hp (by omega)
          have hnx : ∀ ty, (Instr.next (.pointer (some ⟨w.heap.size, 0, none⟩)) true ty).run Tryz.prog (w.iter s pos) = _ := fun ty => run_next_any w s pos ty hp
          have hr2 := decode_le s pos
          generalize Utf8.decode s pos = dd at *
          obtain ⟨c, wd⟩ := dd
          simp only at hd hr2
          have hb2 := sB_rng s hp
          have hv := fun w1 => value_calls (c : Int) (by omega) (by omega) w1
          simp only [valI_hi (show 123 ≤ (c : Int) by omega)] at hv
          go_wp2_with (go_at_call 96; refine (hv _).mono ?_; rintro e w1 ⟨rfl, rfl⟩)
          all_goals (first | (exfalso; omega) | (go_ret; refine ⟨?_, .inr ⟨_, rfl⟩⟩; exact hfalse pos hp _ hgB (by simp [nameB, valI_hi (show 123 ≤ (((s[pos]'hp).toNat : Nat) : Int) by omega)] <;> omega)))
      · have hnx : ∀ ty, (Instr.next (.pointer (some ⟨w.heap.size, 0, none⟩)) true ty).run Tryz.prog (w.iter s pos) = _ := fun ty => run_next_end w s pos ty hp
        go_wp2
        go_ret
        refine ⟨?_, .inr ⟨_, rfl⟩⟩
        rw [List.take_of_length_le (by omega)] at hall
        have : 1 ≤ s.size ∧ s.size ≤ 36 := by omega
        simp [nameS, this, hall]

theorem outs_nil : ∀ (ts : List TS) (vs : List Value), outsT ts = [] → outVals ts vs = []
  | [], vs, _ => rfl
  | t :: ts, [], h => by cases t <;> rfl
  | t :: ts, v :: vs, h => by
    cases t with
    | p l => simp [outsT] at h
    | i _ _ => simp [outsT] at h
    | _ => exact outs_nil ts vs h
theorem fun_grown {ts us : List TS} {rs : List D} {M : Mem} {w w' : World} {vs : List Value} {v : Value} (hM : MemOK M w') (hB : BelowX w.heap.size (ownS []) w w') (hpl : outsT ts = []) (hr : ResR M w' us v rs []) : FunPost M w (ownS []) ts vs us (.ok rs) (.returned v) w' := by
  refine ⟨v, M, [], [], rs, [], rfl, by simp, hB, hM, Mem.le.refl _, fun _ _ _ h => .inl h, hr, ?_, (fun i j p q hi => by simp at hi), (fun p hp => by cases hp)⟩
  rw [hpl, outs_nil ts vs hpl]
  exact .nil
theorem ident_fn (s : ByteArray) (hs : s.size ≤ maxLen) : Fun Tryz.prog [] 71 [tZ] [.str s] [tB] (.ok [.bool (nameS s)]) := by
  intro w M vs ps hM hG hA hI
  obtain ⟨hps, _⟩ := hA.plain rfl
  subst hps
  obtain ⟨v1, rfl, ha⟩ : ∃ v1, vs = [v1] ∧ Rep M .str v1 (.str s) := by
    generalize hq : ([] : List (Nat × Nat)) = q at hA
    cases hA with
    | cons ha hA => cases hA; exact ⟨_, rfl, ha.1⟩
  rw [Rep_str] at ha
  obtain ⟨s', rfl, e, _⟩ := ha
  cases e
  refine (ident_calls s hs w).mono ?_
  rintro e w' ⟨rfl, hw⟩
  have hold : BelowX w.heap.size (ownS []) w w' := by
    rcases hw with rfl | ⟨pos, rfl⟩
    · exact BelowX.refl _ _ _
    · have e : w.iter s pos = w.alloc (.stringIter s pos) := rfl
      rw [e]
      exact ⟨rfl, rfl, rfl, (by show w.heap.size ≤ (w.heap.push _).size; simp), fun k hk _ => heap_old w _ hk⟩
  refine fun_grown (fun b o v hv => ?_) hold rfl ⟨_, rfl, ?_, rfl⟩
  · obtain ⟨h1, h2⟩ := hM b o v hv
    have hb := lt_of_cell h1
    exact ⟨by rw [cell_congr (hold.block b hb (by simp [ownS]))]; exact h1, h2⟩
  · rw [Rep_bool]
    exact ⟨_, rfl, rfl⟩

end Go.Proofs.YtfhdgaecclfccaaGreat.Id
set_option maxRecDepth 100000
set_option linter.unusedSimpArgs false
set_option linter.unusedVariables false
namespace Go.Proofs.YtfhdgaecclfccaaGreat.L7n
open Go.Proofs.YtfhdgaecclfccaaGreat Go.Proofs.YtfhdgaecclfccaaGreat.Sy Go.Proofs.YtfhdgaecclfccaaGreat.L7 Go.Proofs.YtfhdgaecclfccaaGreat.Id
def nTakeInt : NEnt := ⟨90, [tY], [tI, tI], fun ds => match ds with
  | [.lst l] => (match bOf l with | some b => (if Nat.ble b.length 4294967296 then some (.ok (tiR b)) else none) | none => none)
  | _ => none⟩
theorem nTakeInt_ok : NEntOK Tryz.prog [] nTakeInt := by
  intro ds r h
  simp only [nTakeInt] at h
  split at h
  · rename_i l
    split at h
    · rename_i b hb
      split at h
      · rename_i hl
        cases h
        obtain ⟨h1, h2⟩ := bOf_eq hb
        subst h1
        exact takeint_fn b h2 (Nat.le_of_ble_eq_true hl)
      · cases h
    · cases h
  · cases h
def nTake : NEnt := ⟨89, [tY], [tF, tI], fun ds => match ds with
  | [.lst l] => (match bOf l with | some b => (if Nat.ble b.length 4294967296 then some (.ok (takeR (takeF b))) else none) | none => none)
  | _ => none⟩
theorem nTake_ok : NEntOK Tryz.prog [] nTake := by
  intro ds r h
  simp only [nTake] at h
  split at h
  · rename_i l
    split at h
    · rename_i b hb
      split at h
      · rename_i hl
        cases h
        obtain ⟨h1, h2⟩ := bOf_eq hb
        subst h1
        exact take_fn b h2 (Nat.le_of_ble_eq_true hl)
      · cases h
    · cases h
  · cases h
def nTakeList : NEnt := ⟨67, [tY], [tYY, tI], fun ds => match ds with
  | [.lst l] => (match bOf l with | some b => (if Nat.ble b.length 4294967296 then some (.ok (takeLR (takeListS b))) else none) | none => none)
  | _ => none⟩
theorem nTakeList_ok : NEntOK Tryz.prog [] nTakeList := by
  intro ds r h
  simp only [nTakeList] at h
  split at h
  · rename_i l
    split at h
    · rename_i b hb
      split at h
      · rename_i hl
        cases h
        obtain ⟨h1, h2⟩ := bOf_eq hb
        subst h1
        exact takel_fn b h2 (Nat.le_of_ble_eq_true hl)
      · cases h
    · cases h
  · cases h
def nPutInt : NEnt := ⟨33, [tI], [tY], fun ds => match ds with
  | [.int .i64 n] => if decide (-9223372036854775808 ≤ n) && decide (n ≤ 9223372036854775807) then some (.ok [bD (putS n)]) else none
  | _ => none⟩
theorem nPutInt_ok : NEntOK Tryz.prog [] nPutInt := by
  intro ds r h
  simp only [nPutInt] at h
  split at h
  · rename_i n
    split at h
    · rename_i hn
      cases h
      simp only [Bool.and_eq_true, decide_eq_true_eq] at hn
      exact putint_fn n hn
    · cases h
  · cases h
def nPutList : NEnt := ⟨76, [tYY], [tY, tI], fun ds => match ds with
  | [.lst l] => (match bbOf l with | some m => (if Nat.ble m.length 4294967296 && shortB m 1000000 then some (.ok (putR (putListS m))) else none) | none => none)
  | _ => none⟩
theorem nPutList_ok : NEntOK Tryz.prog [] nPutList := by
  intro ds r h
  simp only [nPutList] at h
  split at h
  · rename_i l
    split at h
    · rename_i m hb
      split at h
      · rename_i hl
        cases h
        simp only [Bool.and_eq_true] at hl
        obtain ⟨h1, h2⟩ := bbOf_eq hb
        subst h1
        exact putl_fn m (Nat.le_of_ble_eq_true hl.1) (shortB_le hl.2)
      · cases h
    · cases h
  · cases h
def nPut : NEnt := ⟨77, [tF], [tY, tI], fun ds => match ds with
  | [.lst l] => (match fOf l with | some m => (if Nat.ble m.length 4294967296 && shortB (m.map (·.2)) 1000000 then some (.ok (putR (putF m))) else none) | none => none)
  | _ => none⟩
theorem nPut_ok : NEntOK Tryz.prog [] nPut := by
  intro ds r h
  simp only [nPut] at h
  split at h
  · rename_i l
    split at h
    · rename_i m hb
      split at h
      · rename_i hl
        cases h
        simp only [Bool.and_eq_true] at hl
        obtain ⟨h1, h2⟩ := fOf_eq hb
        subst h1
        exact put_fn m (Nat.le_of_ble_eq_true hl.1) (fun x hx => shortB_le hl.2 _ (List.mem_map_of_mem hx))
      · cases h
    · cases h
  · cases h
def nIdent : NEnt := ⟨71, [tZ], [tB], fun ds => match ds with
  | [.str s] => if Nat.ble s.size 9223372036854775807 then some (.ok [.bool (nameS s)]) else none
  | _ => none⟩
theorem nIdent_ok : NEntOK Tryz.prog [] nIdent := by
  intro ds r h
  simp only [nIdent] at h
  split at h
  · rename_i s
    split at h
    · rename_i hs
      cases h
      exact ident_fn s (Nat.le_of_ble_eq_true hs)
    · cases h
  · cases h
def nats : List NEnt := [nTakeInt, nTake, nTakeList, nPutInt, nPutList, nPut, nIdent]
theorem nats_ok : ∀ e ∈ nats, NEntOK Tryz.prog [] e := by
  intro e he
  simp only [nats, List.mem_cons, List.not_mem_nil, or_false] at he
  rcases he with rfl | rfl | rfl | rfl | rfl | rfl | rfl
  · exact nTakeInt_ok
  · exact nTake_ok
  · exact nTakeList_ok
  · exact nPutInt_ok
  · exact nPutList_ok
  · exact nPut_ok
  · exact nIdent_ok

end Go.Proofs.YtfhdgaecclfccaaGreat.L7n
