/-
  link.Send: its map of lost packets by hand, the rest by conditions. No conditions stand ahead of what is proved.
-/
import Derived.Test.YtindphofgojfbaaV14
import Derived.Test.YtindphofgojfbaaSyXq
import Derived.Maps.Own
import Derived.Maps.Views
import Derived.WalkKit
import Derived.LoopTactic
import Derived.Test.YtindphofgojfbaaSy06x
set_option maxRecDepth 100000
set_option linter.unusedSimpArgs false
set_option linter.unusedVariables false
namespace Go.Proofs.Ytindphofgojfbaa.K14
open Go.Proofs.Ytindphofgojfbaa Go.Proofs.Ytindphofgojfbaa.Sy Go.Proofs.Ytindphofgojfbaa.L7 Go.Proofs.Ytindphofgojfbaa.Id Go.Proofs.Ytindphofgojfbaa.R26 Go.Proofs.Ytindphofgojfbaa.V26 Go.Proofs.Ytindphofgojfbaa.N27 Go.Proofs.Ytindphofgojfbaa.C27 Go.Proofs.Ytindphofgojfbaa.O14 Go.Proofs.Ytindphofgojfbaa.V14 Go.Proofs.Ytindphofgojfbaa.C14 Go.RowKit Go.Maps Go.WideShapes Go.ChangeShapes Go.ChangeAt
def vcsend1 : VC := (.ite (.cmp .gtr (.len (.v 6)) (.ki .i64 8198))
 (.ret [(.rc (.cons (.v 0) (.cons (.v 1) (.cons (.v 2) (.cons (.v 3) (.cons (.v 4) (.cons (.v 5) .nil))))))), (.ki .i64 3)])
 (.ite (.cmp .geq (.v 3) (.ki .i64 2147483647))
  (.ret [(.rc (.cons (.v 0) (.cons (.v 1) (.cons (.v 2) (.cons (.v 3) (.cons (.v 4) (.cons (.v 5) .nil))))))), (.ki .i64 3)])
  (.ite (.cmp .geq (.len (.v 5)) (.ki .i64 256))
   (.ret [(.rc (.cons (.v 0) (.cons (.v 1) (.cons (.v 2) (.cons (.v 3) (.cons (.v 4) (.cons (.v 5) .nil))))))), (.ki .i64 3)])
   (.cal 16 [(.g shL)] [(.rc (.cons (.v 0) (.cons (.v 1) (.cons (.v 2) (.cons (.v 3) (.cons (.v 4) (.cons (.v 5) .nil)))))))] [(.h [(.s (.int .i64)), (.s (.int .i64)), (.s .bool), (.s (.int .i64)), (.r [(.int .i64)]), (.r [(.int .i64), (.lst [(.int .u8)])])])] 7
    (.cal 22 [(.c (.lst [(.int .u8)]))] [(.v 6)] [(.c (.lst [(.int .u8)]))] 13
     (.ev [(.ob (.cmp .leq (.len (.app (.v 12) (.cons (.rc (.cons (.ar .add .i64 (.v 0) (.v 1)) (.cons (.v 13) .nil))) .nil))) (.ki .i64 4294967296)))]
      (.ret [(.rc (.cons (.v 7) (.cons (.v 8) (.cons (.v 9) (.cons (.ar .add .i64 (.v 10) (.ki .i64 1)) (.cons (.v 11) (.cons (.app (.v 12) (.cons (.rc (.cons (.ar .add .i64 (.v 0) (.v 1)) (.cons (.v 13) .nil))) .nil)) .nil))))))), (.ki .i64 0)])))))))
def vcsend0 : VC := (.ite (.cmp .gtr (.len (.v 6)) (.ki .i64 8198))
 (.ret [(.rc (.cons (.v 0) (.cons (.v 1) (.cons (.v 2) (.cons (.v 3) (.cons (.v 4) (.cons (.v 5) .nil))))))), (.ki .i64 3)])
 (.ite (.cmp .geq (.v 3) (.ki .i64 2147483647))
  (.ret [(.rc (.cons (.v 0) (.cons (.v 1) (.cons (.v 2) (.cons (.v 3) (.cons (.v 4) (.cons (.v 5) .nil))))))), (.ki .i64 3)])
  (.cal 16 [(.g shL)] [(.rc (.cons (.v 0) (.cons (.v 1) (.cons (.v 2) (.cons (.v 3) (.cons (.v 4) (.cons (.v 5) .nil)))))))] [(.h [(.s (.int .i64)), (.s (.int .i64)), (.s .bool), (.s (.int .i64)), (.r [(.int .i64)]), (.r [(.int .i64), (.lst [(.int .u8)])])])] 7
   (.ret [(.rc (.cons (.v 7) (.cons (.v 8) (.cons (.v 9) (.cons (.ar .add .i64 (.v 10) (.ki .i64 1)) (.cons (.v 11) (.cons (.v 12) .nil))))))), (.ki .i64 0)]))))

theorem law3 : Keyed Try.prog 3 := int_keyed Try.underlying3
/-- Block b is a map in which the numbers of S stand. -/
def SetOK (w : World) (b n : Nat) (S : List Int) : Prop := ∃ D : DataW Unit, w.ownsMap Try.prog 3 (plainElem Try.prog 4) b n D ∧ IsMap D ∧ ∀ k : Int, D.atKey (.int .i64 k) (.lit (.bool false)) = .lit (.bool (decide (k ∈ S)))
theorem set_made (w : World) : SetOK (w.alloc (.map #[] 0)) w.heap.size 0 [] := ⟨.map [], World.ownsMap_made _ _ _ _, ⟨[], rfl⟩, fun k => by simp; rfl⟩
theorem set_put {w : World} {b n : Nat} {S : List Int} (h : SetOK w b n S) (hn : n < maxLen) {k : Int} (hk : (Lit.int .i64 k).wf = true) :
    ∃ w', (Instr.mapUpdate 93 (.map (some b)) (.int .i64 k) (.bool true)).run Try.prog w = .ok () w' ∧ SetOK w' b (n + 1) (k :: S) ∧ w.grownBy w' (some b) := by
  obtain ⟨D, h1, h2, h3⟩ := h
  obtain ⟨w', g1, g2, g3⟩ := h1.update law3 Try.underlying93 hn (keyOf_int_mk Try.underlying3 hk) (plainElem_bool Try.underlying4 true)
  refine ⟨w', g1, ⟨_, g2, h2.put _ _, fun j => ?_⟩, g3⟩
  by_cases e : j = k
  · subst e
    rw [atKey_put_same h2 (by first | trivial | exact ⟨_, _, rfl⟩ | simp [WideAt.IsKeyLit])]
    simp
  · rw [atKey_put_other (fun c => e (by injection c)), h3]
    simp [e]
theorem set_get {w : World} {b n : Nat} {S : List Int} (h : SetOK w b n S) {k : Int} (hk : (Lit.int .i64 k).wf = true) :
    (Instr.lookup 93 (.map (some b)) (.int .i64 k) false).run Try.prog w = .ok (.bool (decide (k ∈ S))) w := by
  obtain ⟨D, h1, h2, h3⟩ := h
  have hz : (zeroValue 4).run Try.prog w = .ok (.bool false) w := by kernel_rfl
  obtain ⟨v, ps, g1, g2⟩ := h1.lookup law3 Try.underlying93 hz (plainElem_bool Try.underlying4 false) (keyOf_int_mk Try.underlying3 hk)
  rw [h3] at g2
  have : v = .bool (decide (k ∈ S)) := by
    unfold plainElem at g2
    rw [Try.underlying4] at g2
    cases v <;> simp at g2
    rename_i x
    rw [g2.1]
  rw [g1, this]
theorem SetOK.below {w : World} {b n : Nat} {S : List Int} (h : SetOK w b n S) : b < w.heap.size := by
  obtain ⟨D, h1, _⟩ := h
  exact h1.lt
abbrev chg : List Nat := [6, 8, 20, 21, 22, 23, 24, 25, 26, 27, 28, 29, 30, 31, 32, 33, 34, 35, 36, 37, 38, 39, 40]
def arrB (l : Lk) : Bool := !decide (l.cn ∈ l.lo)
def sendL (l : Lk) (da : List Int) : Lk := if arrB l = true then { l with cn := l.cn + 1, bx := l.bx ++ [(l.nw + l.de, da)] } else { l with cn := l.cn + 1 }
structure SnB (l : Lk) (da : List Int) : Prop where
  b : LkB l
  cu : l.cu = false
  cn : 0 ≤ l.cn ∧ l.cn ≤ 100000
  nw : 0 ≤ l.nw ∧ l.nw ≤ 100000
  de : 0 ≤ l.de ∧ l.de ≤ 1000
  bx : l.bx.length < 256
  da : da.length ≤ 8198
theorem den1 (l : Lk) (da : List Int) (h : SnB l da) (ha : arrB l = true) : vcsend1.den Try.prog [] (fun r' => r' = .ok [lkD (sendL l da), I64d 0]) [] (flatD [tLk, tY'] [lkD l, bD da]) := by
  have h1 := h.cn
  have h2 := h.nw
  have h3 := h.de
  have h4 := h.bx
  have h5 := h.da
  unfold vcsend1
  refine den_f (by simp only [dF, dE]; omega) ?_
  refine den_f (by simp only [dF, dE]; omega) ?_
  refine den_f (by simp only [dF, dE]; omega) ?_
  refine den_cal (lkL l) rfl (lcop_fn l h.b) rfl rfl ?_
  (try simp only [List.cons_append, List.nil_append])
  refine den_cal [bD da] rfl (clbyt_fn da (by omega)) rfl rfl ?_
  (try simp only [List.cons_append, List.nil_append])
  refine den_ev (evs_ob (by simp only [dF, dE]; omega) (evs_nil ?_))
  refine den_ret ?_
  simp only [dF, dE]
  unfold sendL
  rw [if_pos ha, wrap_i64 (n := l.nw + l.de) (by omega) (by omega), wrap_i64 (n := l.cn + 1) (by omega) (by omega)]
  simp
theorem den0 (l : Lk) (da : List Int) (h : SnB l da) (ha : arrB l = false) : vcsend0.den Try.prog [] (fun r' => r' = .ok [lkD (sendL l da), I64d 0]) [] (flatD [tLk, tY'] [lkD l, bD da]) := by
  have h1 := h.cn
  have h5 := h.da
  unfold vcsend0
  refine den_f (by simp only [dF, dE]; omega) ?_
  refine den_f (by simp only [dF, dE]; omega) ?_
  refine den_cal (lkL l) rfl (lcop_fn l h.b) rfl rfl ?_
  (try simp only [List.cons_append, List.nil_append])
  refine den_ret ?_
  simp only [dF, dE]
  unfold sendL
  rw [if_neg (by rw [ha]; decide), wrap_i64 (n := l.cn + 1) (by omega) (by omega)]
theorem arr_lit {tmps : Array Value} {N : Nat} (h : tmps.size = N) : tmps = ((List.range N).map fun i => tmps.getD i undef).toArray := by
  apply Array.ext
  · simp [h]
  · intro i h1 h2
    simp [Array.getD_eq_getD_getElem?, h1]
set_option maxHeartbeats 4000000 in
theorem lsend_at (b : Bool) (l : Lk) (da : List Int) (h : SnB l da) (hw : ∀ x ∈ l.lo, (Lit.int .i64 x).wf = true) (hb : arrB l = b) {v : VC} (hv : genMF Try.prog chg 9 b 2 V14.sgs [] 21 [tLk, tY'] [tLk, tI] = v)
    (hd : v.den Try.prog [] (fun r' => r' = .ok [lkD (sendL l da), I64d 0]) [] (flatD [tLk, tY'] [lkD l, bD da])) : Fun Try.prog [] 21 [tLk, tY'] [lkD l, bD da] [tLk, tI] (.ok [lkD (sendL l da), I64d 0]) := by
  refine fun_of_mid V14.hP Try.func21 rfl (n := 2) rfl (cs := chg) (t := 9) (b := b) (cut := false) (cn := l.cn) (L := l.lo.map I64d) (by decide) ?_ (by show D.bool l.cu = _; rw [h.cu]) rfl rfl (by decide) hv hd
  intro rest Q M tmps w hin hk
  obtain ⟨hsz, hmem, bl, v0, v1, v4, v5, T, hp, hh, hr⟩ := hin
  obtain ⟨f, hf, hf2⟩ : ∃ f : Nat → Value, tmps = #[f 0, f 1, f 2, f 3, f 4, f 5, f 6, f 7, f 8, f 9, f 10, f 11, f 12, f 13, f 14, f 15, f 16, f 17, f 18, f 19, f 20, f 21, f 22, f 23, f 24, f 25, f 26, f 27, f 28, f 29, f 30, f 31, f 32, f 33, f 34, f 35, f 36, f 37, f 38, f 39, f 40, f 41, f 42, f 43, f 44, f 45, f 46, f 47, f 48, f 49, f 50, f 51, f 52, f 53, f 54, f 55, f 56, f 57, f 58, f 59, f 60, f 61, f 62, f 63, f 64, f 65, f 66, f 67, f 68, f 69] ∧ f 2 = .pointer (some ⟨bl, 0, none⟩) := ⟨fun i => tmps.getD i undef, arr_lit hsz, hp⟩
  subst hf
  rw [hf2] at hk ⊢
  have hbl := lt_of_heap hh
  have hmm := @run_makeMap Try.prog
  have q2 : (w.alloc (.map #[] 0)).cell? ⟨bl, 2, none⟩ = some (.bool false) := by rw [cell_congr (heap_old _ _ hbl), cell_of_heap hh]; rfl
  have q3 : (w.alloc (.map #[] 0)).cell? ⟨bl, 3, none⟩ = some (.int .i64 l.cn) := by rw [cell_congr (heap_old _ _ hbl), cell_of_heap hh]; rfl
  have q4 : (w.alloc (.map #[] 0)).cell? ⟨bl, 4, none⟩ = some v4 := by rw [cell_congr (heap_old _ _ hbl), cell_of_heap hh]; rfl
  have hcn : (Lit.int .i64 l.cn).wf = true := by
    have := h.cn
    show (decide (IntKind.i64.min ≤ _) && decide (_ ≤ IntKind.i64.max)) = true
    rw [Bool.and_eq_true, decide_eq_true_eq, decide_eq_true_eq]
    simp only [IntKind.min, IntKind.max, IntKind.bits, IntKind.signed]
    omega
  rw [Rep_lst] at hr
  obtain ⟨xs, e, _, hr⟩ := hr
  cases e
  by_cases hne : l.lo = []
  · obtain ⟨a, c, rfl⟩ : ∃ a c, v4 = .slice a 0 c := by
      rcases hr with ⟨rfl, _⟩ | ⟨b, off, sp, cap, rfl, _⟩
      · exact ⟨_, _, rfl⟩
      · rw [hne]; exact ⟨_, _, rfl⟩
    have hgt := set_get (set_made w) hcn
    go_wp2
    refine wp_loop_rounds 1 ?_
    rw [rounds_succ]
    go_wp2
    have hb1 : b = true := by rw [← hb]; unfold arrB; rw [hne]; simp
    subst hb1
    exact hk _ _ ⟨rfl, rfl, by kernel_rfl⟩ ((Below.refl _ _).alloc (Nat.le_refl _) _)
  · have hpos : 0 < l.lo.length := by
      cases hl : l.lo with
      | nil => exact absurd hl hne
      | cons _ _ => simp
    obtain ⟨bb, off, cap, rfl, hc⟩ : ∃ bb off cap, v4 = .slice (some ⟨bb, off, none⟩) l.lo.length cap ∧ ∀ k, k < l.lo.length → w.cell? ⟨bb, off + k, none⟩ = some (.int .i64 (l.lo.getD k 0)) := by
      rcases hr with ⟨_, e⟩ | ⟨bb, off, sp, cap, rfl, hsp, hcap, _, hc⟩
      · exact absurd (by simpa using e) hne
      · rw [List.length_map] at hcap ⊢
        rw [hsp (by omega)]
        refine ⟨bb, off, cap, rfl, fun k hk => ?_⟩
        have := hc k (I64d (l.lo.getD k 0)) (by simp [List.getElem?_map, List.getD_eq_getElem?_getD, hk])
        simp only [D.cells, List.length_singleton, if_true, RepCells] at this
        obtain ⟨⟨v1, b1, c1⟩, _⟩ := this
        rw [Rep_int] at c1
        obtain ⟨n, rfl, q1, _⟩ := c1
        cases q1
        have := hmem _ _ _ b1
        simpa using this
    have hll := h.b.lo
    go_wp2
    go_loopw [24] (fun i wr => ∃ k : Nat, k ≤ l.lo.length ∧ i = .int .i64 k ∧ (∃ S, SetOK wr w.heap.size k S ∧ ∀ x, x ∈ S ↔ x ∈ l.lo.take k) ∧ Below w.heap.size w wr) (fun i _ => l.lo.length - (intOf i).toNat)
    case atStart => exact ⟨0, Nat.zero_le _, rfl, ⟨[], set_made w, fun x => by simp⟩, (Below.refl _ _).alloc (Nat.le_refl _) _⟩
    case round =>
      obtain ⟨k, hkk, rfl, ⟨S, hS, hm⟩, hnx⟩ := hrel
      have r2 : wr.cell? ⟨bl, 2, none⟩ = some (.bool false) := by rw [cell_congr (hnx.block _ hbl), cell_of_heap hh]; rfl
      have r3 : wr.cell? ⟨bl, 3, none⟩ = some (.int .i64 l.cn) := by rw [cell_congr (hnx.block _ hbl), cell_of_heap hh]; rfl
      clear q2 q3 q4 hmm
      by_cases hlt : k < l.lo.length
      · have hcx := hc k hlt
        have hcx := (cell_congr (hnx.block _ (lt_of_cell hcx))).trans hcx
        have hmx : l.lo.getD k 0 ∈ l.lo := by rw [List.getD_eq_getElem?_getD, List.getElem?_eq_getElem hlt, Option.getD_some]; exact List.getElem_mem hlt
        have hwx := hw _ hmx
        have htk := take_get 0 hlt
        generalize l.lo.getD k 0 = x at hcx hwx htk
        obtain ⟨w1, hput, hS1, hg1⟩ := set_put hS (by unfold maxLen; omega) hwx
        go_wp2
        go_roundw
        case rel => exact ⟨k + 1, by omega, by go_num, ⟨_, hS1, fun y => by rw [htk, List.mem_cons, List.mem_append, List.mem_singleton, hm, or_comm]⟩, hnx.grown hg1 hnx.size (fun j hj => by cases hj; exact Nat.le_refl _)⟩
        case measure => simp [intOf]; omega
      · have e : k = l.lo.length := by omega
        subst e
        rw [List.take_length] at hm
        have hgt := set_get hS hcn
        have hx : decide (l.cn ∈ S) = !b := by rw [← hb]; unfold arrB; simp [hm]
        rw [hx] at hgt
        cases b with
        | true =>
          rw [Bool.not_true] at hgt
          go_wp2
          exact hk _ _ ⟨rfl, rfl, by kernel_rfl⟩ hnx
        | false =>
          rw [Bool.not_false] at hgt
          go_wp2
          exact hk _ _ ⟨rfl, rfl, by kernel_rfl⟩ hnx
theorem lsend_fn (l : Lk) (da : List Int) (h : SnB l da) (hw : ∀ x ∈ l.lo, (Lit.int .i64 x).wf = true) : Fun Try.prog [] 21 [tLk, tY'] [lkD l, bD da] [tLk, tI] (.ok [lkD (sendL l da), I64d 0]) := by
  cases hb : arrB l with
  | true => exact lsend_at true l da h hw hb (v := vcsend1) (by kernel_rfl) (den1 l da h hb)
  | false => exact lsend_at false l da h hw hb (v := vcsend0) (by kernel_rfl) (den0 l da h hb)

end Go.Proofs.Ytindphofgojfbaa.K14
set_option maxRecDepth 100000
set_option linter.unusedSimpArgs false
set_option linter.unusedVariables false
namespace Go.Proofs.Ytindphofgojfbaa.I14
open Go.Proofs.Ytindphofgojfbaa Go.Proofs.Ytindphofgojfbaa.Sy Go.Proofs.Ytindphofgojfbaa.L7 Go.Proofs.Ytindphofgojfbaa.Id Go.Proofs.Ytindphofgojfbaa.R26 Go.Proofs.Ytindphofgojfbaa.V26 Go.Proofs.Ytindphofgojfbaa.N27 Go.Proofs.Ytindphofgojfbaa.C27 Go.Proofs.Ytindphofgojfbaa.O14 Go.Proofs.Ytindphofgojfbaa.V14 Go.Proofs.Ytindphofgojfbaa.C14 Go.Proofs.Ytindphofgojfbaa.K14 Go.Proofs.Ytindphofgojfbaa.X14 Go.RowKit Go.WideShapes Go.ChangeShapes Go.ChangeAt
structure LI (F : List Int → Prop) (l : Lk) (nw c b : Nat) : Prop where
  nw : l.nw = (nw : Int)
  de : 1 ≤ l.de ∧ l.de ≤ 3
  cu : l.cu = false
  cn : 0 ≤ l.cn ∧ l.cn ≤ (c : Int)
  lo : l.lo.length ≤ 30
  lw : ∀ x ∈ l.lo, (Lit.int .i64 x).wf = true
  bx : l.bx.length ≤ b
  pk : ∀ p ∈ l.bx, F p.2
def FrB (n : Nat) (d : List Int) : Prop := ∃ i, 1 ≤ i ∧ i ≤ n ∧ d = fb i
def FrS (n : Nat) (d : List Int) : Prop := ∃ i, 1 ≤ i ∧ i ≤ n ∧ d = fs i
theorem fb_len {n : Nat} (hn : n ≤ 10) : ∀ d, FrB n d → d.length ≤ 8198 := by
  rintro _ ⟨i, h1, h2, rfl⟩
  exact len_b h1 (by omega)
theorem fs_len {n : Nat} (hn : n ≤ 10) : ∀ d, FrS n d → d.length ≤ 8198 := by
  rintro _ ⟨i, h1, h2, rfl⟩
  exact len_s h1 (by omega)
/-- at most one message, with its frame -/
def EncF (F : List Int → Prop) (ms : List Msg) : Prop := ms = [] ∨ ∃ m da, ms = [m] ∧ Fun Try.prog [] 20 [tM] [msD m] [.c (.lst [.int .u8]), tI] (.ok [bD da, I64d 0]) ∧ F da
theorem enc_beat {n i : Nat} (hn : n ≤ 10) (h1 : 1 ≤ i) (h2 : i ≤ n) : EncF (FrB n) [beatM (i : Int)] := .inr ⟨_, _, rfl, enc_b h1 (by omega), i, h1, h2, rfl⟩
theorem enc_res {n i : Nat} (hn : n ≤ 10) (h1 : 1 ≤ i) (h2 : i ≤ n) : EncF (FrS n) [resM (i : Int)] := .inr ⟨_, _, rfl, enc_s h1 (by omega), i, h1, h2, rfl⟩
section
variable {F : List Int → Prop} {l : Lk} {nw c b : Nat}
theorem LI.lkb (h : LI F l nw c b) (hF : ∀ d, F d → d.length ≤ 8198) (hb : b ≤ 1000) : LkB l := ⟨by have := h.lo; omega, by have := h.bx; omega, fun p hp => hF _ (h.pk p hp)⟩
theorem LI.snb (h : LI F l nw c b) (hF : ∀ d, F d → d.length ≤ 8198) (hb : b < 256) (hc : c ≤ 1000) (hn : nw ≤ 1000) {da : List Int} (hd : F da) : SnB l da :=
  ⟨h.lkb hF (by omega), h.cu, by have := h.cn; omega, by have := h.nw; omega, by have := h.de; omega, by have := h.bx; omega, hF _ hd⟩
theorem LI.send (h : LI F l nw c b) {da : List Int} (hd : F da) : LI F (sendL l da) nw (c + 1) (b + 1) := by
  have h1 := h.cn
  have h2 := h.bx
  unfold sendL
  split
  · refine ⟨h.nw, h.de, h.cu, ⟨by show 0 ≤ l.cn + 1; omega, by show l.cn + 1 ≤ _; omega⟩, h.lo, h.lw, by show (l.bx ++ [_]).length ≤ _; rw [List.length_append]; simp; omega, fun p hp => ?_⟩
    rcases List.mem_append.1 hp with hp | hp
    · exact h.pk p hp
    · rw [List.mem_singleton.1 hp]; exact hd
  · exact ⟨h.nw, h.de, h.cu, ⟨by show 0 ≤ l.cn + 1; omega, by show l.cn + 1 ≤ _; omega⟩, h.lo, h.lw, by show l.bx.length ≤ _; omega, h.pk⟩
theorem LI.mono (h : LI F l nw c b) {c' b' : Nat} (hc : c ≤ c') (hb : b ≤ b') : LI F l nw c' b' := ⟨h.nw, h.de, h.cu, by have := h.cn; omega, h.lo, h.lw, by have := h.bx; omega, h.pk⟩
theorem LI.tick (h : LI F l nw c b) : LI F (tickL l) (nw + 1) c (tickL l).bx.length := by
  have h1 := h.nw
  exact ⟨by show l.nw + 1 = _; omega, h.de, h.cu, h.cn, h.lo, h.lw, Nat.le_refl _, fun p hp => h.pk p (stay_sub hp)⟩
theorem tick_out (h : LI F l nw c b) (hF : ∀ d, F d → d.length ≤ 8198) (hb : b ≤ 1000) (hn : nw ≤ 1000) : ∃ (l' : Lk) (ar : List (List Int)), Fun Try.prog [] 9 [tLk] [lkD l] [tLk, .c (.lst [.lst [.int .u8]])] (.ok [lkD l', bbD ar]) ∧ LI F l' (nw + 1) c l'.bx.length ∧ l'.bx.length + ar.length ≤ b ∧ ∀ d ∈ ar, F d := by
  have h1 := h.nw
  have h2 := h.bx
  have h3 := stay_arrv (l.nw + 1) l.bx
  refine ⟨_, _, ltick_fn l (h.lkb hF hb) h.cu (by omega) (by omega), h.tick, ?_, fun d hd => ?_⟩
  · show (stay (l.nw + 1) l.bx).length + _ ≤ b
    omega
  · obtain ⟨p, hp, rfl⟩ := arrv_sub hd
    exact h.pk p hp
end
theorem tsend_fn0 (l : Lk) : Fun Try.prog [] 8 [tLk, tMs] [lkD l, msgsD []] [tLk, tB] (.ok [lkD l, .bool true]) := by
  refine tsend_ent _ _ ?_
  show vctsend.den _ _ _ _ _
  unfold vctsend
  (try simp only [flatD, List.cons_append, List.nil_append, List.append_nil])
  refine den_loopI (fun xs => ∃ z, xs = lkL l ++ [.bool z, I64d 0]) (fun _ => 0) ⟨false, rfl⟩ ?_
  rintro _ ⟨z, rfl⟩
  (try simp only [flatD, List.cons_append, List.nil_append, List.append_nil])
  refine den_f (by simp only [dF, dE]; simp) ?_
  refine den_ret ?_
  simp only [dF, dE]
theorem tsend_fn1 (l : Lk) (m : Msg) (da : List Int) (he : Fun Try.prog [] 20 [tM] [msD m] [.c (.lst [.int .u8]), tI] (.ok [bD da, I64d 0])) (h : SnB l da) (hw : ∀ x ∈ l.lo, (Lit.int .i64 x).wf = true) : Fun Try.prog [] 8 [tLk, tMs] [lkD l, msgsD [m]] [tLk, tB] (.ok [lkD (sendL l da), .bool true]) := by
  refine tsend_ent _ _ ?_
  show vctsend.den _ _ _ _ _
  unfold vctsend
  (try simp only [flatD, List.cons_append, List.nil_append, List.append_nil])
  refine den_loopI (fun xs => ∃ (z : Bool) (i : Nat) (l' : Lk), xs = lkL l' ++ [.bool z, I64d i] ∧ (i = 0 ∧ l' = l ∨ i = 1 ∧ l' = sendL l da)) (fun xs => 2 - (xs.getD 7 default).toI.toNat) ⟨false, 0, l, rfl, .inl ⟨rfl, rfl⟩⟩ ?_
  rintro _ ⟨z, i, l', rfl, (⟨rfl, rfl⟩ | ⟨rfl, rfl⟩)⟩
  · (try simp only [flatD, List.cons_append, List.nil_append, List.append_nil])
    refine den_t (by simp only [dF, dE]; simp) ?_
    refine den_ev (evs_ob (by simp only [dF, dE]; simp) (evs_ob (by simp only [dF, dE]; simp) (evs_nil ?_)))
    refine den_cal [bD da, I64d 0] rfl he rfl rfl ?_
    (try simp only [flatD, List.cons_append, List.nil_append, List.append_nil])
    refine den_f rfl ?_
    refine den_cal (lkL (sendL l' da) ++ [I64d 0]) rfl (lsend_fn l' da h hw) rfl rfl ?_
    (try simp only [flatD, List.cons_append, List.nil_append, List.append_nil])
    refine den_f rfl ?_
    refine den_back rfl ⟨z, 1, sendL l' da, rfl, .inr ⟨rfl, rfl⟩⟩ (by simp only []; simp only [dF, dE]; decide)
  · (try simp only [flatD, List.cons_append, List.nil_append, List.append_nil])
    refine den_f (by simp only [dF, dE]; simp) ?_
    refine den_ret ?_
    simp only [dF, dE]
theorem send_out {F : List Int → Prop} {l : Lk} {nw c b : Nat} (h : LI F l nw c b) (hF : ∀ d, F d → d.length ≤ 8198) (hb : b < 256) (hc : c ≤ 1000) (hn : nw ≤ 1000) {ms : List Msg} (ho : EncF F ms) : ∃ l', Fun Try.prog [] 8 [tLk, tMs] [lkD l, msgsD ms] [tLk, tB] (.ok [lkD l', .bool true]) ∧ LI F l' nw (c + 1) (b + 1) := by
  rcases ho with rfl | ⟨m, da, rfl, he, hd⟩
  · exact ⟨l, tsend_fn0 l, h.mono (by omega) (by omega)⟩
  · exact ⟨_, tsend_fn1 l m da he (h.snb hF hb hc hn hd) h.lw, h.send hd⟩
theorem new_out {de : Int} {lo : List Int} (F : List Int → Prop) (h1 : 1 ≤ de) (h2 : de ≤ 3) (hl : lo.length ≤ 30) (hw : ∀ x ∈ lo, (Lit.int .i64 x).wf = true) (he : losS (-1) lo = 0) : LI F (newL de lo) 0 0 0 := by
  unfold newL
  rw [if_pos he]
  exact ⟨rfl, ⟨h1, h2⟩, rfl, ⟨Int.le_refl _, Int.le_refl _⟩, hl, hw, Nat.le_refl _, fun p hp => by cases hp⟩
theorem res_fn (j : Int) : Fun Try.prog [] 12 [tM, tI] [msD (beatM j), I64d 1] [tM] (.ok [msD (resM j)]) := by
  refine M26.mresult_ent _ _ ?_
  show M26.vcmresult.den _ _ _ _ _
  unfold M26.vcmresult
  exact den_ret rfl
/-- what holds ahead of a minute -/
structure W2 (n t k : Nat) (a b : Ep) (x y : Lk) (la : Int) : Prop where
  ha : AS 3 2 n (t : Int) a k
  hb : BS n b la
  hxy : ∃ X Y, LI (FrB n) x t t X ∧ LI (FrS n) y t Y Y ∧ X + Y ≤ t
  ht : t ≤ 200
/-- .. among the frames that came up -/
structure W3 (n t : Nat) (b : Ep) (y : Lk) (la : Int) (left X : Nat) : Prop where
  hb : BS n b la
  hy : ∃ Y, LI (FrS n) y t Y Y ∧ Y + left + X ≤ t + 1

end Go.Proofs.Ytindphofgojfbaa.I14
