/-
  call.newer: whether the number of a message is greater than those of others. No conditions stand ahead of what is proved.
-/
import Derived.Test.YtindphofgojfbaaR26
import Derived.WalkKit
import Derived.OneCell
import Derived.Shelf.SlicesQ.IndexFunc
import Derived.Test.YtindphofgojfbaaV26b
set_option maxRecDepth 100000
set_option linter.unusedSimpArgs false
set_option linter.unusedVariables false
namespace Go.Proofs.Ytindphofgojfbaa.N27
open Go.Proofs.Ytindphofgojfbaa Go.Proofs.Ytindphofgojfbaa.Sy Go.Proofs.Ytindphofgojfbaa.L7 Go.Proofs.Ytindphofgojfbaa.Id Go.Proofs.Ytindphofgojfbaa.R26 Go.RowKit Go.WideShapes Go.ChangeShapes Go.ChangeAt
theorem clos_calls (vs : List Value) (a b : Int) (hl : vs.length = 25) (h1 : vs[1]? = some (.int .i64 a)) (B : Nat) (w : World) (hB : w.cell? ⟨B, 1, none⟩ = some (.int .i64 b)) (hlt : B < w.heap.size) :
    Calls Try.prog 52 #[.agg vs.toArray, .pointer (some ⟨B, 0, none⟩)] w fun e w' => e = .returned (.bool (decide (b ≤ a))) ∧ Below w.heap.size w w' := by
  match vs, hl with
  | [x0, x1, x2, x3, x4, x5, x6, x7, x8, x9, x10, x11, x12, x13, x14, x15, x16, x17, x18, x19, x20, x21, x22, x23, x24], _ =>
    have h1' : x1 = .int .i64 a := by simpa using h1
    subst h1'
    have hne : B ≠ w.heap.size := by omega
    clear h1
    go_enter Try.func52, Try.ntmps52
    go_wp2
    all_goals (go_ret; exact ⟨by simp_all, (Below.refl _ w).alloc (Nat.le_refl _) _⟩)
def msgZ : Msg := ⟨0, 0, 0, 0, 0, 0, 0, 0, ⟨#[]⟩, ⟨#[]⟩, ⟨#[]⟩, false, [], prof0, []⟩
def newB (m : Int) (l : List Msg) : Bool := l.all fun o => decide (o.id < m)
/-- The library's two functions, as the kit's contract wants them. -/
def ren : Go.Shelf.Ren := ⟨fun | 6 => 73 | 8 => 51 | n => n, fun | 0 => 0 | 3 => 3 | 4 => 4 | 22 => 23 | 23 => 44 | 25 => 74 | n => n, fun n => n⟩
theorem lays : SlLaysH0.n8 Try.prog ren where
  mixed := by kernel_rfl
  f6 := ⟨Try.f73.name, by decide +kernel, Try.func73.trans (congrArg some (by kernel_rfl))⟩
  f8 := ⟨Try.f51.name, by decide +kernel, Try.func51.trans (congrArg some (by kernel_rfl))⟩
  t0 := Try.underlying0
  a0 := Try.isAgg0
  z0 := Try.sizeOf0
  v0 := Try.zeroValue0
  t3 := Try.underlying3
  a3 := Try.isAgg3
  z3 := Try.sizeOf3
  v3 := Try.zeroValue3
  t4 := Try.underlying4
  a4 := Try.isAgg4
  z4 := Try.sizeOf4
  v4 := Try.zeroValue4
  t22 := Try.underlying23
  a22 := Try.isAgg23
  z22 := Try.sizeOf23
  v22 := Try.zeroValue23
  t25 := Try.underlying74
  a25 := Try.isAgg74
  z25 := Try.sizeOf74
  v25 := Try.zeroValue74
theorem index0 (a : Option Addr) (c : Nat) (f : Value) (w : World) : Calls Try.prog 73 #[.slice a 0 c, f] w fun e w' => e = .returned (.int .i64 (-1)) ∧ w' = w := by
  go_enter Try.func73, Try.ntmps73
  go_wp2
  go_loopw [8] (fun p wr => p = .int .i64 0 ∧ wr = w) (fun _ _ => 0)
  case atStart => exact ⟨rfl, rfl⟩
  case round =>
    obtain ⟨rfl, rfl⟩ := hrel
    go_wp2
    go_ret
    exact ⟨rfl, rfl⟩
theorem contains0 (a : Option Addr) (c : Nat) (f : Value) (w : World) : Calls Try.prog 51 #[.slice a 0 c, f] w fun e w' => e = .returned (.bool false) ∧ w' = w := by
  go_enter Try.func51, Try.ntmps51
  go_wp2_with (go_at_call 73; refine (index0 _ _ _ _).mono ?_; rintro e w1 ⟨rfl, rfl⟩)
  all_goals (go_ret; exact ⟨rfl, rfl⟩)
/-- A message's cells. -/
abbrev CellsV : Type := { vs : List Value // vs.length = 25 ∧ ∃ a, vs[1]? = some (.int .i64 a) }
instance : Inhabited CellsV := ⟨⟨List.replicate 25 (.int .i64 0), by decide, 0, rfl⟩⟩
def idV (x : CellsV) : Int := match (x.1[1]? : Option Value) with | some (Value.int _ a) => a | _ => 0
theorem idV_eq {x : CellsV} {a : Int} (h : x.1[1]? = some (.int .i64 a)) : idV x = a := by unfold idV; rw [h]
theorem idV_at (x : CellsV) : x.1[1]? = some (.int .i64 (idV x)) := by
  obtain ⟨a, ha⟩ := x.2.2
  rw [idV_eq ha]
  exact ha
theorem pick {α : Type} [Inhabited α] {Q : Nat → α → Prop} : ∀ (n : Nat), (∀ i, i < n → ∃ x, Q i x) → ∃ zs : List α, zs.length = n ∧ ∀ i, i < n → Q i zs[i]!
  | 0, _ => ⟨[], rfl, fun i h => absurd h (Nat.not_lt_zero _)⟩
  | n + 1, h => by
    obtain ⟨zs, h1, h2⟩ := pick n fun i hi => h i (by omega)
    obtain ⟨x, hx⟩ := h n (by omega)
    refine ⟨zs ++ [x], by simp [h1], fun i hi => ?_⟩
    by_cases hin : i < n
    · have := h2 i hin
      simpa [List.getElem!_eq_getElem?_getD, List.getElem?_append_left (show i < zs.length by omega)] using this
    · have e : i = n := by omega
      subst e
      simpa [List.getElem!_eq_getElem?_getD, h1] using hx
theorem contains_calls (zs : List CellsV) (m : Int) (b off cap B : Nat) (w : World) (hn : zs.length ≤ 9223372036854775807) (hB : w.cell? ⟨B, 1, none⟩ = some (.int .i64 m)) (hlt : B < w.heap.size) (hb : b < w.heap.size)
    (hc : ∀ j, j < zs.length → ∀ i v, (zs[j]!).1[i]? = some v → w.cell? ⟨b, off + j * 25 + i, none⟩ = some v) :
    Calls Try.prog 51 #[.slice (some ⟨b, off, none⟩) zs.length cap, .func (.func 52) #[] #[.pointer (some ⟨B, 0, none⟩)]] w fun e w' => e = .returned (.bool (zs.any fun x => decide (m ≤ idV x))) ∧ Below w.heap.size w w' := by
  have eg : ∀ args w, (callFunc 52 args).run Try.prog w = .ok (.enter 52 args) w := enters_of Try.func52 (by kernel_rfl) rfl
  have hcon := AnyQ.slices_ContainsFunc lays 25 Try.isAgg44 Try.sizeOf44 (fun x : CellsV => x.1) (fun x => x.2.1) (fun x => decide (m ≤ idV x)) 52 #[.pointer (some ⟨B, 0, none⟩)] eg b off zs.length cap zs w
    (fun W x hbw => by
      have h := clos_calls x.1 (idV x) m x.2.1 (idV_at x) B W ((hbw.cell (p := ⟨B, 1, none⟩) hlt).trans hB) (Nat.lt_of_lt_of_le hlt hbw.size)
      refine h.mono ?_
      rintro e w1 ⟨rfl, h1⟩
      exact ⟨rfl, hbw.trans (h1.mono hbw.size)⟩) (Nat.le_refl _) hn hb hc
  rw [List.take_length] at hcon
  exact hcon
theorem newer_calls (vs : List Value) (m : Int) (hl : vs.length = 25) (h1 : vs[1]? = some (.int .i64 m)) (zs : List CellsV) (b off cap : Nat) (w : World) (hn : zs.length ≤ 9223372036854775807) (hb : b < w.heap.size)
    (hc : ∀ j, j < zs.length → ∀ i v, (zs[j]!).1[i]? = some v → w.cell? ⟨b, off + j * 25 + i, none⟩ = some v) :
    Calls Try.prog 27 #[.agg vs.toArray, .slice (some ⟨b, off, none⟩) zs.length cap] w fun e w' => e = .returned (.bool (!(zs.any fun x => decide (m ≤ idV x)))) ∧ Below w.heap.size w w' := by
  match vs, hl with
  | [x0, x1, x2, x3, x4, x5, x6, x7, x8, x9, x10, x11, x12, x13, x14, x15, x16, x17, x18, x19, x20, x21, x22, x23, x24], _ =>
    have h1' : x1 = .int .i64 m := by simpa using h1
    subst h1'
    clear h1
    have hcc := fun (w1 : World) h2 h3 h4 h5 => contains_calls zs m b off cap w.heap.size w1 hn h2 h3 h4 h5
    generalize (zs.any fun x => decide (m ≤ idV x)) = r at hcc
    generalize hL : zs.length = L at *
    go_enter Try.func27, Try.ntmps27
    go_wp2_with (go_at_call 51; refine (hcc _ (by simp) (by simp) (by simp; omega) (fun j hj i v hv => Lib.cell?_alloc_some _ (hc j hj i v hv))).mono ?_; rintro e w1 ⟨rfl, hw1⟩)
    go_ret
    exact ⟨rfl, ((Below.refl _ w).alloc (Nat.le_refl _) _).trans (hw1.mono (by simp))⟩
theorem newer0 (vs : List Value) (m : Int) (hl : vs.length = 25) (h1 : vs[1]? = some (.int .i64 m)) (a : Option Addr) (c : Nat) (w : World) :
    Calls Try.prog 27 #[.agg vs.toArray, .slice a 0 c] w fun e w' => e = .returned (.bool true) ∧ Below w.heap.size w w' := by
  match vs, hl with
  | [x0, x1, x2, x3, x4, x5, x6, x7, x8, x9, x10, x11, x12, x13, x14, x15, x16, x17, x18, x19, x20, x21, x22, x23, x24], _ =>
    have h1' : x1 = .int .i64 m := by simpa using h1
    subst h1'
    clear h1
    go_enter Try.func27, Try.ntmps27
    go_wp2_with (go_at_call 51; refine (contains0 _ _ _ _).mono ?_; rintro e w1 ⟨rfl, rfl⟩)
    go_ret
    exact ⟨rfl, (Below.refl _ w).alloc (Nat.le_refl _) _⟩
abbrev tMs : TS := .c (.lst [.int .i64, .int .i64, .int .i64, .int .i64, .int .i64, .int .i64, .int .i64, .int .i64, .str, .str, .str, .bool, .lst [.int .i64, .int .i64], .int .i64, .int .i64, .int .i64, .int .i64, .int .i64, .str, .int .i64, .int .i64, .int .i64, .int .i64, .lst [.int .i64, .int .i64], .lst [.str, .str, .str, .int .i64, .int .i64, .int .i64]])
abbrev msgsD (l : List Msg) : D := .lst (l.map msD)
theorem newer_fn (m : Msg) (l : List Msg) : Fun Try.prog [] 27 [tM, tMs] [msD m, msgsD l] [tB] (.ok [.bool (newB m.id l)]) := by
  intro w M vs ps hM hG hA hI
  obtain ⟨hps, _⟩ := hA.plain rfl
  subst hps
  obtain ⟨v1, v2, rfl, ha, hb⟩ : ∃ v1 v2, vs = [v1, v2] ∧ RepT M tM v1 (msD m) ∧ Rep M (.lst [.int .i64, .int .i64, .int .i64, .int .i64, .int .i64, .int .i64, .int .i64, .int .i64, .str, .str, .str, .bool, .lst [.int .i64, .int .i64], .int .i64, .int .i64, .int .i64, .int .i64, .int .i64, .str, .int .i64, .int .i64, .int .i64, .int .i64, .lst [.int .i64, .int .i64], .lst [.str, .str, .str, .int .i64, .int .i64, .int .i64]]) v2 (msgsD l) := by
    generalize hq : ([] : List (Nat × Nat)) = q at hA
    cases hA with
    | cons ha hA => cases hA with
      | cons hb hA => cases hA; exact ⟨_, _, rfl, ha.1, hb.1⟩
  obtain ⟨ws, ds, rfl, e, hwl, hws⟩ := ha
  cases e
  have hwl : ws.length = 25 := hwl
  have h1 : ws[1]? = some (.int .i64 m.id) := by
    rw [RepCells_cons] at hws
    obtain ⟨d, ds', e, _, hws⟩ := hws
    cases e
    rw [RepCells_cons] at hws
    obtain ⟨d, ds', e, ⟨v, hv, hr⟩, _⟩ := hws
    cases e
    rw [Rep_int] at hr
    obtain ⟨n, rfl, e, _⟩ := hr
    cases e
    exact hv
  have fin : ∀ {e : Ending} {w' : World}, e = .returned (.bool (newB m.id l)) → Below w.heap.size w w' → FunPost M w (ownS []) [tM, tMs] [.agg ws.toArray, v2] [tB] (.ok [.bool (newB m.id l)]) e w' := by
    rintro e w' rfl hbl
    refine fun_grown (fun b o v hv => ?_) ⟨hbl.os, hbl.tape, hbl.output, hbl.size, fun k hk _ => hbl.block k hk⟩ rfl ⟨_, rfl, ?_, rfl⟩
    · have hcell := (hM b o v hv).1
      exact ⟨(hbl.cell (p := ⟨b, o, none⟩) (lt_of_cell hcell)).trans hcell, (hM b o v hv).2⟩
    · rw [Rep_bool]
      exact ⟨_, rfl, rfl⟩
  rw [Rep_lst] at hb
  obtain ⟨L, e, hLl, hc⟩ := hb
  cases e
  rw [List.length_map] at hLl hc
  have hml : maxLen ≤ 9223372036854775807 := by decide
  have hempty : ∀ (a : Option Addr) (c : Nat), l = [] → Calls Try.prog 27 #[.agg ws.toArray, .slice a 0 c] w fun e w' => FunPost M w (ownS []) [tM, tMs] [.agg ws.toArray, v2] [tB] (.ok [.bool (newB m.id l)]) e w' := fun a c hl => by
    refine (newer0 ws m.id hwl h1 a c w).mono ?_
    rintro e w' ⟨rfl, hb⟩
    exact fin (by subst hl; rfl) hb
  rcases hc with ⟨rfl, hnil⟩ | ⟨b, off, sp, cap, rfl, hsp, hcap, hcm, hcells⟩
  · exact hempty _ _ (by simpa using hnil)
  by_cases hl0 : l = []
  · have h := hempty (some ⟨b, off, sp⟩) cap hl0
    rw [show l.length = 0 by rw [hl0]; rfl]
    exact h
  have hlp : 0 < l.length := List.length_pos_iff.2 hl0
  have hspn : sp = none := hsp (by omega)
  subst hspn
  obtain ⟨zs, hzl, hz⟩ := pick (α := CellsV) (Q := fun i x => idV x = (l.getD i msgZ).id ∧ ∀ k v, x.1[k]? = some v → M b (off + i * 25 + k) = some v) l.length (fun i hi => by
    have hr := hcells i (msD (l.getD i msgZ)) (by rw [List.getElem?_map, List.getD_eq_getElem?_getD, List.getElem?_eq_getElem hi]; rfl)
    obtain ⟨us, u1, u2, u3⟩ := RepCells.list hr 0 25 (by decide)
    have hu1 : us[1]? = some (.int .i64 (l.getD i msgZ).id) := by
      obtain ⟨v, hv⟩ : ∃ v, us[1]? = some v := ⟨us[1]'(by omega), List.getElem?_eq_getElem (by omega)⟩
      obtain ⟨d, hd, hrp⟩ := u3 1 _ v rfl hv
      rw [Rep_int] at hrp
      obtain ⟨n, rfl, rfl, _⟩ := hrp
      rw [hv]
      cases hd
      rfl
    exact ⟨⟨us, u1, _, hu1⟩, idV_eq hu1, fun k v hk => by simpa [Nat.add_assoc] using u2 k v hk⟩)
  have hblt : b < w.heap.size := by
    obtain ⟨hx, hy⟩ := hz 0 hlp
    obtain ⟨a, ha⟩ := (zs[0]!).2.2
    exact lt_of_cell (hM _ _ _ (hy 1 _ ha)).1
  have hcl := newer_calls ws m.id hwl h1 zs b off cap w (by omega) hblt (fun j hj i v hv => (hM _ _ _ ((hz j (by omega)).2 i v hv)).1)
  rw [hzl] at hcl
  refine hcl.mono ?_
  rintro e w' ⟨rfl, hb⟩
  refine fin ?_ hb
  have : (zs.any fun x => decide (m.id ≤ idV x)) = !(newB m.id l) := by
    rw [Bool.eq_iff_iff]
    unfold newB
    simp only [List.any_eq_true, decide_eq_true_eq, Bool.not_eq_true', List.all_eq_false]
    constructor
    · rintro ⟨x, hx, hxm⟩
      obtain ⟨j, hj, rfl⟩ := List.getElem_of_mem hx
      have := (hz j (by omega)).1
      rw [List.getElem!_eq_getElem?_getD, List.getElem?_eq_getElem hj, Option.getD_some] at this
      refine ⟨l.getD j msgZ, ?_, by omega⟩
      rw [List.getD_eq_getElem?_getD, List.getElem?_eq_getElem (by omega), Option.getD_some]
      exact List.getElem_mem _
    · rintro ⟨o, ho, hom⟩
      obtain ⟨j, hj, rfl⟩ := List.getElem_of_mem ho
      have := (hz j hj).1
      rw [List.getElem!_eq_getElem?_getD, List.getElem?_eq_getElem (by omega), Option.getD_some, List.getD_eq_getElem?_getD, List.getElem?_eq_getElem hj, Option.getD_some] at this
      exact ⟨zs[j]'(by omega), List.getElem_mem _, by omega⟩
  rw [this, Bool.not_not]


end Go.Proofs.Ytindphofgojfbaa.N27
set_option maxRecDepth 100000
set_option linter.unusedSimpArgs false
set_option linter.unusedVariables false
namespace Go.Proofs.Ytindphofgojfbaa.C27
open Go.Proofs.Ytindphofgojfbaa Go.Proofs.Ytindphofgojfbaa.Sy Go.Proofs.Ytindphofgojfbaa.L7 Go.Proofs.Ytindphofgojfbaa.Id Go.Proofs.Ytindphofgojfbaa.R26 Go.Proofs.Ytindphofgojfbaa.V26 Go.Proofs.Ytindphofgojfbaa.N27 Go.RowKit Go.WideShapes Go.ChangeShapes Go.ChangeAt
theorem hP : NoNum Try.prog := by unfold NoNum; kernel_rfl
def sgs : Nat → Option (List TS × List TS) := fun f => if Nat.beq f 19 then some ([.c (.lst [.int .i64, .int .i64, .int .i64, .int .i64, .int .i64, .int .i64, .int .i64, .int .i64, .str, .str, .str, .bool, .lst [.int .i64, .int .i64], .int .i64, .int .i64, .int .i64, .int .i64, .int .i64, .str, .int .i64, .int .i64, .int .i64, .int .i64, .lst [.int .i64, .int .i64], .lst [.str, .str, .str, .int .i64, .int .i64, .int .i64]])], [.r [.int .i64, .int .i64, .int .i64, .int .i64, .int .i64, .int .i64, .int .i64, .int .i64, .str, .str, .str, .bool, .lst [.int .i64, .int .i64], .int .i64, .int .i64, .int .i64, .int .i64, .int .i64, .str, .int .i64, .int .i64, .int .i64, .int .i64, .lst [.int .i64, .int .i64], .lst [.str, .str, .str, .int .i64, .int .i64, .int .i64]]]) else if Nat.beq f 18 then some ([.g [.int .i64, .int .i64, .int .i64, .lst [.int .i64, .int .i64, .int .i64, .int .i64, .int .i64, .int .i64, .int .i64, .int .i64, .str, .str, .str, .bool, .lst [.int .i64, .int .i64], .int .i64, .int .i64, .int .i64, .int .i64, .int .i64, .str, .int .i64, .int .i64, .int .i64, .int .i64, .lst [.int .i64, .int .i64], .lst [.str, .str, .str, .int .i64, .int .i64, .int .i64]], .lst [.int .i64, .int .i64, .int .i64, .int .i64, .int .i64, .int .i64, .int .i64, .int .i64, .str, .str, .str, .bool, .lst [.int .i64, .int .i64], .int .i64, .int .i64, .int .i64, .int .i64, .int .i64, .str, .int .i64, .int .i64, .int .i64, .int .i64, .lst [.int .i64, .int .i64], .lst [.str, .str, .str, .int .i64, .int .i64, .int .i64]], .int .i64, .int .i64, .lst [.int .i64, .int .i64, .int .i64, .int .i64, .int .i64, .int .i64, .int .i64, .int .i64, .str, .str, .str, .bool, .lst [.int .i64, .int .i64], .int .i64, .int .i64, .int .i64, .int .i64, .int .i64, .str, .int .i64, .int .i64, .int .i64, .int .i64, .lst [.int .i64, .int .i64], .lst [.str, .str, .str, .int .i64, .int .i64, .int .i64]]]], [.h [.s (.int .i64), .s (.int .i64), .s (.int .i64), .r [.int .i64, .int .i64, .int .i64, .int .i64, .int .i64, .int .i64, .int .i64, .int .i64, .str, .str, .str, .bool, .lst [.int .i64, .int .i64], .int .i64, .int .i64, .int .i64, .int .i64, .int .i64, .str, .int .i64, .int .i64, .int .i64, .int .i64, .lst [.int .i64, .int .i64], .lst [.str, .str, .str, .int .i64, .int .i64, .int .i64]], .r [.int .i64, .int .i64, .int .i64, .int .i64, .int .i64, .int .i64, .int .i64, .int .i64, .str, .str, .str, .bool, .lst [.int .i64, .int .i64], .int .i64, .int .i64, .int .i64, .int .i64, .int .i64, .str, .int .i64, .int .i64, .int .i64, .int .i64, .lst [.int .i64, .int .i64], .lst [.str, .str, .str, .int .i64, .int .i64, .int .i64]], .s (.int .i64), .s (.int .i64), .r [.int .i64, .int .i64, .int .i64, .int .i64, .int .i64, .int .i64, .int .i64, .int .i64, .str, .str, .str, .bool, .lst [.int .i64, .int .i64], .int .i64, .int .i64, .int .i64, .int .i64, .int .i64, .str, .int .i64, .int .i64, .int .i64, .int .i64, .lst [.int .i64, .int .i64], .lst [.str, .str, .str, .int .i64, .int .i64, .int .i64]]]]) else none
def vcset : VC := (.ite (.cmp .geq (.v 0) (.ki .i64 1))
 (.ite (.cmp .leq (.v 0) (.ki .i64 1440))
  (.ite (.cmp .geq (.v 1) (.ki .i64 0))
   (.ret [(.cmp .leq (.v 1) (.ki .i64 100))])
   (.ret [(.kb false)]))
  (.ret [(.kb false)]))
 (.ret [(.kb false)]))
theorem set_ent : EntOK Try.prog [] ⟨14, [(.c (.int .i64)), (.c (.int .i64))], [(.c .bool)], vcset⟩ :=
  ent_of_gen hP Try.func14 rfl (by decide) (sg := sgs) (by kernel_rfl)
def vcisr : VC := (.ite (.cmp .eql (.v 0) (.ki .i64 2))
 (.ret [(.kb true)])
 (.ret [(.cmp .eql (.v 0) (.ki .i64 3))]))
theorem isr_ent : EntOK Try.prog [] ⟨26, [(.g shM)], [(.c .bool)], vcisr⟩ :=
  ent_of_gen hP Try.func26 rfl (by decide) (sg := sgs) (by kernel_rfl)
def vcclper : VC := (.nilq (.v 0)
 (.ret [.nil])
 (.ev [(.ob (.cmp .leq (.len (.app .nil (.v 0))) (.ki .i64 4294967296)))]
  (.ret [(.app .nil (.v 0))])))
theorem clper_ent : EntOK Try.prog [] ⟨36, [(.c (.lst [(.int .i64), (.int .i64)]))], [(.c (.lst [(.int .i64), (.int .i64)]))], vcclper⟩ :=
  ent_of_gen hP Try.func36 rfl (by decide) (sg := sgs) (by kernel_rfl)
def vccltok : VC := (.nilq (.v 0)
 (.ret [.nil])
 (.ev [(.ob (.cmp .leq (.len (.app .nil (.v 0))) (.ki .i64 4294967296)))]
  (.ret [(.app .nil (.v 0))])))
theorem cltok_ent : EntOK Try.prog [] ⟨37, [(.c (.lst [.str, .str, .str, (.int .i64), (.int .i64), (.int .i64)]))], [(.c (.lst [.str, .str, .str, (.int .i64), (.int .i64), (.int .i64)]))], vccltok⟩ :=
  ent_of_gen hP Try.func37 rfl (by decide) (sg := sgs) (by kernel_rfl)
def vccoll : VC := (.ev [(.ob (.cmp .leq (.ki .i64 0) (.len (.v 0)))), (.ob (.cmp .leq (.len (.v 0)) (.ki .i64 4294967296)))]
 (.loop [(.lst shM), (.int .i64)] [(.rep (.ki .i64 0) (.rc (.cons (.ki .i64 0) (.cons (.ki .i64 0) (.cons (.ki .i64 0) (.cons (.ki .i64 0) (.cons (.ki .i64 0) (.cons (.ki .i64 0) (.cons (.ki .i64 0) (.cons (.ki .i64 0) (.cons (.ks ⟨List.toArray []⟩) (.cons (.ks ⟨List.toArray []⟩) (.cons (.ks ⟨List.toArray []⟩) (.cons (.kb false) (.cons .nil (.cons (.ki .i64 0) (.cons (.ki .i64 0) (.cons (.ki .i64 0) (.cons (.ki .i64 0) (.cons (.ki .i64 0) (.cons (.ks ⟨List.toArray []⟩) (.cons (.ki .i64 0) (.cons (.ki .i64 0) (.cons (.ki .i64 0) (.cons (.ki .i64 0) (.cons .nil (.cons .nil .nil))))))))))))))))))))))))))), (.ki .i64 0)]
  (.ite (.cmp .lss (.v 2) (.len (.v 0)))
   (.ev [(.ob (.cmp .geq (.v 2) (.ki .i64 0))), (.ob (.cmp .lss (.v 2) (.len (.v 0))))]
    (.cal 35 [(.c (.lst [(.int .i64), (.int .i64)]))] [(.cell (.get (.v 0) (.v 2)) 12)] [(.c (.lst [(.int .i64), (.int .i64)]))] 3
     (.cal 36 [(.c (.lst [(.int .i64), (.int .i64)]))] [(.cell (.get (.v 0) (.v 2)) 23)] [(.c (.lst [(.int .i64), (.int .i64)]))] 4
      (.cal 37 [(.c (.lst [.str, .str, .str, (.int .i64), (.int .i64), (.int .i64)]))] [(.cell (.get (.v 0) (.v 2)) 24)] [(.c (.lst [.str, .str, .str, (.int .i64), (.int .i64), (.int .i64)]))] 5
       (.ev [(.ob (.cmp .leq (.len (.app (.v 1) (.cons (.rc (.cons (.cell (.get (.v 0) (.v 2)) 0) (.cons (.cell (.get (.v 0) (.v 2)) 1) (.cons (.cell (.get (.v 0) (.v 2)) 2) (.cons (.cell (.get (.v 0) (.v 2)) 3) (.cons (.cell (.get (.v 0) (.v 2)) 4) (.cons (.cell (.get (.v 0) (.v 2)) 5) (.cons (.cell (.get (.v 0) (.v 2)) 6) (.cons (.cell (.get (.v 0) (.v 2)) 7) (.cons (.cell (.get (.v 0) (.v 2)) 8) (.cons (.cell (.get (.v 0) (.v 2)) 9) (.cons (.cell (.get (.v 0) (.v 2)) 10) (.cons (.cell (.get (.v 0) (.v 2)) 11) (.cons (.v 3) (.cons (.cell (.get (.v 0) (.v 2)) 13) (.cons (.cell (.get (.v 0) (.v 2)) 14) (.cons (.cell (.get (.v 0) (.v 2)) 15) (.cons (.cell (.get (.v 0) (.v 2)) 16) (.cons (.cell (.get (.v 0) (.v 2)) 17) (.cons (.cell (.get (.v 0) (.v 2)) 18) (.cons (.cell (.get (.v 0) (.v 2)) 19) (.cons (.cell (.get (.v 0) (.v 2)) 20) (.cons (.cell (.get (.v 0) (.v 2)) 21) (.cons (.cell (.get (.v 0) (.v 2)) 22) (.cons (.v 4) (.cons (.v 5) .nil)))))))))))))))))))))))))) .nil))) (.ki .i64 4294967296)))]
        (.back 0 [(.app (.v 1) (.cons (.rc (.cons (.cell (.get (.v 0) (.v 2)) 0) (.cons (.cell (.get (.v 0) (.v 2)) 1) (.cons (.cell (.get (.v 0) (.v 2)) 2) (.cons (.cell (.get (.v 0) (.v 2)) 3) (.cons (.cell (.get (.v 0) (.v 2)) 4) (.cons (.cell (.get (.v 0) (.v 2)) 5) (.cons (.cell (.get (.v 0) (.v 2)) 6) (.cons (.cell (.get (.v 0) (.v 2)) 7) (.cons (.cell (.get (.v 0) (.v 2)) 8) (.cons (.cell (.get (.v 0) (.v 2)) 9) (.cons (.cell (.get (.v 0) (.v 2)) 10) (.cons (.cell (.get (.v 0) (.v 2)) 11) (.cons (.v 3) (.cons (.cell (.get (.v 0) (.v 2)) 13) (.cons (.cell (.get (.v 0) (.v 2)) 14) (.cons (.cell (.get (.v 0) (.v 2)) 15) (.cons (.cell (.get (.v 0) (.v 2)) 16) (.cons (.cell (.get (.v 0) (.v 2)) 17) (.cons (.cell (.get (.v 0) (.v 2)) 18) (.cons (.cell (.get (.v 0) (.v 2)) 19) (.cons (.cell (.get (.v 0) (.v 2)) 20) (.cons (.cell (.get (.v 0) (.v 2)) 21) (.cons (.cell (.get (.v 0) (.v 2)) 22) (.cons (.v 4) (.cons (.v 5) .nil)))))))))))))))))))))))))) .nil)), (.ar .add .i64 (.v 2) (.ki .i64 1))]))))))
   (.ret [(.v 1)]))))
def hdcoll : List HdL := [{ kind := true, id := 3, nv := 1, tmps := [(.v (.c (.d (.lst shM) (.v 0)))), (.v (.c .any)), (.v (.c (.nilS shM))), (.v (.c (.row 0 shM (.len (.v 1))))), (.v (.c .any)), (.v (.c .any)), (.v (.c (.d (.lst shM) (.v 0)))), (.v (.c (.d (.int .i64) (.len (.v 0))))), (.v (.c .any)), (.v (.c (.d (.lst shM) (.v 0)))), (.v (.c (.d (.int .i64) (.len (.v 0))))), (.v (.c (.d (.int .i64) (.v 2)))) ] ++ an 23, blks := [(.row shM (.v 1) false)], shs := [(.lst shM), (.int .i64)], rs := [], bs := [], fz := [] }]
theorem coll_ent : EntOK Try.prog [] ⟨19, [(.c (.lst shM))], [(.r shM)], vccoll⟩ :=
  ent_of_genH hP Try.func19 rfl (by decide) (jn := []) (hd := hdcoll) (sg := sgs) (by kernel_rfl)
def vccop : VC := (.ev [(.call 19 [(.c (.lst shM))] [(.v 3)] [(.r shM)] 8), (.call 19 [(.c (.lst shM))] [(.v 4)] [(.r shM)] 9), (.call 19 [(.c (.lst shM))] [(.v 7)] [(.r shM)] 10)]
 (.ret [(.rc (.cons (.v 0) (.cons (.v 1) (.cons (.v 2) (.cons (.v 8) (.cons (.v 9) (.cons (.v 5) (.cons (.v 6) (.cons (.v 10) .nil)))))))))]))
theorem cop_ent : EntOK Try.prog [] ⟨18, [(.g [(.int .i64), (.int .i64), (.int .i64), (.lst shM), (.lst shM), (.int .i64), (.int .i64), (.lst shM)])], [(.h [(.s (.int .i64)), (.s (.int .i64)), (.s (.int .i64)), (.r shM), (.r shM), (.s (.int .i64)), (.s (.int .i64)), (.r shM)])], vccop⟩ :=
  ent_of_gen hP Try.func18 rfl (by decide) (sg := sgs) (by kernel_rfl)
def vcnew : VC := (.cal 14 [(.c (.int .i64)), (.c (.int .i64))] [(.v 0), (.v 1)] [(.c .bool)] 3
 (.ite (.v 3)
  (.ite (.cmp .lss (.v 2) (.ki .i64 1))
   (.ret [(.rc (.cons (.ki .i64 0) (.cons (.ki .i64 0) (.cons (.ki .i64 0) (.cons .nil (.cons .nil (.cons (.ki .i64 0) (.cons (.ki .i64 0) (.cons .nil .nil))))))))), (.ki .i64 2)])
   (.ite (.cmp .geq (.v 2) (.ki .i64 2147483648))
    (.ret [(.rc (.cons (.ki .i64 0) (.cons (.ki .i64 0) (.cons (.ki .i64 0) (.cons .nil (.cons .nil (.cons (.ki .i64 0) (.cons (.ki .i64 0) (.cons .nil .nil))))))))), (.ki .i64 2)])
    (.ret [(.rc (.cons (.v 2) (.cons (.v 0) (.cons (.v 1) (.cons .nil (.cons .nil (.cons (.ki .i64 0) (.cons (.ki .i64 0) (.cons .nil .nil))))))))), (.ki .i64 0)])))
  (.ret [(.rc (.cons (.ki .i64 0) (.cons (.ki .i64 0) (.cons (.ki .i64 0) (.cons .nil (.cons .nil (.cons (.ki .i64 0) (.cons (.ki .i64 0) (.cons .nil .nil))))))))), (.ki .i64 2)])))
theorem new_ent : EntOK Try.prog [] ⟨4, [(.c (.int .i64)), (.c (.int .i64)), (.c (.int .i64))], [(.g [(.int .i64), (.int .i64), (.int .i64), (.lst shM), (.lst shM), (.int .i64), (.int .i64), (.lst shM)]), (.c (.int .i64))], vcnew⟩ :=
  ent_of_gen hP Try.func4 rfl (by decide) (sg := sgs) (by kernel_rfl)
def vccall : VC := (.ite (.cmp .geq (.len (.v 3)) (.ki .i64 256))
 (.ret [(.rc (.cons (.v 0) (.cons (.v 1) (.cons (.v 2) (.cons (.v 3) (.cons (.v 4) (.cons (.v 5) (.cons (.v 6) (.cons (.v 7) .nil))))))))), (.ki .i64 0), (.ki .i64 3)])
 (.ite (.cmp .geq (.v 0) (.ki .i64 2147483648))
  (.ret [(.rc (.cons (.v 0) (.cons (.v 1) (.cons (.v 2) (.cons (.v 3) (.cons (.v 4) (.cons (.v 5) (.cons (.v 6) (.cons (.v 7) .nil))))))))), (.ki .i64 0), (.ki .i64 3)])
  (.cal 17 [(.g shM)] [(.rc (.cons (.ki .i64 1) (.cons (.v 0) (.cons (.v 10) (.cons (.v 11) (.cons (.v 12) (.cons (.v 13) (.cons (.v 14) (.cons (.v 15) (.cons (.v 16) (.cons (.v 17) (.cons (.v 18) (.cons (.v 19) (.cons (.v 20) (.cons (.v 21) (.cons (.v 22) (.cons (.v 23) (.cons (.v 24) (.cons (.v 25) (.cons (.v 26) (.cons (.v 27) (.cons (.v 28) (.cons (.v 29) (.cons (.v 30) (.cons (.v 31) (.cons (.v 32) .nil))))))))))))))))))))))))))] [(.c (.int .i64))] 33
   (.ite (.cmp .neq (.v 33) (.ki .i64 0))
    (.ret [(.rc (.cons (.v 0) (.cons (.v 1) (.cons (.v 2) (.cons (.v 3) (.cons (.v 4) (.cons (.v 5) (.cons (.v 6) (.cons (.v 7) .nil))))))))), (.ki .i64 0), (.v 33)])
    (.cal 18 [(.g [(.int .i64), (.int .i64), (.int .i64), (.lst shM), (.lst shM), (.int .i64), (.int .i64), (.lst shM)])] [(.rc (.cons (.v 0) (.cons (.v 1) (.cons (.v 2) (.cons (.v 3) (.cons (.v 4) (.cons (.v 5) (.cons (.v 6) (.cons (.v 7) .nil)))))))))] [(.h [(.s (.int .i64)), (.s (.int .i64)), (.s (.int .i64)), (.r shM), (.r shM), (.s (.int .i64)), (.s (.int .i64)), (.r shM)])] 34
     (.cal 19 [(.c (.lst shM))] [(.cons (.rc (.cons (.ki .i64 1) (.cons (.v 0) (.cons (.v 10) (.cons (.v 11) (.cons (.v 12) (.cons (.v 13) (.cons (.v 14) (.cons (.v 15) (.cons (.v 16) (.cons (.v 17) (.cons (.v 18) (.cons (.v 19) (.cons (.v 20) (.cons (.v 21) (.cons (.v 22) (.cons (.v 23) (.cons (.v 24) (.cons (.v 25) (.cons (.v 26) (.cons (.v 27) (.cons (.v 28) (.cons (.v 29) (.cons (.v 30) (.cons (.v 31) (.cons (.v 32) .nil)))))))))))))))))))))))))) .nil)] [(.r shM)] 42
      (.ev [(.ob (.cmp .leq (.len (.app (.v 37) (.v 42))) (.ki .i64 4294967296)))]
       (.ret [(.rc (.cons (.ar .add .i64 (.v 34) (.ki .i64 1)) (.cons (.v 35) (.cons (.v 36) (.cons (.app (.v 37) (.v 42)) (.cons (.v 38) (.cons (.v 39) (.cons (.v 40) (.cons (.v 41) .nil))))))))), (.v 0), (.ki .i64 0)]))))))))
theorem call_ent : EntOK Try.prog [] ⟨6, [(.g [(.int .i64), (.int .i64), (.int .i64), (.lst shM), (.lst shM), (.int .i64), (.int .i64), (.lst shM)]), (.g shM)], [(.g [(.int .i64), (.int .i64), (.int .i64), (.lst shM), (.lst shM), (.int .i64), (.int .i64), (.lst shM)]), (.c (.int .i64)), (.c (.int .i64))], vccall⟩ :=
  ent_of_gen hP Try.func6 rfl (by decide) (sg := sgs) (by kernel_rfl)
def vcsend : VC := (.ite (.cmp .lss (.v 8) (.ki .i64 0))
 (.ret [(.rc (.cons (.v 0) (.cons (.v 1) (.cons (.v 2) (.cons (.v 3) (.cons (.v 4) (.cons (.v 5) (.cons (.v 6) (.cons (.v 7) .nil))))))))), .nil, .nil])
 (.ite (.cmp .gtr (.v 8) (.ki .i64 268435456))
  (.ret [(.rc (.cons (.v 0) (.cons (.v 1) (.cons (.v 2) (.cons (.v 3) (.cons (.v 4) (.cons (.v 5) (.cons (.v 6) (.cons (.v 7) .nil))))))))), .nil, .nil])
  (.cal 18 [(.g [(.int .i64), (.int .i64), (.int .i64), (.lst shM), (.lst shM), (.int .i64), (.int .i64), (.lst shM)])] [(.rc (.cons (.v 0) (.cons (.v 1) (.cons (.v 2) (.cons (.v 3) (.cons (.v 4) (.cons (.v 5) (.cons (.v 6) (.cons (.v 7) .nil)))))))))] [(.h [(.s (.int .i64)), (.s (.int .i64)), (.s (.int .i64)), (.r shM), (.r shM), (.s (.int .i64)), (.s (.int .i64)), (.r shM)])] 9
   (.ite (.cmp .gtr (.len (.v 4)) (.ki .i64 0))
    (.ite (.cmp .leq (.v 5) (.v 8))
     (.ite (.cmp .leq (.v 6) (.v 2))
      (.ev [(.ob (.cmp .lss (.ki .i64 0) (.len (.v 4))))]
       (.cal 19 [(.c (.lst shM))] [(.cons (cpM (.get (.v 4) (.ki .i64 0))) .nil)] [(.r shM)] 17
        (.ite (.cmp .gtr (.len (.v 13)) (.ki .i64 0))
         (.ret [(.rc (.cons (.v 9) (.cons (.v 10) (.cons (.v 11) (.cons (.v 12) (.cons (.v 13) (.cons (.ar .add .i64 (.v 8) (.v 1)) (.cons (.ar .add .i64 (.v 15) (.ki .i64 1)) (.cons (.v 16) .nil))))))))), (.v 17), .nil])
         (.ite (.cmp .gtr (.len (.v 3)) (.ki .i64 0))
          (.ev [(.ob (.cmp .lss (.ki .i64 0) (.len (.v 3))))]
           (.cal 19 [(.c (.lst shM))] [(.cons (cpM (.get (.v 3) (.ki .i64 0))) .nil)] [(.r shM)] 18
            (.ev [(.ob (.cmp .lss (.ki .i64 0) (.len (.v 3))))]
             (.cal 19 [(.c (.lst shM))] [(.cons (cpM (.get (.v 3) (.ki .i64 0))) .nil)] [(.r shM)] 19
              (.ev [(.ob (.cmp .leq (.ki .i64 1) (.len (.v 3))))]
               (.cal 19 [(.c (.lst shM))] [(.sub (.v 3) (.ki .i64 1) (.len (.v 3)))] [(.r shM)] 20
                (.ret [(.rc (.cons (.v 9) (.cons (.v 10) (.cons (.v 11) (.cons (.v 20) (.cons (.v 19) (.cons (.ar .add .i64 (.v 8) (.v 1)) (.cons (.ki .i64 1) (.cons (.v 16) .nil))))))))), (.v 18), .nil])))))))
          (.ret [(.rc (.cons (.v 9) (.cons (.v 10) (.cons (.v 11) (.cons (.v 12) (.cons (.v 13) (.cons (.ki .i64 0) (.cons (.ki .i64 0) (.cons (.v 16) .nil))))))))), (.v 17), .nil])))))
      (.ev [(.ob (.cmp .lss (.ki .i64 0) (.len (.v 4))))]
       (.cal 19 [(.c (.lst shM))] [(.cons (cpM (.get (.v 4) (.ki .i64 0))) .nil)] [(.r shM)] 17
        (.ite (.cmp .gtr (.len (.v 3)) (.ki .i64 0))
         (.ev [(.ob (.cmp .lss (.ki .i64 0) (.len (.v 3))))]
          (.cal 19 [(.c (.lst shM))] [(.cons (cpM (.get (.v 3) (.ki .i64 0))) .nil)] [(.r shM)] 18
           (.ev [(.ob (.cmp .lss (.ki .i64 0) (.len (.v 3))))]
            (.cal 19 [(.c (.lst shM))] [(.cons (cpM (.get (.v 3) (.ki .i64 0))) .nil)] [(.r shM)] 19
             (.ev [(.ob (.cmp .leq (.ki .i64 1) (.len (.v 3))))]
              (.cal 19 [(.c (.lst shM))] [(.sub (.v 3) (.ki .i64 1) (.len (.v 3)))] [(.r shM)] 20
               (.ret [(.rc (.cons (.v 9) (.cons (.v 10) (.cons (.v 11) (.cons (.v 20) (.cons (.v 19) (.cons (.ar .add .i64 (.v 8) (.v 1)) (.cons (.ki .i64 1) (.cons (.v 16) .nil))))))))), (.v 18), (.v 17)])))))))
         (.ret [(.rc (.cons (.v 9) (.cons (.v 10) (.cons (.v 11) (.cons (.v 12) (.cons .nil (.cons (.ki .i64 0) (.cons (.ki .i64 0) (.cons (.v 16) .nil))))))))), .nil, (.v 17)])))))
     (.ite (.cmp .gtr (.len (.v 13)) (.ki .i64 0))
      (.ret [(.rc (.cons (.v 9) (.cons (.v 10) (.cons (.v 11) (.cons (.v 12) (.cons (.v 13) (.cons (.v 14) (.cons (.v 15) (.cons (.v 16) .nil))))))))), .nil, .nil])
      (.ite (.cmp .gtr (.len (.v 3)) (.ki .i64 0))
       (.ev [(.ob (.cmp .lss (.ki .i64 0) (.len (.v 3))))]
        (.cal 19 [(.c (.lst shM))] [(.cons (cpM (.get (.v 3) (.ki .i64 0))) .nil)] [(.r shM)] 17
         (.ev [(.ob (.cmp .lss (.ki .i64 0) (.len (.v 3))))]
          (.cal 19 [(.c (.lst shM))] [(.cons (cpM (.get (.v 3) (.ki .i64 0))) .nil)] [(.r shM)] 18
           (.ev [(.ob (.cmp .leq (.ki .i64 1) (.len (.v 3))))]
            (.cal 19 [(.c (.lst shM))] [(.sub (.v 3) (.ki .i64 1) (.len (.v 3)))] [(.r shM)] 19
             (.ret [(.rc (.cons (.v 9) (.cons (.v 10) (.cons (.v 11) (.cons (.v 19) (.cons (.v 18) (.cons (.ar .add .i64 (.v 8) (.v 1)) (.cons (.ki .i64 1) (.cons (.v 16) .nil))))))))), (.v 17), .nil])))))))
       (.ret [(.rc (.cons (.v 9) (.cons (.v 10) (.cons (.v 11) (.cons (.v 12) (.cons (.v 13) (.cons (.ki .i64 0) (.cons (.ki .i64 0) (.cons (.v 16) .nil))))))))), .nil, .nil]))))
    (.ite (.cmp .gtr (.len (.v 13)) (.ki .i64 0))
     (.ret [(.rc (.cons (.v 9) (.cons (.v 10) (.cons (.v 11) (.cons (.v 12) (.cons (.v 13) (.cons (.v 14) (.cons (.v 15) (.cons (.v 16) .nil))))))))), .nil, .nil])
     (.ite (.cmp .gtr (.len (.v 3)) (.ki .i64 0))
      (.ev [(.ob (.cmp .lss (.ki .i64 0) (.len (.v 3))))]
       (.cal 19 [(.c (.lst shM))] [(.cons (cpM (.get (.v 3) (.ki .i64 0))) .nil)] [(.r shM)] 17
        (.ev [(.ob (.cmp .lss (.ki .i64 0) (.len (.v 3))))]
         (.cal 19 [(.c (.lst shM))] [(.cons (cpM (.get (.v 3) (.ki .i64 0))) .nil)] [(.r shM)] 18
          (.ev [(.ob (.cmp .leq (.ki .i64 1) (.len (.v 3))))]
           (.cal 19 [(.c (.lst shM))] [(.sub (.v 3) (.ki .i64 1) (.len (.v 3)))] [(.r shM)] 19
            (.ret [(.rc (.cons (.v 9) (.cons (.v 10) (.cons (.v 11) (.cons (.v 19) (.cons (.v 18) (.cons (.ar .add .i64 (.v 8) (.v 1)) (.cons (.ki .i64 1) (.cons (.v 16) .nil))))))))), (.v 17), .nil])))))))
      (.ret [(.rc (.cons (.v 9) (.cons (.v 10) (.cons (.v 11) (.cons (.v 12) (.cons (.v 13) (.cons (.ki .i64 0) (.cons (.ki .i64 0) (.cons (.v 16) .nil))))))))), .nil, .nil])))))))
theorem send_ent : EntOK Try.prog [] ⟨7, [(.g [(.int .i64), (.int .i64), (.int .i64), (.lst shM), (.lst shM), (.int .i64), (.int .i64), (.lst shM)]), (.c (.int .i64))], [(.g [(.int .i64), (.int .i64), (.int .i64), (.lst shM), (.lst shM), (.int .i64), (.int .i64), (.lst shM)]), (.c (.lst shM)), (.c (.lst shM))], vcsend⟩ :=
  ent_of_gen hP Try.func7 rfl (by decide) (sg := sgs) (by kernel_rfl)
def vcrecv : VC := (.cal 26 [(.g shM)] [(.rc (.cons (.v 8) (.cons (.v 9) (.cons (.v 10) (.cons (.v 11) (.cons (.v 12) (.cons (.v 13) (.cons (.v 14) (.cons (.v 15) (.cons (.v 16) (.cons (.v 17) (.cons (.v 18) (.cons (.v 19) (.cons (.v 20) (.cons (.v 21) (.cons (.v 22) (.cons (.v 23) (.cons (.v 24) (.cons (.v 25) (.cons (.v 26) (.cons (.v 27) (.cons (.v 28) (.cons (.v 29) (.cons (.v 30) (.cons (.v 31) (.cons (.v 32) .nil))))))))))))))))))))))))))] [(.c .bool)] 33
 (.ite (.v 33)
  (.ite (.cmp .eql (.len (.v 4)) (.ki .i64 0))
   (.ret [(.rc (.cons (.v 0) (.cons (.v 1) (.cons (.v 2) (.cons (.v 3) (.cons (.v 4) (.cons (.v 5) (.cons (.v 6) (.cons (.v 7) .nil))))))))), .nil, .nil, .nil])
   (.ev [(.ob (.cmp .lss (.ki .i64 0) (.len (.v 4))))]
    (.ite (.cmp .neq (.v 9) (.cell (.get (.v 4) (.ki .i64 0)) 1))
     (.ret [(.rc (.cons (.v 0) (.cons (.v 1) (.cons (.v 2) (.cons (.v 3) (.cons (.v 4) (.cons (.v 5) (.cons (.v 6) (.cons (.v 7) .nil))))))))), .nil, .nil, .nil])
     (.ev [(.ob (.cmp .lss (.ki .i64 0) (.len (.v 4))))]
      (.ite (.cmp .neq (.v 10) (.cell (.get (.v 4) (.ki .i64 0)) 2))
       (.ret [(.rc (.cons (.v 0) (.cons (.v 1) (.cons (.v 2) (.cons (.v 3) (.cons (.v 4) (.cons (.v 5) (.cons (.v 6) (.cons (.v 7) .nil))))))))), .nil, .nil, .nil])
       (.cal 18 [(.g [(.int .i64), (.int .i64), (.int .i64), (.lst shM), (.lst shM), (.int .i64), (.int .i64), (.lst shM)])] [(.rc (.cons (.v 0) (.cons (.v 1) (.cons (.v 2) (.cons (.v 3) (.cons (.v 4) (.cons (.v 5) (.cons (.v 6) (.cons (.v 7) .nil)))))))))] [(.h [(.s (.int .i64)), (.s (.int .i64)), (.s (.int .i64)), (.r shM), (.r shM), (.s (.int .i64)), (.s (.int .i64)), (.r shM)])] 34
        (.ev [(.ob (.cmp .lss (.ki .i64 0) (.len (.v 4))))]
         (.cal 19 [(.c (.lst shM))] [(.cons (cpM (.get (.v 4) (.ki .i64 0))) (.cons (.rc (.cons (.v 8) (.cons (.v 9) (.cons (.v 10) (.cons (.v 11) (.cons (.v 12) (.cons (.v 13) (.cons (.v 14) (.cons (.v 15) (.cons (.v 16) (.cons (.v 17) (.cons (.v 18) (.cons (.v 19) (.cons (.v 20) (.cons (.v 21) (.cons (.v 22) (.cons (.v 23) (.cons (.v 24) (.cons (.v 25) (.cons (.v 26) (.cons (.v 27) (.cons (.v 28) (.cons (.v 29) (.cons (.v 30) (.cons (.v 31) (.cons (.v 32) .nil)))))))))))))))))))))))))) .nil))] [(.r shM)] 42
          (.ret [(.rc (.cons (.v 34) (.cons (.v 35) (.cons (.v 36) (.cons (.v 37) (.cons .nil (.cons (.ki .i64 0) (.cons (.ki .i64 0) (.cons (.v 41) .nil))))))))), (.v 42), .nil, .nil])))))))))
  (.ite (.cmp .neq (.v 8) (.ki .i64 1))
   (.ret [(.rc (.cons (.v 0) (.cons (.v 1) (.cons (.v 2) (.cons (.v 3) (.cons (.v 4) (.cons (.v 5) (.cons (.v 6) (.cons (.v 7) .nil))))))))), .nil, .nil, .nil])
   (.loop [(.lst shM), (.lst shM), (.lst shM), (.int .i64)] [.nil, .nil, .nil, (.ki .i64 0)]
    (.ite (.cmp .lss (.v 37) (.len (.v 7)))
     (.ev [(.ob (.cmp .geq (.v 37) (.ki .i64 0))), (.ob (.cmp .lss (.v 37) (.len (.v 7))))]
      (.ite (.cmp .eql (.cell (.get (.v 7) (.v 37)) 1) (.v 9))
       (.cal 19 [(.c (.lst shM))] [(.cons (cpM (.get (.v 7) (.v 37))) .nil)] [(.r shM)] 38
        (.ret [(.rc (.cons (.v 0) (.cons (.v 1) (.cons (.v 2) (.cons (.v 3) (.cons (.v 4) (.cons (.v 5) (.cons (.v 6) (.cons (.v 7) .nil))))))))), .nil, .nil, (.v 38)]))
       (.back 0 [(.v 34), (.v 35), (.v 36), (.ar .add .i64 (.v 37) (.ki .i64 1))])))
     (.cal 27 [(.g shM), (.c (.lst shM))] [(.rc (.cons (.v 8) (.cons (.v 9) (.cons (.v 10) (.cons (.v 11) (.cons (.v 12) (.cons (.v 13) (.cons (.v 14) (.cons (.v 15) (.cons (.v 16) (.cons (.v 17) (.cons (.v 18) (.cons (.v 19) (.cons (.v 20) (.cons (.v 21) (.cons (.v 22) (.cons (.v 23) (.cons (.v 24) (.cons (.v 25) (.cons (.v 26) (.cons (.v 27) (.cons (.v 28) (.cons (.v 29) (.cons (.v 30) (.cons (.v 31) (.cons (.v 32) .nil)))))))))))))))))))))))))), (.v 7)] [(.c .bool)] 38
      (.ite (.v 38)
       (.cal 19 [(.c (.lst shM))] [(.cons (.rc (.cons (.v 8) (.cons (.v 9) (.cons (.v 10) (.cons (.v 11) (.cons (.v 12) (.cons (.v 13) (.cons (.v 14) (.cons (.v 15) (.cons (.v 16) (.cons (.v 17) (.cons (.v 18) (.cons (.v 19) (.cons (.v 20) (.cons (.v 21) (.cons (.v 22) (.cons (.v 23) (.cons (.v 24) (.cons (.v 25) (.cons (.v 26) (.cons (.v 27) (.cons (.v 28) (.cons (.v 29) (.cons (.v 30) (.cons (.v 31) (.cons (.v 32) .nil)))))))))))))))))))))))))) .nil)] [(.r shM)] 39
        (.ret [(.rc (.cons (.v 0) (.cons (.v 1) (.cons (.v 2) (.cons (.v 3) (.cons (.v 4) (.cons (.v 5) (.cons (.v 6) (.cons (.v 7) .nil))))))))), .nil, (.v 39), .nil]))
       (.ret [(.rc (.cons (.v 0) (.cons (.v 1) (.cons (.v 2) (.cons (.v 3) (.cons (.v 4) (.cons (.v 5) (.cons (.v 6) (.cons (.v 7) .nil))))))))), .nil, .nil, .nil]))))))))
def hdrecv : List HdL := [{ kind := true, id := 10, nv := 34, tmps := [(.v (.g [(.d (.int .i64) (.v 0)), (.d (.int .i64) (.v 1)), (.d (.int .i64) (.v 2)), (.d (.lst shM) (.v 3)), (.d (.lst shM) (.v 4)), (.d (.int .i64) (.v 5)), (.d (.int .i64) (.v 6)), (.d (.lst shM) (.v 7))])), (.v (.g [(.d (.int .i64) (.v 8)), (.d (.int .i64) (.v 9)), (.d (.int .i64) (.v 10)), (.d (.int .i64) (.v 11)), (.d (.int .i64) (.v 12)), (.d (.int .i64) (.v 13)), (.d (.int .i64) (.v 14)), (.d (.int .i64) (.v 15)), (.d .str (.v 16)), (.d .str (.v 17)), (.d .str (.v 18)), (.d .bool (.v 19)), (.d (.lst [(.int .i64), (.int .i64)]) (.v 20)), (.d (.int .i64) (.v 21)), (.d (.int .i64) (.v 22)), (.d (.int .i64) (.v 23)), (.d (.int .i64) (.v 24)), (.d (.int .i64) (.v 25)), (.d .str (.v 26)), (.d (.int .i64) (.v 27)), (.d (.int .i64) (.v 28)), (.d (.int .i64) (.v 29)), (.d (.int .i64) (.v 30)), (.d (.lst [(.int .i64), (.int .i64)]) (.v 31)), (.d (.lst [.str, .str, .str, (.int .i64), (.int .i64), (.int .i64)]) (.v 32))])), (.v (.c (.ptr 0 0))), (.v (.c (.ptr 1 0))), (.v (.c (.ptr 2 0))), (.v (.c (.d (.lst shM) (.v 34)))), (.v (.c (.d (.lst shM) (.v 35)))), (.v (.c (.d (.lst shM) (.v 36)))), (.v (.c .any)), (.v (.c .any)), (.v (.c .any)), (.v (.g [(.d (.int .i64) (.v 8)), (.d (.int .i64) (.v 9)), (.d (.int .i64) (.v 10)), (.d (.int .i64) (.v 11)), (.d (.int .i64) (.v 12)), (.d (.int .i64) (.v 13)), (.d (.int .i64) (.v 14)), (.d (.int .i64) (.v 15)), (.d .str (.v 16)), (.d .str (.v 17)), (.d .str (.v 18)), (.d .bool (.v 19)), (.d (.lst [(.int .i64), (.int .i64)]) (.v 20)), (.d (.int .i64) (.v 21)), (.d (.int .i64) (.v 22)), (.d (.int .i64) (.v 23)), (.d (.int .i64) (.v 24)), (.d (.int .i64) (.v 25)), (.d .str (.v 26)), (.d (.int .i64) (.v 27)), (.d (.int .i64) (.v 28)), (.d (.int .i64) (.v 29)), (.d (.int .i64) (.v 30)), (.d (.lst [(.int .i64), (.int .i64)]) (.v 31)), (.d (.lst [.str, .str, .str, (.int .i64), (.int .i64), (.int .i64)]) (.v 32))])), (.v (.c (.d .bool (.v 33)))) ] ++ an 38 ++ [(.v (.c (.ptr 1 0))), (.v (.c (.d (.int .i64) (.v 8)))), (.v (.c (.d .bool (.cmp .neq (.v 8) (.ki .i64 1))))), (.v (.c .any)), (.v (.c (.ptr 0 7))), (.v (.c (.d (.lst shM) (.v 7)))), (.v (.c (.d (.int .i64) (.len (.v 7))))), (.v (.c (.d (.int .i64) (.v 37)))) ] ++ an 22, blks := [(.cells [(.d (.int .i64) (.v 0)), (.d (.int .i64) (.v 1)), (.d (.int .i64) (.v 2)), (.d (.lst shM) (.v 3)), (.d (.lst shM) (.v 4)), (.d (.int .i64) (.v 5)), (.d (.int .i64) (.v 6)), (.d (.lst shM) (.v 7))]), (.cells [(.d (.int .i64) (.v 8)), (.d (.int .i64) (.v 9)), (.d (.int .i64) (.v 10)), (.d (.int .i64) (.v 11)), (.d (.int .i64) (.v 12)), (.d (.int .i64) (.v 13)), (.d (.int .i64) (.v 14)), (.d (.int .i64) (.v 15)), (.d .str (.v 16)), (.d .str (.v 17)), (.d .str (.v 18)), (.d .bool (.v 19)), (.d (.lst [(.int .i64), (.int .i64)]) (.v 20)), (.d (.int .i64) (.v 21)), (.d (.int .i64) (.v 22)), (.d (.int .i64) (.v 23)), (.d (.int .i64) (.v 24)), (.d (.int .i64) (.v 25)), (.d .str (.v 26)), (.d (.int .i64) (.v 27)), (.d (.int .i64) (.v 28)), (.d (.int .i64) (.v 29)), (.d (.int .i64) (.v 30)), (.d (.lst [(.int .i64), (.int .i64)]) (.v 31)), (.d (.lst [.str, .str, .str, (.int .i64), (.int .i64), (.int .i64)]) (.v 32))]), (.cells [(.d (.int .i64) (.ki .i64 0)), (.d (.int .i64) (.ki .i64 0)), (.d (.int .i64) (.ki .i64 0)), (.nilS shM), (.nilS shM), (.d (.int .i64) (.ki .i64 0)), (.d (.int .i64) (.ki .i64 0)), (.nilS shM)])], shs := [(.lst shM), (.lst shM), (.lst shM), (.int .i64)], rs := [], bs := [], fz := [] }]
theorem recv_ent : EntOK Try.prog [] ⟨11, [(.g [(.int .i64), (.int .i64), (.int .i64), (.lst shM), (.lst shM), (.int .i64), (.int .i64), (.lst shM)]), (.g shM)], [(.g [(.int .i64), (.int .i64), (.int .i64), (.lst shM), (.lst shM), (.int .i64), (.int .i64), (.lst shM)]), (.c (.lst shM)), (.c (.lst shM)), (.c (.lst shM))], vcrecv⟩ :=
  ent_of_genH hP Try.func11 rfl (by decide) (jn := []) (hd := hdrecv) (sg := sgs) (by kernel_rfl)
def vcans : VC := (.cal 17 [(.g shM)] [(.rc (.cons (.v 8) (.cons (.v 9) (.cons (.v 10) (.cons (.v 11) (.cons (.v 12) (.cons (.v 13) (.cons (.v 14) (.cons (.v 15) (.cons (.v 16) (.cons (.v 17) (.cons (.v 18) (.cons (.v 19) (.cons (.v 20) (.cons (.v 21) (.cons (.v 22) (.cons (.v 23) (.cons (.v 24) (.cons (.v 25) (.cons (.v 26) (.cons (.v 27) (.cons (.v 28) (.cons (.v 29) (.cons (.v 30) (.cons (.v 31) (.cons (.v 32) .nil))))))))))))))))))))))))))] [(.c (.int .i64))] 33
 (.ite (.cmp .neq (.v 33) (.ki .i64 0))
  (.ret [(.rc (.cons (.v 0) (.cons (.v 1) (.cons (.v 2) (.cons (.v 3) (.cons (.v 4) (.cons (.v 5) (.cons (.v 6) (.cons (.v 7) .nil))))))))), (.v 33)])
  (.cal 26 [(.g shM)] [(.rc (.cons (.v 8) (.cons (.v 9) (.cons (.v 10) (.cons (.v 11) (.cons (.v 12) (.cons (.v 13) (.cons (.v 14) (.cons (.v 15) (.cons (.v 16) (.cons (.v 17) (.cons (.v 18) (.cons (.v 19) (.cons (.v 20) (.cons (.v 21) (.cons (.v 22) (.cons (.v 23) (.cons (.v 24) (.cons (.v 25) (.cons (.v 26) (.cons (.v 27) (.cons (.v 28) (.cons (.v 29) (.cons (.v 30) (.cons (.v 31) (.cons (.v 32) .nil))))))))))))))))))))))))))] [(.c .bool)] 34
   (.ite (.v 34)
    (.cal 27 [(.g shM), (.c (.lst shM))] [(.rc (.cons (.v 8) (.cons (.v 9) (.cons (.v 10) (.cons (.v 11) (.cons (.v 12) (.cons (.v 13) (.cons (.v 14) (.cons (.v 15) (.cons (.v 16) (.cons (.v 17) (.cons (.v 18) (.cons (.v 19) (.cons (.v 20) (.cons (.v 21) (.cons (.v 22) (.cons (.v 23) (.cons (.v 24) (.cons (.v 25) (.cons (.v 26) (.cons (.v 27) (.cons (.v 28) (.cons (.v 29) (.cons (.v 30) (.cons (.v 31) (.cons (.v 32) .nil)))))))))))))))))))))))))), (.v 7)] [(.c .bool)] 35
     (.ite (.v 35)
      (.cal 18 [(.g [(.int .i64), (.int .i64), (.int .i64), (.lst shM), (.lst shM), (.int .i64), (.int .i64), (.lst shM)])] [(.rc (.cons (.v 0) (.cons (.v 1) (.cons (.v 2) (.cons (.v 3) (.cons (.v 4) (.cons (.v 5) (.cons (.v 6) (.cons (.v 7) .nil)))))))))] [(.h [(.s (.int .i64)), (.s (.int .i64)), (.s (.int .i64)), (.r shM), (.r shM), (.s (.int .i64)), (.s (.int .i64)), (.r shM)])] 36
       (.cal 19 [(.c (.lst shM))] [(.cons (.rc (.cons (.v 8) (.cons (.v 9) (.cons (.v 10) (.cons (.v 11) (.cons (.v 12) (.cons (.v 13) (.cons (.v 14) (.cons (.v 15) (.cons (.v 16) (.cons (.v 17) (.cons (.v 18) (.cons (.v 19) (.cons (.v 20) (.cons (.v 21) (.cons (.v 22) (.cons (.v 23) (.cons (.v 24) (.cons (.v 25) (.cons (.v 26) (.cons (.v 27) (.cons (.v 28) (.cons (.v 29) (.cons (.v 30) (.cons (.v 31) (.cons (.v 32) .nil)))))))))))))))))))))))))) .nil)] [(.r shM)] 44
        (.ev [(.ob (.cmp .leq (.len (.app (.v 43) (.v 44))) (.ki .i64 4294967296)))]
         (.ite (.cmp .gtr (.len (.app (.v 43) (.v 44))) (.ki .i64 16))
          (.ev [(.ob (.cmp .leq (.ki .i64 1) (.len (.app (.v 43) (.v 44)))))]
           (.cal 19 [(.c (.lst shM))] [(.sub (.app (.v 43) (.v 44)) (.ki .i64 1) (.len (.app (.v 43) (.v 44))))] [(.r shM)] 45
            (.ret [(.rc (.cons (.v 36) (.cons (.v 37) (.cons (.v 38) (.cons (.v 39) (.cons (.v 40) (.cons (.v 41) (.cons (.v 42) (.cons (.v 45) .nil))))))))), (.ki .i64 0)])))
          (.ret [(.rc (.cons (.v 36) (.cons (.v 37) (.cons (.v 38) (.cons (.v 39) (.cons (.v 40) (.cons (.v 41) (.cons (.v 42) (.cons (.app (.v 43) (.v 44)) .nil))))))))), (.ki .i64 0)])))))
      (.ret [(.rc (.cons (.v 0) (.cons (.v 1) (.cons (.v 2) (.cons (.v 3) (.cons (.v 4) (.cons (.v 5) (.cons (.v 6) (.cons (.v 7) .nil))))))))), (.ki .i64 10)])))
    (.ret [(.rc (.cons (.v 0) (.cons (.v 1) (.cons (.v 2) (.cons (.v 3) (.cons (.v 4) (.cons (.v 5) (.cons (.v 6) (.cons (.v 7) .nil))))))))), (.ki .i64 1)])))))
theorem ans_ent : EntOK Try.prog [] ⟨13, [(.g [(.int .i64), (.int .i64), (.int .i64), (.lst shM), (.lst shM), (.int .i64), (.int .i64), (.lst shM)]), (.g shM)], [(.g [(.int .i64), (.int .i64), (.int .i64), (.lst shM), (.lst shM), (.int .i64), (.int .i64), (.lst shM)]), (.c (.int .i64))], vcans⟩ :=
  ent_of_gen hP Try.func13 rfl (by decide) (sg := sgs) (by kernel_rfl)
end Go.Proofs.Ytindphofgojfbaa.C27
