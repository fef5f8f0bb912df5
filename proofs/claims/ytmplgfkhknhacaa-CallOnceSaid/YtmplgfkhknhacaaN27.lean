/-
  call.newer: whether the number of a message is greater than those of others. No conditions stand ahead of what is proved.
-/
import Derived.Test.YtmplgfkhknhacaaR26
import Derived.WalkKit
import Derived.OneCell
import Derived.Shelf.SlicesQ.IndexFunc
set_option maxRecDepth 100000
set_option linter.unusedSimpArgs false
set_option linter.unusedVariables false
namespace Go.Proofs.Ytmplgfkhknhacaa.N27
open Go.Proofs.Ytmplgfkhknhacaa Go.Proofs.Ytmplgfkhknhacaa.Sy Go.Proofs.Ytmplgfkhknhacaa.L7 Go.Proofs.Ytmplgfkhknhacaa.Id Go.Proofs.Ytmplgfkhknhacaa.R26 Go.RowKit Go.WideShapes Go.ChangeShapes Go.ChangeAt
theorem clos_calls (vs : List Value) (a b : Int) (hl : vs.length = 25) (h1 : vs[1]? = some (.int .i64 a)) (B : Nat) (w : World) (hB : w.cell? ⟨B, 1, none⟩ = some (.int .i64 b)) (hlt : B < w.heap.size) :
    Calls Try.prog 78 #[.agg vs.toArray, .pointer (some ⟨B, 0, none⟩)] w fun e w' => e = .returned (.bool (decide (b ≤ a))) ∧ Below w.heap.size w w' := by
  match vs, hl with
  | [x0, x1, x2, x3, x4, x5, x6, x7, x8, x9, x10, x11, x12, x13, x14, x15, x16, x17, x18, x19, x20, x21, x22, x23, x24], _ =>
    have h1' : x1 = .int .i64 a := by simpa using h1
    subst h1'
    have hne : B ≠ w.heap.size := by omega
    clear h1
    go_enter Try.func78, Try.ntmps78
    go_wp2
    all_goals (go_ret; exact ⟨by simp_all, (Below.refl _ w).alloc (Nat.le_refl _) _⟩)
def msgZ : Msg := ⟨0, 0, 0, 0, 0, 0, 0, 0, ⟨#[]⟩, ⟨#[]⟩, ⟨#[]⟩, false, [], prof0, []⟩
def newB (m : Int) (l : List Msg) : Bool := l.all fun o => decide (o.id < m)
/-- The library's two functions, as the kit's contract wants them. -/
def ren : Go.Shelf.Ren := ⟨fun | 6 => 106 | 8 => 77 | n => n, fun | 0 => 0 | 3 => 3 | 4 => 4 | 22 => 22 | 23 => 41 | 25 => 79 | n => n, fun n => n⟩
theorem lays : SlLaysH0.n8 Try.prog ren where
  mixed := by kernel_rfl
  f6 := ⟨Try.f106.name, by decide +kernel, Try.func106.trans (congrArg some (by kernel_rfl))⟩
  f8 := ⟨Try.f77.name, by decide +kernel, Try.func77.trans (congrArg some (by kernel_rfl))⟩
  t0 := Try.underlying0
  a0 := Try.isAgg0
  z0 := Try.sizeOf0
  v0 := Try.zeroValue0
  t3 := Try.underlying3
  a3 := Try.isAgg3
  z3 := Try.sizeOf3
  v3 := Try.zeroValue3
  t4 := Try.underlying4
  a4 := Try.isAgg4
  z4 := Try.sizeOf4
  v4 := Try.zeroValue4
  t22 := Try.underlying22
  a22 := Try.isAgg22
  z22 := Try.sizeOf22
  v22 := Try.zeroValue22
  t25 := Try.underlying79
  a25 := Try.isAgg79
  z25 := Try.sizeOf79
  v25 := Try.zeroValue79
theorem index0 (a : Option Addr) (c : Nat) (f : Value) (w : World) : Calls Try.prog 106 #[.slice a 0 c, f] w fun e w' => e = .returned (.int .i64 (-1)) ∧ w' = w := by
  go_enter Try.func106, Try.ntmps106
  go_wp2
  go_loopw [8] (fun p wr => p = .int .i64 0 ∧ wr = w) (fun _ _ => 0)
  case atStart => exact ⟨rfl, rfl⟩
  case round =>
    obtain ⟨rfl, rfl⟩ := hrel
    go_wp2
    go_ret
    exact ⟨rfl, rfl⟩
theorem contains0 (a : Option Addr) (c : Nat) (f : Value) (w : World) : Calls Try.prog 77 #[.slice a 0 c, f] w fun e w' => e = .returned (.bool false) ∧ w' = w := by
  go_enter Try.func77, Try.ntmps77
  go_wp2_with (go_at_call 106; refine (index0 _ _ _ _).mono ?_; rintro e w1 ⟨rfl, rfl⟩)
  all_goals (go_ret; exact ⟨rfl, rfl⟩)
/-- A message's cells. -/
abbrev CellsV : Type := { vs : List Value // vs.length = 25 ∧ ∃ a, vs[1]? = some (.int .i64 a) }
instance : Inhabited CellsV := ⟨⟨List.replicate 25 (.int .i64 0), by decide, 0, rfl⟩⟩
def idV (x : CellsV) : Int := match (x.1[1]? : Option Value) with | some (Value.int _ a) => a | _ => 0
theorem idV_eq {x : CellsV} {a : Int} (h : x.1[1]? = some (.int .i64 a)) : idV x = a := by unfold idV; rw [h]
theorem idV_at (x : CellsV) : x.1[1]? = some (.int .i64 (idV x)) := by
  obtain ⟨a, ha⟩ := x.2.2
  rw [idV_eq ha]
  exact ha
theorem pick {α : Type} [Inhabited α] {Q : Nat → α → Prop} : ∀ (n : Nat), (∀ i, i < n → ∃ x, Q i x) → ∃ zs : List α, zs.length = n ∧ ∀ i, i < n → Q i zs[i]!
  | 0, _ => ⟨[], rfl, fun i h => absurd h (Nat.not_lt_zero _)⟩
  | n + 1, h => by
    obtain ⟨zs, h1, h2⟩ := pick n fun i hi => h i (by omega)
    obtain ⟨x, hx⟩ := h n (by omega)
    refine ⟨zs ++ [x], by simp [h1], fun i hi => ?_⟩
    by_cases hin : i < n
    · have := h2 i hin
      simpa [List.getElem!_eq_getElem?_getD, List.getElem?_append_left (show i < zs.length by omega)] using this
    · have e : i = n := by omega
      subst e
      simpa [List.getElem!_eq_getElem?_getD, h1] using hx
theorem contains_calls (zs : List CellsV) (m : Int) (b off cap B : Nat) (w : World) (hn : zs.length ≤ 9223372036854775807) (hB : w.cell? ⟨B, 1, none⟩ = some (.int .i64 m)) (hlt : B < w.heap.size) (hb : b < w.heap.size)
    (hc : ∀ j, j < zs.length → ∀ i v, (zs[j]!).1[i]? = some v → w.cell? ⟨b, off + j * 25 + i, none⟩ = some v) :
    Calls Try.prog 77 #[.slice (some ⟨b, off, none⟩) zs.length cap, .func (.func 78) #[] #[.pointer (some ⟨B, 0, none⟩)]] w fun e w' => e = .returned (.bool (zs.any fun x => decide (m ≤ idV x))) ∧ Below w.heap.size w w' := by
  have eg : ∀ args w, (callFunc 78 args).run Try.prog w = .ok (.enter 78 args) w := enters_of Try.func78 (by kernel_rfl) rfl
  have hcon := AnyQ.slices_ContainsFunc lays 25 Try.isAgg41 Try.sizeOf41 (fun x : CellsV => x.1) (fun x => x.2.1) (fun x => decide (m ≤ idV x)) 78 #[.pointer (some ⟨B, 0, none⟩)] eg b off zs.length cap zs w
    (fun W x hbw => by
      have h := clos_calls x.1 (idV x) m x.2.1 (idV_at x) B W ((hbw.cell (p := ⟨B, 1, none⟩) hlt).trans hB) (Nat.lt_of_lt_of_le hlt hbw.size)
      refine h.mono ?_
      rintro e w1 ⟨rfl, h1⟩
      exact ⟨rfl, hbw.trans (h1.mono hbw.size)⟩) (Nat.le_refl _) hn hb hc
  rw [List.take_length] at hcon
  exact hcon
theorem newer_calls (vs : List Value) (m : Int) (hl : vs.length = 25) (h1 : vs[1]? = some (.int .i64 m)) (zs : List CellsV) (b off cap : Nat) (w : World) (hn : zs.length ≤ 9223372036854775807) (hb : b < w.heap.size)
    (hc : ∀ j, j < zs.length → ∀ i v, (zs[j]!).1[i]? = some v → w.cell? ⟨b, off + j * 25 + i, none⟩ = some v) :
    Calls Try.prog 47 #[.agg vs.toArray, .slice (some ⟨b, off, none⟩) zs.length cap] w fun e w' => e = .returned (.bool (!(zs.any fun x => decide (m ≤ idV x)))) ∧ Below w.heap.size w w' := by
  match vs, hl with
  | [x0, x1, x2, x3, x4, x5, x6, x7, x8, x9, x10, x11, x12, x13, x14, x15, x16, x17, x18, x19, x20, x21, x22, x23, x24], _ =>
    have h1' : x1 = .int .i64 m := by simpa using h1
    subst h1'
    clear h1
    have hcc := fun (w1 : World) h2 h3 h4 h5 => contains_calls zs m b off cap w.heap.size w1 hn h2 h3 h4 h5
    generalize (zs.any fun x => decide (m ≤ idV x)) = r at hcc
    generalize hL : zs.length = L at *
    go_enter Try.func47, Try.ntmps47
    go_wp2_with (go_at_call 77; refine (hcc _ (by simp) (by simp) (by simp; omega) (fun j hj i v hv => Lib.cell?_alloc_some _ (hc j hj i v hv))).mono ?_; rintro e w1 ⟨rfl, hw1⟩)
    go_ret
    exact ⟨rfl, ((Below.refl _ w).alloc (Nat.le_refl _) _).trans (hw1.mono (by simp))⟩
theorem newer0 (vs : List Value) (m : Int) (hl : vs.length = 25) (h1 : vs[1]? = some (.int .i64 m)) (a : Option Addr) (c : Nat) (w : World) :
    Calls Try.prog 47 #[.agg vs.toArray, .slice a 0 c] w fun e w' => e = .returned (.bool true) ∧ Below w.heap.size w w' := by
  match vs, hl with
  | [x0, x1, x2, x3, x4, x5, x6, x7, x8, x9, x10, x11, x12, x13, x14, x15, x16, x17, x18, x19, x20, x21, x22, x23, x24], _ =>
    have h1' : x1 = .int .i64 m := by simpa using h1
    subst h1'
    clear h1
    go_enter Try.func47, Try.ntmps47
    go_wp2_with (go_at_call 77; refine (contains0 _ _ _ _).mono ?_; rintro e w1 ⟨rfl, rfl⟩)
    go_ret
    exact ⟨rfl, (Below.refl _ w).alloc (Nat.le_refl _) _⟩
abbrev tMs : TS := .c (.lst [.int .i64, .int .i64, .int .i64, .int .i64, .int .i64, .int .i64, .int .i64, .int .i64, .str, .str, .str, .bool, .lst [.int .i64, .int .i64], .int .i64, .int .i64, .int .i64, .int .i64, .int .i64, .str, .int .i64, .int .i64, .int .i64, .int .i64, .lst [.int .i64, .int .i64], .lst [.str, .str, .str, .int .i64, .int .i64, .int .i64]])
abbrev msgsD (l : List Msg) : D := .lst (l.map msD)
theorem newer_fn (m : Msg) (l : List Msg) : Fun Try.prog [] 47 [tM, tMs] [msD m, msgsD l] [tB] (.ok [.bool (newB m.id l)]) := by
  intro w M vs ps hM hG hA hI
  obtain ⟨hps, _⟩ := hA.plain rfl
  subst hps
  obtain ⟨v1, v2, rfl, ha, hb⟩ : ∃ v1 v2, vs = [v1, v2] ∧ RepT M tM v1 (msD m) ∧ Rep M (.lst [.int .i64, .int .i64, .int .i64, .int .i64, .int .i64, .int .i64, .int .i64, .int .i64, .str, .str, .str, .bool, .lst [.int .i64, .int .i64], .int .i64, .int .i64, .int .i64, .int .i64, .int .i64, .str, .int .i64, .int .i64, .int .i64, .int .i64, .lst [.int .i64, .int .i64], .lst [.str, .str, .str, .int .i64, .int .i64, .int .i64]]) v2 (msgsD l) := by
    generalize hq : ([] : List (Nat × Nat)) = q at hA
    cases hA with
    | cons ha hA => cases hA with
      | cons hb hA => cases hA; exact ⟨_, _, rfl, ha.1, hb.1⟩
  obtain ⟨ws, ds, rfl, e, hwl, hws⟩ := ha
  cases e
  have hwl : ws.length = 25 := hwl
  have h1 : ws[1]? = some (.int .i64 m.id) := by
    rw [RepCells_cons] at hws
    obtain ⟨d, ds', e, _, hws⟩ := hws
    cases e
    rw [RepCells_cons] at hws
    obtain ⟨d, ds', e, ⟨v, hv, hr⟩, _⟩ := hws
    cases e
    rw [Rep_int] at hr
    obtain ⟨n, rfl, e, _⟩ := hr
    cases e
    exact hv
  have fin : ∀ {e : Ending} {w' : World}, e = .returned (.bool (newB m.id l)) → Below w.heap.size w w' → FunPost M w (ownS []) [tM, tMs] [.agg ws.toArray, v2] [tB] (.ok [.bool (newB m.id l)]) e w' := by
    rintro e w' rfl hbl
    refine fun_grown (fun b o v hv => ?_) ⟨hbl.os, hbl.tape, hbl.output, hbl.size, fun k hk _ => hbl.block k hk⟩ rfl ⟨_, rfl, ?_, rfl⟩
    · have hcell := (hM b o v hv).1
      exact ⟨(hbl.cell (p := ⟨b, o, none⟩) (lt_of_cell hcell)).trans hcell, (hM b o v hv).2⟩
    · rw [Rep_bool]
      exact ⟨_, rfl, rfl⟩
  rw [Rep_lst] at hb
  obtain ⟨L, e, hLl, hc⟩ := hb
  cases e
  rw [List.length_map] at hLl hc
  have hml : maxLen ≤ 9223372036854775807 := by decide
  have hempty : ∀ (a : Option Addr) (c : Nat), l = [] → Calls Try.prog 47 #[.agg ws.toArray, .slice a 0 c] w fun e w' => FunPost M w (ownS []) [tM, tMs] [.agg ws.toArray, v2] [tB] (.ok [.bool (newB m.id l)]) e w' := fun a c hl => by
    refine (newer0 ws m.id hwl h1 a c w).mono ?_
    rintro e w' ⟨rfl, hb⟩
    exact fin (by subst hl; rfl) hb
  rcases hc with ⟨rfl, hnil⟩ | ⟨b, off, sp, cap, rfl, hsp, hcap, hcm, hcells⟩
  · exact hempty _ _ (by simpa using hnil)
  by_cases hl0 : l = []
  · have h := hempty (some ⟨b, off, sp⟩) cap hl0
    rw [show l.length = 0 by rw [hl0]; rfl]
    exact h
  have hlp : 0 < l.length := List.length_pos_iff.2 hl0
  have hspn : sp = none := hsp (by omega)
  subst hspn
  obtain ⟨zs, hzl, hz⟩ := pick (α := CellsV) (Q := fun i x => idV x = (l.getD i msgZ).id ∧ ∀ k v, x.1[k]? = some v → M b (off + i * 25 + k) = some v) l.length (fun i hi => by
    have hr := hcells i (msD (l.getD i msgZ)) (by rw [List.getElem?_map, List.getD_eq_getElem?_getD, List.getElem?_eq_getElem hi]; rfl)
    obtain ⟨us, u1, u2, u3⟩ := RepCells.list hr 0 25 (by decide)
    have hu1 : us[1]? = some (.int .i64 (l.getD i msgZ).id) := by
      obtain ⟨v, hv⟩ : ∃ v, us[1]? = some v := ⟨us[1]'(by omega), List.getElem?_eq_getElem (by omega)⟩
      obtain ⟨d, hd, hrp⟩ := u3 1 _ v rfl hv
      rw [Rep_int] at hrp
      obtain ⟨n, rfl, rfl, _⟩ := hrp
      rw [hv]
      cases hd
      rfl
    exact ⟨⟨us, u1, _, hu1⟩, idV_eq hu1, fun k v hk => by simpa [Nat.add_assoc] using u2 k v hk⟩)
  have hblt : b < w.heap.size := by
    obtain ⟨hx, hy⟩ := hz 0 hlp
    obtain ⟨a, ha⟩ := (zs[0]!).2.2
    exact lt_of_cell (hM _ _ _ (hy 1 _ ha)).1
  have hcl := newer_calls ws m.id hwl h1 zs b off cap w (by omega) hblt (fun j hj i v hv => (hM _ _ _ ((hz j (by omega)).2 i v hv)).1)
  rw [hzl] at hcl
  refine hcl.mono ?_
  rintro e w' ⟨rfl, hb⟩
  refine fin ?_ hb
  have : (zs.any fun x => decide (m.id ≤ idV x)) = !(newB m.id l) := by
    rw [Bool.eq_iff_iff]
    unfold newB
    simp only [List.any_eq_true, decide_eq_true_eq, Bool.not_eq_true', List.all_eq_false]
    constructor
    · rintro ⟨x, hx, hxm⟩
      obtain ⟨j, hj, rfl⟩ := List.getElem_of_mem hx
      have := (hz j (by omega)).1
      rw [List.getElem!_eq_getElem?_getD, List.getElem?_eq_getElem hj, Option.getD_some] at this
      refine ⟨l.getD j msgZ, ?_, by omega⟩
      rw [List.getD_eq_getElem?_getD, List.getElem?_eq_getElem (by omega), Option.getD_some]
      exact List.getElem_mem _
    · rintro ⟨o, ho, hom⟩
      obtain ⟨j, hj, rfl⟩ := List.getElem_of_mem ho
      have := (hz j hj).1
      rw [List.getElem!_eq_getElem?_getD, List.getElem?_eq_getElem (by omega), Option.getD_some, List.getD_eq_getElem?_getD, List.getElem?_eq_getElem hj, Option.getD_some] at this
      exact ⟨zs[j]'(by omega), List.getElem_mem _, by omega⟩
  rw [this, Bool.not_not]

end Go.Proofs.Ytmplgfkhknhacaa.N27
