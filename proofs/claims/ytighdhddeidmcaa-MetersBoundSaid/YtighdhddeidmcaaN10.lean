/-
  usage.neighbours: the iterator over neighbouring readings. No conditions stand ahead of what is proved.
-/
import Derived.RangeFuncBox
import Derived.RangeFuncLeaves
import Derived.Shelf.Abstract
import Derived.WalkKit
import Derived.OwnWalkIn
import Derived.TacticsInMore
import Derived.LoopNIn
import Derived.LoopIn
import Derived.IntWalk
import Derived.Shelf.RegionOpen
import Derived.RangeFuncCalls
import Derived.Test.YtighdhddeidmcaaSyRk
import Derived.Test.YtighdhddeidmcaaProg
set_option maxRecDepth 100000
set_option linter.unusedSimpArgs false
set_option linter.unusedVariables false
namespace Go.Proofs.Ytighdhddeidmcaa.N10
open Go.Proofs.Ytighdhddeidmcaa Go.Proofs.Ytighdhddeidmcaa.Sy Go.RowKit Go.Shelf
attribute [local go_sem] Oper.semAt_some

/-- what stands at index j: two integers -/
abbrev rdV (l : List (Int × Int)) (j : Nat) : Value := .agg #[.int .i64 (l.getD j (0, 0)).1, .int .i64 (l.getD j (0, 0)).2]
abbrev encN (l : List (Int × Int)) (j : Nat) : Array Value := #[rdV l j, rdV l (j + 1)]
theorem range_snoc (k : Nat) : List.range (k + 1) = List.range k ++ [k] := List.range_succ
set_option maxHeartbeats 4000000 in
theorem nb1_in (n : Nat) (l Bs b off cap : Nat) (zs : List (Int × Int)) (hreach : zs.length * 16 ≤ 140737488351232) (Mx : Nat → Nat → Option Value) (J Jx : List Nat → World → Prop)
    (hY : ∀ pre x W, J pre W → pre.length < zs.length - 1 → x < zs.length - 1 → YieldAt Fence.wide (n - 1) Try.prog l (encN zs x) W fun e W' =>
      (e = .returned (.bool true) ∧ J (pre ++ [x]) W' ∧ KpM Mx W W') ∨ (e = .returned (.bool false) ∧ Jx (pre ++ [x]) W'))
    (W : World) (hBx : Mx Bs 0 = some (.slice (some ⟨b, off, none⟩) zs.length cap)) (hBs : W.cell? ⟨Bs, 0, none⟩ = some (.slice (some ⟨b, off, none⟩) zs.length cap))
    (hm0 : ∀ j, j < zs.length → Mx b (off + j * 2) = some (.int .i64 (zs.getD j (0, 0)).1)) (hm1 : ∀ j, j < zs.length → Mx b (off + j * 2 + 1) = some (.int .i64 (zs.getD j (0, 0)).2))
    (hc0 : ∀ j, j < zs.length → W.cell? ⟨b, off + j * 2, none⟩ = some (.int .i64 (zs.getD j (0, 0)).1)) (hc1 : ∀ j, j < zs.length → W.cell? ⟨b, off + j * 2 + 1, none⟩ = some (.int .i64 (zs.getD j (0, 0)).2)) (h0 : J [] W) (hJd : ∀ pre W, J pre W → J pre W.drew) :
    CallsIn Fence.wide n Try.prog 15 #[.func (.yield l) #[] #[], .pointer (some ⟨Bs, 0, none⟩)] W fun e W' => (∃ v, e = .returned v) ∧
      ((∃ ys, ys = List.range (zs.length - 1) ∧ J ys W') ∨ (∃ pre, (∃ k, k ≤ zs.length - 1 ∧ pre = List.range k) ∧ Jx pre W')) := by
  have hro : Fence.wide.round = none := rfl
  have hfn : ∀ f, Fence.wide.fn f := fun _ => trivial
  refine callsIn_of_wp Try.func15 rfl trivial ?_ hro
  simp only [Try.ntmps15, List.size_toArray, List.length_cons, List.length_nil, Nat.reduceAdd, Nat.reduceSub, Array.replicate_succ, Array.replicate_zero, List.push_toArray, List.append_toArray, List.nil_append, List.cons_append]
  gi_wp2
  gi_loopw [3] (fun i wr => ∃ k : Nat, k ≤ zs.length - 1 ∧ i = .int .i64 ((k : Int) + 1) ∧ J (List.range k) wr ∧ KpM Mx W wr)
    (fun i _ => zs.length - (intOf i).toNat)
  case atStart => exact ⟨0, Nat.zero_le _, rfl, h0, kpM_r⟩
  case round =>
    obtain ⟨k, hk, rfl, hJs, hnx⟩ := hrel
    have hBr := hnx _ _ _ hBx hBs
    by_cases hlt : k < zs.length - 1
    · have hk0 : k < zs.length := by omega
      have hk1 : k + 1 < zs.length := by omega
      have a0 := hnx _ _ _ (hm0 k hk0) (hc0 k hk0)
      have a1 := hnx _ _ _ (hm1 k hk0) (hc1 k hk0)
      have b0 := hnx _ _ _ (hm0 (k + 1) hk1) (hc0 (k + 1) hk1)
      have b1 := hnx _ _ _ (hm1 (k + 1) hk1) (hc1 (k + 1) hk1)
      obtain ⟨fn, tmps, assign, body, hy, hR⟩ := hY _ k wr.drew (hJd _ _ hJs) (by rw [List.length_range]; exact hlt) hlt
      dsimp only [encN] at hy
      have hmx : Try.prog.follows .mixedOrders = true := by kernel_rfl
      gi_wp2
      have hF : ∀ f, Fence.wide.fn f := fun _ => trivial
      refine region_last (c := 10) (full := #[.func (.yield l) #[] #[], .pointer (some ⟨Bs, 0, none⟩), undef, .int .i64 ((k : Int) + 1), .int .i64 ((k : Int) + 1), .slice (some ⟨b, off, none⟩) zs.length cap, .int .i64 (zs.length : Int), .bool (decide ((k : Int) + 1 < (zs.length : Int))), u8, u9,
        .func (.yield l) #[] #[], .slice (some ⟨b, off, none⟩) zs.length cap, .int .i64 ((k : Int) + 1), .int .i64 (k : Int), .pointer (some ⟨b, off + k * 2, none⟩), rdV zs k, .slice (some ⟨b, off, none⟩) zs.length cap, .int .i64 ((k : Int) + 1), .pointer (some ⟨b, off + (k + 1) * 2, none⟩), rdV zs (k + 1), u20, u21])
        (HeadOK.of (by kernel_rfl) ?run) hmx hF ?sz ?base ?last
      case sz => rfl
      case base =>
        intro t ht
        have hn : t ≠ 10 ∧ t ≠ 11 ∧ t ≠ 12 ∧ t ≠ 13 ∧ t ≠ 14 ∧ t ≠ 15 ∧ t ≠ 16 ∧ t ≠ 17 ∧ t ≠ 18 ∧ t ≠ 19 := by
          refine ⟨?_, ?_, ?_, ?_, ?_, ?_, ?_, ?_, ?_, ?_⟩ <;> rintro rfl
          · exact ht 0 _ (by omega) rfl rfl
          · exact ht 1 _ (by omega) rfl rfl
          · exact ht 2 _ (by omega) rfl rfl
          · exact ht 3 _ (by omega) rfl rfl
          · exact ht 4 _ (by omega) rfl rfl
          · exact ht 5 _ (by omega) rfl rfl
          · exact ht 6 _ (by omega) rfl rfl
          · exact ht 7 _ (by omega) rfl rfl
          · exact ht 8 _ (by omega) rfl rfl
          · exact ht 9 _ (by omega) rfl rfl
        match t, hn with
        | 0, _ | 1, _ | 2, _ | 3, _ | 4, _ | 5, _ | 6, _ | 7, _ | 8, _ | 9, _ | 20, _ | 21, _ => rfl
        | 10, h | 11, h | 12, h | 13, h | 14, h | 15, h | 16, h | 17, h | 18, h | 19, h => simp at h
        | t + 22, _ => rfl
      case run =>
        intro i o tm hi ho hs hb hd t ht
        have t0 : tm.getD 0 undef = .func (.yield l) #[] #[] := hb 0 (notDst (by kernel_rfl))
        have t1 : tm.getD 1 undef = .pointer (some ⟨Bs, 0, none⟩) := hb 1 (notDst (by kernel_rfl))
        have t3 : tm.getD 3 undef = .int .i64 ((k : Int) + 1) := hb 3 (notDst (by kernel_rfl))
        match i, hi with
        | 0, _ =>
          cases ho
          cases ht
          simp [execOp, Act.eval, t0]
        | 1, _ =>
          cases ho
          cases ht
          simp [execOp, go_sem, *]
        | 2, _ =>
          cases ho
          cases ht
          simp [execOp, Act.eval, t3]
        | 3, _ =>
          cases ho
          cases ht
          have e12 : tm.getD 12 undef = .int .i64 ((k : Int) + 1) := hd ⟨2, .data⟩ (by simp) rfl _ 12 rfl rfl
          simp [execOp, go_sem, *]
          exact IntWalk.i64_in _ (by omega)
        | 4, _ =>
          cases ho
          cases ht
          have e11 : tm.getD 11 undef = .slice (some ⟨b, off, none⟩) zs.length cap := hd ⟨1, .data⟩ (by simp) rfl _ 11 rfl rfl
          have e13 : tm.getD 13 undef = .int .i64 (k : Int) := hd ⟨3, .data⟩ (by simp) rfl _ 13 rfl rfl
          simp [execOp, go_sem, *]
        | 5, _ =>
          cases ho
          cases ht
          have e14 : tm.getD 14 undef = .pointer (some ⟨b, off + k * 2, none⟩) := hd ⟨4, .data⟩ (by simp) rfl _ 14 rfl rfl
          simp [execOp, go_sem, *]
        | 6, _ =>
          cases ho
          cases ht
          simp [execOp, go_sem, *]
        | 7, _ =>
          cases ho
          cases ht
          simp [execOp, Act.eval, t3]
        | 8, _ =>
          cases ho
          cases ht
          have e16 : tm.getD 16 undef = .slice (some ⟨b, off, none⟩) zs.length cap := hd ⟨6, .data⟩ (by simp) rfl _ 16 rfl rfl
          have e17 : tm.getD 17 undef = .int .i64 ((k : Int) + 1) := hd ⟨7, .data⟩ (by simp) rfl _ 17 rfl rfl
          simp [execOp, go_sem, *]
          intro h; omega
        | 9, _ =>
          cases ho
          cases ht
          have e18 : tm.getD 18 undef = .pointer (some ⟨b, off + (k + 1) * 2, none⟩) := hd ⟨8, .data⟩ (by simp) rfl _ 18 rfl rfl
          simp [execOp, go_sem, *]
        | i + 10, h => exact absurd h (by omega)
      case last =>
        rename_i K1 h1 K2 h2
        intro K hK
        unfold wpOpIn
        simp only [List.getElem?_toArray, List.getElem?_cons_succ, List.getElem?_cons_zero]
        rw [if_pos (by simp [Region.wanted])]
        refine ⟨fun _ _ => trivial, ?_⟩
        simp [go_sem, Oper.semAt, *]
        refine ⟨fun h => by simp [Fence.wide] at h, hR.mono ?_⟩
        rintro e W3 (⟨rfl, hJ3, hk3⟩ | ⟨rfl, hJx3⟩)
        · refine hK _ _ ?_
          unfold wpOpIn
          simp only [List.getElem?_toArray, List.getElem?_cons_succ, List.getElem?_cons_zero]
          rw [if_pos (by simp [Region.wanted])]
          refine ⟨fun _ _ => trivial, ?_⟩
          simp [go_sem, Oper.semAt, *]
          refine h2 _ _ ?_
          gi_wp2
          refine ⟨⟨k + 1, by omega, by simp, by rw [range_snoc]; exact hJ3, kpM_t hnx hk3⟩, by simp [intOf]; omega⟩
        · refine hK _ _ ?_
          unfold wpOpIn
          simp only [List.getElem?_toArray, List.getElem?_cons_succ, List.getElem?_cons_zero]
          rw [if_pos (by simp [Region.wanted])]
          refine ⟨fun _ _ => trivial, ?_⟩
          simp [go_sem, Oper.semAt, *]
          refine h2 _ _ ?_
          gi_wp2
          refine bodyPost_ret (results_none rfl _ _ _) rfl ?_
          exact ⟨⟨_, rfl⟩, .inr ⟨_, ⟨k + 1, by omega, (range_snoc k).symm⟩, hJx3⟩⟩
    · gi_wp2
      go_end0
      exact ⟨⟨_, rfl⟩, .inl ⟨_, by rw [show zs.length - 1 = k by omega], hJs⟩⟩
set_option maxHeartbeats 1000000 in
/-- the slice value is boxed; the function value captures the box -/
theorem nb_in (n : Nat) (a : Option Addr) (len cap : Nat) (w : World) :
    CallsIn Fence.wide n Try.prog 12 #[.slice a len cap] w fun e w' => e = .returned (.func (.func 15) #[] #[.pointer (some ⟨w.heap.size, 0, none⟩)]) ∧ w' = w.alloc (.cells #[.slice a len cap] 29) := by
  have hro : Fence.wide.round = none := rfl
  have hfn : ∀ f, Fence.wide.fn f := fun _ => trivial
  refine callsIn_of_wp Try.func12 rfl trivial ?_ hro
  simp only [Try.ntmps12, List.size_toArray, List.length_cons, List.length_nil, Nat.reduceAdd, Nat.reduceSub, Array.replicate_succ, Array.replicate_zero, List.push_toArray, List.append_toArray, List.nil_append, List.cons_append]
  gi_wp2
  go_ret
  exact ⟨rfl, rfl⟩
theorem dataR_get {zs : List (Int × Int)} {j : Nat} (h : j < zs.length) : (dataR zs)[j]? = some (.rc [.int .i64 (zs.getD j (0, 0)).1, .int .i64 (zs.getD j (0, 0)).2]) := by
  simp [dataR, h]
set_option maxHeartbeats 1000000 in
theorem nbok : NbOK Try.prog 12 15 29 := by
  refine ⟨⟨_, Try.func12, rfl⟩, ⟨_, Try.func15, rfl⟩, fun a len cap w => nb_in 0 a len cap w, ?_⟩
  intro Bs sv zs Mx w hlen hlim hBx hmem hrep l J Jx W hW hJ hJx hY h0
  rw [Rep_lst] at hrep
  obtain ⟨L, hL, hmax, hrep⟩ := hrep
  cases hL
  have hdl : (dataR zs).length = zs.length := by simp [dataR]
  rw [hdl] at hmax
  rcases hrep with ⟨rfl, hnil⟩ | ⟨b, off, sp, cap, rfl, hsp, hcap, _, hcells⟩
  · exfalso
    rw [hnil] at hdl
    simp at hdl
    omega
  rw [hdl] at hcap hBx
  have hsn : sp = none := hsp (by omega)
  subst hsn
  have hW' : ∀ (b o : Nat) (v : Value), w.cell? ⟨b, o, none⟩ = some v → W.cell? ⟨b, o, none⟩ = some v := fun b o v hv => (hW.cell (p := ⟨b, o, none⟩) (lt_of_cell hv)).trans hv
  have hm : ∀ j, j < zs.length → Mx b (off + j * 2) = some (.int .i64 (zs.getD j (0, 0)).1) ∧ Mx b (off + j * 2 + 1) = some (.int .i64 (zs.getD j (0, 0)).2) := by
    intro j hj
    have := hcells j _ (dataR_get hj)
    simp only [D.cells, List.length_cons, List.length_nil, RepCells, Rep_int] at this
    simp only [Nat.reduceAdd, Nat.reduceEqDiff, if_false, RepCells, Rep_int] at this
    obtain ⟨⟨v1, a1, n1, b1, c1, _⟩, ⟨v2, a2, n2, b2, c2, _⟩, _⟩ := this
    cases c1
    cases c2
    rw [b1] at a1
    rw [b2] at a2
    exact ⟨a1, a2⟩
  refine (nb1_in 0 l Bs b off cap zs (by omega) Mx (fun pre W => ∃ pf : List (Fin (zs.length - 1)), pf.map (·.val) = pre ∧ J pf W) (fun pre W => ∃ pf : List (Fin (zs.length - 1)), pf.map (·.val) = pre ∧ Jx pf W) ?_ W hBx (hW' _ _ _ (hmem _ _ _ hBx)) (fun j hj => (hm j hj).1) (fun j hj => (hm j hj).2)
    (fun j hj => hW' _ _ _ (hmem _ _ _ (hm j hj).1)) (fun j hj => hW' _ _ _ (hmem _ _ _ (hm j hj).2)) ⟨[], rfl, h0⟩ ?_).mono ?_
  · rintro pre x W1 ⟨pf, rfl, hj⟩ hl hx
    obtain ⟨fn, tmps, assign, body, h1, h2⟩ := hY pf ⟨x, hx⟩ W1 hj (by simpa using hl)
    refine ⟨fn, tmps, assign, body, h1, h2.mono ?_⟩
    rintro e W2 (⟨rfl, h3, h4⟩ | ⟨rfl, h3⟩)
    · exact .inl ⟨rfl, ⟨pf ++ [⟨x, hx⟩], by simp, h3⟩, h4⟩
    · exact .inr ⟨rfl, ⟨pf ++ [⟨x, hx⟩], by simp, h3⟩⟩
  · rintro pre W1 ⟨pf, rfl, hj⟩
    exact ⟨pf, rfl, hJ pf W1 W1.drew none hj ⟨rfl, rfl, rfl, Nat.le_refl _, fun _ _ _ => rfl⟩ (fun r e => by cases e)⟩
  · rintro e W2 ⟨he, ⟨ys, rfl, pf, h1, h2⟩ | ⟨pre, _, pf, _, h2⟩⟩
    · exact ⟨he, .inl ⟨pf, h1, h2⟩⟩
    · exact ⟨he, .inr ⟨pf, trivial, h2⟩⟩
end Go.Proofs.Ytighdhddeidmcaa.N10
