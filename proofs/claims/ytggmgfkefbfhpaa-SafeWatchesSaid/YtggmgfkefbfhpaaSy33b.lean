/-
  The functions of layer 33: what they answer.
-/
import Derived.Test.YtggmgfkefbfhpaaSy33a
set_option maxRecDepth 100000
set_option linter.unusedSimpArgs false
set_option linter.unusedVariables false
namespace Go.Proofs.Ytggmgfkefbfhpaa
open Go.Proofs.Ytggmgfkefbfhpaa.Sy
abbrev tSf : TS := .g [.int .i64, .int .i64, .int .i64, .lst [.int .i64]]
def sf (c t f : Int) (L : List Int) : D := .rc [I64d c, I64d t, I64d f, .lst (L.map I64d)]
def okSf (c t f : Int) (L : List Int) : Prop := 0 ≤ c ∧ c ≤ 268435456 ∧ 0 ≤ t ∧ t ≤ 10080 ∧ 0 ≤ f ∧ f ≤ 1048576 ∧ 1 ≤ L.length ∧ L.length ≤ 32 ∧ ∀ n ∈ L, 0 ≤ n ∧ n ≤ 2
instance (c t f : Int) (L : List Int) : Decidable (okSf c t f L) := by unfold okSf; infer_instance
def sfE (c t f : Int) (L : List Int) : Int := if okSf c t f L then 0 else 1
theorem sfE0 {c t f : Int} {L : List Int} : sfE c t f L = 0 ↔ okSf c t f L := by unfold sfE; split <;> simp [*]
theorem take_step {p : Int → Prop} {L : List Int} {i : Int} (h0 : 0 ≤ i) (h1 : i < L.length) (h : ∀ n ∈ L.take i.toNat, p n) (hp : p (L.getD i.toNat 0)) : ∀ n ∈ L.take (i + 1).toNat, p n := by
  intro n hn
  have e : (i + 1).toNat = i.toNat + 1 := by omega
  have hl : i.toNat < L.length := by omega
  rw [e, List.take_succ_eq_append_getElem hl] at hn
  rcases List.mem_append.1 hn with h2 | h2
  · exact h n h2
  · rw [List.mem_singleton] at h2; subst h2; simpa [List.getD_eq_getElem?_getD, hl] using hp
theorem take_all {p : Int → Prop} {L : List Int} {i : Int} (h1 : (L.length : Int) ≤ i) (h : ∀ n ∈ L.take i.toNat, p n) : ∀ n ∈ L, p n := by
  rw [List.take_of_length_le (by omega)] at h; exact h
theorem get_I {L : List Int} {i : Int} (h0 : 0 ≤ i) (h1 : i < L.length) : (L.map I64d).getD i.toNat default = I64d (L.getD i.toNat 0) := get_map 0 h0 h1
theorem get_mem {L : List Int} {i : Int} (h0 : 0 ≤ i) (h1 : i < L.length) : L.getD i.toNat 0 ∈ L := by
  have hl : i.toNat < L.length := by omega
  simp [List.getD_eq_getElem?_getD, hl]
theorem inn_fn (x a b : Int) : Fun Try.prog [] 23 [tI, tI, tI] [I64d x, I64d a, I64d b] [tB] (.ok [.bool (decide (a ≤ x ∧ x ≤ b))]) := by
  refine inn_ent _ _ ?_
  show vcinn.den _ _ _ _ _
  unfold vcinn
  (repeat' (first | (with_reducible refine den_ite (fun h => ?_) (fun h => ?_)) | with_reducible refine den_ev ?_ | with_reducible refine evs_nil ?_ | with_reducible refine evs_ob ?_ ?_ | with_reducible refine den_ret ?_)) <;> (try simp only [E.den, cmpB, arI, D.toI, D.toB, D.toL, D.len, D.mapL, D.cells, List.map_cons, List.map_nil, List.getD_cons_zero, List.getD_cons_succ, List.cons_append, List.nil_append, flatD, List.length_map, List.length_set, gt_iff_lt, ge_iff_le, beq_iff_eq, bne_iff_ne, ne_eq, decide_eq_true_eq, decide_eq_false_iff_not, Bool.not_eq_true, Bool.not_eq_false, beq_eq_false_iff_ne, Int.not_lt, Int.not_le, Decidable.not_not, Bool.false_eq_true, Bool.true_eq_false, bne_eq_false_iff_eq] at *) <;> simp <;> omega
theorem right_fn (x : Int) : Fun Try.prog [] 22 [tI] [I64d x] [tB] (.ok [.bool (decide (0 ≤ x ∧ x ≤ 268435456))]) := by
  refine right_ent _ _ ?_
  show vcright.den _ _ _ _ _
  unfold vcright
  (repeat' (first | (with_reducible refine den_ite (fun h => ?_) (fun h => ?_)) | with_reducible refine den_ev ?_ | with_reducible refine evs_nil ?_ | with_reducible refine evs_ob ?_ ?_ | with_reducible refine den_ret ?_)) <;> (try simp only [E.den, cmpB, arI, D.toI, D.toB, D.toL, D.len, D.mapL, D.cells, List.map_cons, List.map_nil, List.getD_cons_zero, List.getD_cons_succ, List.cons_append, List.nil_append, flatD, List.length_map, List.length_set, gt_iff_lt, ge_iff_le, beq_iff_eq, bne_iff_ne, ne_eq, decide_eq_true_eq, decide_eq_false_iff_not, Bool.not_eq_true, Bool.not_eq_false, beq_eq_false_iff_ne, Int.not_lt, Int.not_le, Decidable.not_not, Bool.false_eq_true, Bool.true_eq_false, bne_eq_false_iff_eq] at *) <;> simp <;> omega
theorem limit0_fn (c t f : Int) (L : List Int) (now l : Int) (h : okSf c t f L) : Fun Try.prog [] 19 [tSf, tI, tI] [sf c t f L, I64d now, I64d l] [tI] (.ok [I64d (if t ≠ 0 ∧ c + t ≤ now then min l f else l)]) := by
  refine rlimit_ent _ _ ?_
  show vcrlimit.den _ _ _ _ _
  unfold vcrlimit
  have hw : IntKind.wrap .i64 (c + t) = c + t := by unfold okSf at h; exact wrap_i64 (by omega) (by omega)
  (repeat' (first | (with_reducible refine den_ite (fun h => ?_) (fun h => ?_)) | with_reducible refine den_ev ?_ | with_reducible refine evs_nil ?_ | with_reducible refine evs_ob ?_ ?_ | with_reducible refine den_ret ?_)) <;> simp only [sf] at * <;> (try simp only [E.den, cmpB, arI, D.toI, D.toB, D.toL, D.len, D.mapL, D.cells, List.map_cons, List.map_nil, List.getD_cons_zero, List.getD_cons_succ, List.cons_append, List.nil_append, flatD, List.length_map, List.length_set, gt_iff_lt, ge_iff_le, beq_iff_eq, bne_iff_ne, ne_eq, decide_eq_true_eq, decide_eq_false_iff_not, Bool.not_eq_true, Bool.not_eq_false, beq_eq_false_iff_ne, Int.not_lt, Int.not_le, Decidable.not_not, Bool.false_eq_true, Bool.true_eq_false, bne_eq_false_iff_eq] at *) <;> (try simp [hw] at *) <;> (repeat' split) <;> (try simp) <;> omega
theorem copy_fn (L : List Int) (hL : L.length ≤ 1000000) : Fun Try.prog [] 24 [.c (.lst [.int .i64])] [.lst (L.map I64d)] [.r [.int .i64]] (.ok [.lst (L.map I64d)]) := by
  refine copy_ent _ _ ?_
  show vccopy.den _ _ _ _ _
  unfold vccopy
  (repeat' (first | (with_reducible refine den_ite (fun h => ?_) (fun h => ?_)) | with_reducible refine den_ev ?_ | with_reducible refine evs_nil ?_ | with_reducible refine evs_ob ?_ ?_ | with_reducible refine den_ret ?_)) <;> (try simp only [E.den, cmpB, arI, D.toI, D.toB, D.toL, D.len, D.mapL, D.cells, List.map_cons, List.map_nil, List.getD_cons_zero, List.getD_cons_succ, List.cons_append, List.nil_append, flatD, List.length_map, List.length_set, gt_iff_lt, ge_iff_le, beq_iff_eq, bne_iff_ne, ne_eq, decide_eq_true_eq, decide_eq_false_iff_not, Bool.not_eq_true, Bool.not_eq_false, beq_eq_false_iff_ne, Int.not_lt, Int.not_le, Decidable.not_not, Bool.false_eq_true, Bool.true_eq_false, bne_eq_false_iff_eq] at *) <;> first | (simp; done) | (exact List.take_of_length_le (by simp)) | (simp; exact List.take_of_length_le (by simp)) | omega | (simp; omega)
def stV (L : List Int) (xs : List D) : Prop := ∃ a i : Int, xs = [I64d a, I64d i] ∧ 0 ≤ i ∧ i ≤ L.length ∧ ∀ n ∈ L.take i.toNat, 0 ≤ n ∧ n ≤ 2
def stVm (n : Nat) (xs : List D) : Nat := n - (xs.getD 1 default).toI.toNat
theorem valid_fn (c0 t f : Int) (L : List Int) (hL : L.length ≤ 4294967296) : Fun Try.prog [] 11 [tSf] [sf c0 t f L] [tI] (.ok [I64d (sfE c0 t f L)]) := by
  refine valid_ent _ _ ?_
  show vcvalid.den _ _ _ _ _
  unfold vcvalid
  simp only [sf]
  (repeat' (first | (with_reducible refine den_ite (fun h => ?_) (fun h => ?_)) | with_reducible refine den_ev ?_ | with_reducible refine evs_nil ?_ | with_reducible refine evs_ob ?_ ?_ | with_reducible refine den_ret ?_))
  all_goals (try simp only [E.den, cmpB, arI, D.toI, D.toB, D.toL, D.len, D.mapL, D.cells, List.map_cons, List.map_nil, List.getD_cons_zero, List.getD_cons_succ, List.cons_append, List.nil_append, flatD, List.length_map, List.length_set, gt_iff_lt, ge_iff_le, beq_iff_eq, bne_iff_ne, ne_eq, decide_eq_true_eq, decide_eq_false_iff_not, Bool.not_eq_true, Bool.not_eq_false, beq_eq_false_iff_ne, Int.not_lt, Int.not_le, Decidable.not_not, Bool.false_eq_true, Bool.true_eq_false, bne_eq_false_iff_eq] at *)
  all_goals first | (unfold sfE; rw [if_neg (by unfold okSf; omega)]; done) | skip
  refine den_loop (stV L) (stVm L.length) ⟨0, 0, rfl, by omega, by omega, by simp⟩ ?_
  simp only [AllSh]
  intro a _ _ i _ _ ⟨a', i', he, hi0, hi1, hx⟩
  simp only [List.cons.injEq, D.int.injEq, true_and, and_true] at he
  obtain ⟨rfl, rfl⟩ := he
  (try simp only [List.cons_append, List.nil_append])
  refine den_ite (fun h => ?_) (fun h => den_ret ?_)
  · (try simp only [E.den, cmpB, arI, D.toI, D.toB, D.toL, D.len, D.mapL, D.cells, List.map_cons, List.map_nil, List.getD_cons_zero, List.getD_cons_succ, List.cons_append, List.nil_append, flatD, List.length_map, List.length_set, gt_iff_lt, ge_iff_le, beq_iff_eq, bne_iff_ne, ne_eq, decide_eq_true_eq, decide_eq_false_iff_not, Bool.not_eq_true, Bool.not_eq_false, beq_eq_false_iff_ne, Int.not_lt, Int.not_le, Decidable.not_not, Bool.false_eq_true, Bool.true_eq_false, bne_eq_false_iff_eq] at *)
    have hg := get_I (L := L) hi0 (by omega)
    have hm := get_mem (L := L) hi0 (by omega)
    have hw : IntKind.wrap .i64 (i + 1) = i + 1 := wrap_i64 (by omega) (by omega)
    have hb : ∀ c, (∀ n, n = L.getD i.toNat 0 → 0 ≤ n ∧ n ≤ 2) → VC.den Try.prog [] (fun r => r = .ok [I64d (sfE c0 t f L)]) (.back 0 [.v 4, .ar .add .i64 (.v 5) (.ki .i64 1)]) [⟨stV L, stVm L.length, stVm L.length [I64d a, I64d i]⟩] (I64d c0 :: I64d t :: I64d f :: .lst (L.map I64d) :: I64d a :: I64d i :: c) := by
      intro c hn
      refine den_back rfl ⟨a, i + 1, ?_, by omega, by omega, take_step hi0 (by omega) hx (hn _ rfl)⟩ ?_
      · (try simp only [E.den, cmpB, arI, D.toI, D.toB, D.toL, D.len, D.mapL, D.cells, List.map_cons, List.map_nil, List.getD_cons_zero, List.getD_cons_succ, List.cons_append, List.nil_append, flatD, List.length_map, List.length_set, gt_iff_lt, ge_iff_le, beq_iff_eq, bne_iff_ne, ne_eq, decide_eq_true_eq, decide_eq_false_iff_not, Bool.not_eq_true, Bool.not_eq_false, beq_eq_false_iff_ne, Int.not_lt, Int.not_le, Decidable.not_not, Bool.false_eq_true, Bool.true_eq_false, bne_eq_false_iff_eq] at *); simp [hw]
      · simp only [stVm]; (try simp only [E.den, cmpB, arI, D.toI, D.toB, D.toL, D.len, D.mapL, D.cells, List.map_cons, List.map_nil, List.getD_cons_zero, List.getD_cons_succ, List.cons_append, List.nil_append, flatD, List.length_map, List.length_set, gt_iff_lt, ge_iff_le, beq_iff_eq, bne_iff_ne, ne_eq, decide_eq_true_eq, decide_eq_false_iff_not, Bool.not_eq_true, Bool.not_eq_false, beq_eq_false_iff_ne, Int.not_lt, Int.not_le, Decidable.not_not, Bool.false_eq_true, Bool.true_eq_false, bne_eq_false_iff_eq] at *); simp [hw]; omega
    have hn : ∀ n, n = L.getD i.toNat 0 → (n < 0 ∨ 2 < n) → sfE c0 t f L = 1 := by
      intro n hn hr
      subst hn
      unfold sfE
      rw [if_neg]
      intro ho
      have := ho.2.2.2.2.2.2.2.2 _ hm
      omega
    generalize hq : L.getD i.toNat 0 = q at *
    (repeat' (first | (with_reducible refine den_ite (fun h => ?_) (fun h => ?_)) | with_reducible refine den_ev ?_ | with_reducible refine evs_nil ?_ | with_reducible refine evs_ob ?_ ?_ | with_reducible refine den_ret ?_))
    all_goals (try (try simp only [E.den, cmpB, arI, D.toI, D.toB, D.toL, D.len, D.mapL, D.cells, List.map_cons, List.map_nil, List.getD_cons_zero, List.getD_cons_succ, List.cons_append, List.nil_append, flatD, List.length_map, List.length_set, gt_iff_lt, ge_iff_le, beq_iff_eq, bne_iff_ne, ne_eq, decide_eq_true_eq, decide_eq_false_iff_not, Bool.not_eq_true, Bool.not_eq_false, beq_eq_false_iff_ne, Int.not_lt, Int.not_le, Decidable.not_not, Bool.false_eq_true, Bool.true_eq_false, bne_eq_false_iff_eq] at *))
    all_goals try simp only [hg] at *
    all_goals (try (try simp only [E.den, cmpB, arI, D.toI, D.toB, D.toL, D.len, D.mapL, D.cells, List.map_cons, List.map_nil, List.getD_cons_zero, List.getD_cons_succ, List.cons_append, List.nil_append, flatD, List.length_map, List.length_set, gt_iff_lt, ge_iff_le, beq_iff_eq, bne_iff_ne, ne_eq, decide_eq_true_eq, decide_eq_false_iff_not, Bool.not_eq_true, Bool.not_eq_false, beq_eq_false_iff_ne, Int.not_lt, Int.not_le, Decidable.not_not, Bool.false_eq_true, Bool.true_eq_false, bne_eq_false_iff_eq] at *))
    · exact hi0
    · exact h
    · rw [hn _ rfl (.inl ‹_›)]
    · rw [hn _ rfl (.inr ‹_›)]
    · exact hb [] fun n e => by subst e; omega
  · (try simp only [E.den, cmpB, arI, D.toI, D.toB, D.toL, D.len, D.mapL, D.cells, List.map_cons, List.map_nil, List.getD_cons_zero, List.getD_cons_succ, List.cons_append, List.nil_append, flatD, List.length_map, List.length_set, gt_iff_lt, ge_iff_le, beq_iff_eq, bne_iff_ne, ne_eq, decide_eq_true_eq, decide_eq_false_iff_not, Bool.not_eq_true, Bool.not_eq_false, beq_eq_false_iff_ne, Int.not_lt, Int.not_le, Decidable.not_not, Bool.false_eq_true, Bool.true_eq_false, bne_eq_false_iff_eq] at *)
    have := take_all (by omega) hx
    unfold sfE
    rw [if_pos]
    unfold okSf
    exact ⟨by omega, by omega, by omega, by omega, by omega, by omega, by omega, by omega, this⟩
theorem rvalid_fn (c0 t f : Int) (L : List Int) (hL : L.length ≤ 4294967296) : Fun Try.prog [] 12 [tSf] [sf c0 t f L] [tI] (.ok [I64d (sfE c0 t f L)]) := by
  refine rvalid_ent _ _ ?_
  show vcrvalid.den _ _ _ _ _
  unfold vcrvalid
  simp only [sf]
  refine den_cal [.bool _] rfl (right_fn c0) rfl rfl ?_
  (try simp only [List.cons_append, List.nil_append])
  refine den_ite (fun h => ?_) (fun h => den_ret ?_)
  rotate_left
  · (try simp only [E.den, cmpB, arI, D.toI, D.toB, D.toL, D.len, D.mapL, D.cells, List.map_cons, List.map_nil, List.getD_cons_zero, List.getD_cons_succ, List.cons_append, List.nil_append, flatD, List.length_map, List.length_set, gt_iff_lt, ge_iff_le, beq_iff_eq, bne_iff_ne, ne_eq, decide_eq_true_eq, decide_eq_false_iff_not, Bool.not_eq_true, Bool.not_eq_false, beq_eq_false_iff_ne, Int.not_lt, Int.not_le, Decidable.not_not, Bool.false_eq_true, Bool.true_eq_false, bne_eq_false_iff_eq] at *); unfold sfE; rw [if_neg (by unfold okSf; omega)]
  refine den_cal [.bool _] rfl (inn_fn t 0 10080) rfl rfl ?_
  (try simp only [List.cons_append, List.nil_append])
  refine den_ite (fun h => ?_) (fun h => den_ret ?_)
  rotate_left
  · (try simp only [E.den, cmpB, arI, D.toI, D.toB, D.toL, D.len, D.mapL, D.cells, List.map_cons, List.map_nil, List.getD_cons_zero, List.getD_cons_succ, List.cons_append, List.nil_append, flatD, List.length_map, List.length_set, gt_iff_lt, ge_iff_le, beq_iff_eq, bne_iff_ne, ne_eq, decide_eq_true_eq, decide_eq_false_iff_not, Bool.not_eq_true, Bool.not_eq_false, beq_eq_false_iff_ne, Int.not_lt, Int.not_le, Decidable.not_not, Bool.false_eq_true, Bool.true_eq_false, bne_eq_false_iff_eq] at *); unfold sfE; rw [if_neg (by unfold okSf; omega)]
  refine den_cal [.bool _] rfl (inn_fn f 0 1048576) rfl rfl ?_
  (try simp only [List.cons_append, List.nil_append])
  refine den_ite (fun h => ?_) (fun h => den_ret ?_)
  rotate_left
  · (try simp only [E.den, cmpB, arI, D.toI, D.toB, D.toL, D.len, D.mapL, D.cells, List.map_cons, List.map_nil, List.getD_cons_zero, List.getD_cons_succ, List.cons_append, List.nil_append, flatD, List.length_map, List.length_set, gt_iff_lt, ge_iff_le, beq_iff_eq, bne_iff_ne, ne_eq, decide_eq_true_eq, decide_eq_false_iff_not, Bool.not_eq_true, Bool.not_eq_false, beq_eq_false_iff_ne, Int.not_lt, Int.not_le, Decidable.not_not, Bool.false_eq_true, Bool.true_eq_false, bne_eq_false_iff_eq] at *); unfold sfE; rw [if_neg (by unfold okSf; omega)]
  refine den_cal [.bool _] rfl (inn_fn L.length 1 32) (by (try simp only [E.den, cmpB, arI, D.toI, D.toB, D.toL, D.len, D.mapL, D.cells, List.map_cons, List.map_nil, List.getD_cons_zero, List.getD_cons_succ, List.cons_append, List.nil_append, flatD, List.length_map, List.length_set, gt_iff_lt, ge_iff_le, beq_iff_eq, bne_iff_ne, ne_eq, decide_eq_true_eq, decide_eq_false_iff_not, Bool.not_eq_true, Bool.not_eq_false, beq_eq_false_iff_ne, Int.not_lt, Int.not_le, Decidable.not_not, Bool.false_eq_true, Bool.true_eq_false, bne_eq_false_iff_eq] at *)) rfl ?_
  (try simp only [List.cons_append, List.nil_append])
  refine den_ite (fun h => ?_) (fun h => den_ret ?_)
  rotate_left
  · (try simp only [E.den, cmpB, arI, D.toI, D.toB, D.toL, D.len, D.mapL, D.cells, List.map_cons, List.map_nil, List.getD_cons_zero, List.getD_cons_succ, List.cons_append, List.nil_append, flatD, List.length_map, List.length_set, gt_iff_lt, ge_iff_le, beq_iff_eq, bne_iff_ne, ne_eq, decide_eq_true_eq, decide_eq_false_iff_not, Bool.not_eq_true, Bool.not_eq_false, beq_eq_false_iff_ne, Int.not_lt, Int.not_le, Decidable.not_not, Bool.false_eq_true, Bool.true_eq_false, bne_eq_false_iff_eq] at *); unfold sfE; rw [if_neg (by unfold okSf; omega)]
  (try simp only [E.den, cmpB, arI, D.toI, D.toB, D.toL, D.len, D.mapL, D.cells, List.map_cons, List.map_nil, List.getD_cons_zero, List.getD_cons_succ, List.cons_append, List.nil_append, flatD, List.length_map, List.length_set, gt_iff_lt, ge_iff_le, beq_iff_eq, bne_iff_ne, ne_eq, decide_eq_true_eq, decide_eq_false_iff_not, Bool.not_eq_true, Bool.not_eq_false, beq_eq_false_iff_ne, Int.not_lt, Int.not_le, Decidable.not_not, Bool.false_eq_true, Bool.true_eq_false, bne_eq_false_iff_eq] at *)
  refine den_loop (stV L) (stVm L.length) ⟨0, 0, rfl, by omega, by omega, by simp⟩ ?_
  simp only [AllSh]
  intro a _ _ i _ _ ⟨a', i', he, hi0, hi1, hx⟩
  simp only [List.cons.injEq, D.int.injEq, true_and, and_true] at he
  obtain ⟨rfl, rfl⟩ := he
  (try simp only [List.cons_append, List.nil_append])
  refine den_ite (fun h => ?_) (fun h => den_ret ?_)
  · (try simp only [E.den, cmpB, arI, D.toI, D.toB, D.toL, D.len, D.mapL, D.cells, List.map_cons, List.map_nil, List.getD_cons_zero, List.getD_cons_succ, List.cons_append, List.nil_append, flatD, List.length_map, List.length_set, gt_iff_lt, ge_iff_le, beq_iff_eq, bne_iff_ne, ne_eq, decide_eq_true_eq, decide_eq_false_iff_not, Bool.not_eq_true, Bool.not_eq_false, beq_eq_false_iff_ne, Int.not_lt, Int.not_le, Decidable.not_not, Bool.false_eq_true, Bool.true_eq_false, bne_eq_false_iff_eq] at *)
    have hg := get_I (L := L) hi0 (by omega)
    have hm := get_mem (L := L) hi0 (by omega)
    have hw : IntKind.wrap .i64 (i + 1) = i + 1 := wrap_i64 (by omega) (by omega)
    generalize hq : L.getD i.toNat 0 = q at *
    refine den_ev (evs_ob (by (try simp only [E.den, cmpB, arI, D.toI, D.toB, D.toL, D.len, D.mapL, D.cells, List.map_cons, List.map_nil, List.getD_cons_zero, List.getD_cons_succ, List.cons_append, List.nil_append, flatD, List.length_map, List.length_set, gt_iff_lt, ge_iff_le, beq_iff_eq, bne_iff_ne, ne_eq, decide_eq_true_eq, decide_eq_false_iff_not, Bool.not_eq_true, Bool.not_eq_false, beq_eq_false_iff_ne, Int.not_lt, Int.not_le, Decidable.not_not, Bool.false_eq_true, Bool.true_eq_false, bne_eq_false_iff_eq] at *); exact hi0) (evs_ob (by (try simp only [E.den, cmpB, arI, D.toI, D.toB, D.toL, D.len, D.mapL, D.cells, List.map_cons, List.map_nil, List.getD_cons_zero, List.getD_cons_succ, List.cons_append, List.nil_append, flatD, List.length_map, List.length_set, gt_iff_lt, ge_iff_le, beq_iff_eq, bne_iff_ne, ne_eq, decide_eq_true_eq, decide_eq_false_iff_not, Bool.not_eq_true, Bool.not_eq_false, beq_eq_false_iff_ne, Int.not_lt, Int.not_le, Decidable.not_not, Bool.false_eq_true, Bool.true_eq_false, bne_eq_false_iff_eq] at *); exact h) (evs_nil ?_)))
    refine den_cal [.bool _] rfl (inn_fn q 0 2) (by (try simp only [E.den, cmpB, arI, D.toI, D.toB, D.toL, D.len, D.mapL, D.cells, List.map_cons, List.map_nil, List.getD_cons_zero, List.getD_cons_succ, List.cons_append, List.nil_append, flatD, List.length_map, List.length_set, gt_iff_lt, ge_iff_le, beq_iff_eq, bne_iff_ne, ne_eq, decide_eq_true_eq, decide_eq_false_iff_not, Bool.not_eq_true, Bool.not_eq_false, beq_eq_false_iff_ne, Int.not_lt, Int.not_le, Decidable.not_not, Bool.false_eq_true, Bool.true_eq_false, bne_eq_false_iff_eq] at *); simp only [hg]) rfl ?_
    (try simp only [List.cons_append, List.nil_append])
    refine den_ite (fun h2 => ?_) (fun h2 => den_ret ?_)
    · (try simp only [E.den, cmpB, arI, D.toI, D.toB, D.toL, D.len, D.mapL, D.cells, List.map_cons, List.map_nil, List.getD_cons_zero, List.getD_cons_succ, List.cons_append, List.nil_append, flatD, List.length_map, List.length_set, gt_iff_lt, ge_iff_le, beq_iff_eq, bne_iff_ne, ne_eq, decide_eq_true_eq, decide_eq_false_iff_not, Bool.not_eq_true, Bool.not_eq_false, beq_eq_false_iff_ne, Int.not_lt, Int.not_le, Decidable.not_not, Bool.false_eq_true, Bool.true_eq_false, bne_eq_false_iff_eq] at *)
      refine den_back rfl ⟨a, i + 1, ?_, by omega, by omega, take_step hi0 (by omega) hx (by rw [hq]; exact h2)⟩ ?_
      · (try simp only [E.den, cmpB, arI, D.toI, D.toB, D.toL, D.len, D.mapL, D.cells, List.map_cons, List.map_nil, List.getD_cons_zero, List.getD_cons_succ, List.cons_append, List.nil_append, flatD, List.length_map, List.length_set, gt_iff_lt, ge_iff_le, beq_iff_eq, bne_iff_ne, ne_eq, decide_eq_true_eq, decide_eq_false_iff_not, Bool.not_eq_true, Bool.not_eq_false, beq_eq_false_iff_ne, Int.not_lt, Int.not_le, Decidable.not_not, Bool.false_eq_true, Bool.true_eq_false, bne_eq_false_iff_eq] at *); simp [hw]
      · simp only [stVm]; (try simp only [E.den, cmpB, arI, D.toI, D.toB, D.toL, D.len, D.mapL, D.cells, List.map_cons, List.map_nil, List.getD_cons_zero, List.getD_cons_succ, List.cons_append, List.nil_append, flatD, List.length_map, List.length_set, gt_iff_lt, ge_iff_le, beq_iff_eq, bne_iff_ne, ne_eq, decide_eq_true_eq, decide_eq_false_iff_not, Bool.not_eq_true, Bool.not_eq_false, beq_eq_false_iff_ne, Int.not_lt, Int.not_le, Decidable.not_not, Bool.false_eq_true, Bool.true_eq_false, bne_eq_false_iff_eq] at *); simp [hw]; omega
    · (try simp only [E.den, cmpB, arI, D.toI, D.toB, D.toL, D.len, D.mapL, D.cells, List.map_cons, List.map_nil, List.getD_cons_zero, List.getD_cons_succ, List.cons_append, List.nil_append, flatD, List.length_map, List.length_set, gt_iff_lt, ge_iff_le, beq_iff_eq, bne_iff_ne, ne_eq, decide_eq_true_eq, decide_eq_false_iff_not, Bool.not_eq_true, Bool.not_eq_false, beq_eq_false_iff_ne, Int.not_lt, Int.not_le, Decidable.not_not, Bool.false_eq_true, Bool.true_eq_false, bne_eq_false_iff_eq] at *)
      unfold sfE
      rw [if_neg]
      intro ho
      exact h2 (ho.2.2.2.2.2.2.2.2 _ hm)
  · (try simp only [E.den, cmpB, arI, D.toI, D.toB, D.toL, D.len, D.mapL, D.cells, List.map_cons, List.map_nil, List.getD_cons_zero, List.getD_cons_succ, List.cons_append, List.nil_append, flatD, List.length_map, List.length_set, gt_iff_lt, ge_iff_le, beq_iff_eq, bne_iff_ne, ne_eq, decide_eq_true_eq, decide_eq_false_iff_not, Bool.not_eq_true, Bool.not_eq_false, beq_eq_false_iff_ne, Int.not_lt, Int.not_le, Decidable.not_not, Bool.false_eq_true, Bool.true_eq_false, bne_eq_false_iff_eq] at *)
    have := take_all (by omega) hx
    unfold sfE
    rw [if_pos]
    unfold okSf
    exact ⟨by omega, by omega, by omega, by omega, by omega, by omega, by omega, by omega, this⟩
def nwOk (n t f : Int) : Prop := 1 ≤ n ∧ n ≤ 32 ∧ 0 ≤ t ∧ t ≤ 10080 ∧ 0 ≤ f ∧ f ≤ 1048576
instance (n t f : Int) : Decidable (nwOk n t f) := by unfold nwOk; infer_instance
def nwS (n t f : Int) : D := if nwOk n t f then sf 0 t f (List.replicate n.toNat 0) else sf 0 0 0 []
def nwE (n t f : Int) : Int := if nwOk n t f then 0 else 2
theorem nw0 {n t f : Int} (h : ¬ nwOk n t f) : [sf 0 0 0 [], I64d 2] = [nwS n t f, I64d (nwE n t f)] := by unfold nwS nwE; rw [if_neg h, if_neg h]
theorem nw1 {n t f : Int} (h : nwOk n t f) : [D.rc [I64d 0, I64d t, I64d f, .lst (List.replicate n.toNat (I64d 0))], I64d 0] = [nwS n t f, I64d (nwE n t f)] := by unfold nwS nwE; rw [if_pos h, if_pos h]; simp [sf]
theorem new_fn (n t f : Int) : Fun Try.prog [] 13 [tI, tI, tI] [I64d n, I64d t, I64d f] [tSf, tI] (.ok [nwS n t f, I64d (nwE n t f)]) := by
  refine new_ent _ _ ?_
  show vcnew.den _ _ _ _ _
  unfold vcnew
  (repeat' (first | (with_reducible refine den_ite (fun h => ?_) (fun h => ?_)) | with_reducible refine den_ev ?_ | with_reducible refine evs_nil ?_ | with_reducible refine evs_ob ?_ ?_ | with_reducible refine den_ret ?_))
  all_goals (try simp only [E.den, cmpB, arI, D.toI, D.toB, D.toL, D.len, D.mapL, D.cells, List.map_cons, List.map_nil, List.getD_cons_zero, List.getD_cons_succ, List.cons_append, List.nil_append, flatD, List.length_map, List.length_set, gt_iff_lt, ge_iff_le, beq_iff_eq, bne_iff_ne, ne_eq, decide_eq_true_eq, decide_eq_false_iff_not, Bool.not_eq_true, Bool.not_eq_false, beq_eq_false_iff_ne, Int.not_lt, Int.not_le, Decidable.not_not, Bool.false_eq_true, Bool.true_eq_false, bne_eq_false_iff_eq] at *)
  all_goals first | omega | (exact congrArg FR.ok (nw0 (by unfold nwOk; omega))) | (exact congrArg FR.ok (nw1 (by unfold nwOk; omega)))
theorem rnew_fn (n t f : Int) : Fun Try.prog [] 14 [tI, tI, tI] [I64d n, I64d t, I64d f] [tSf, tI] (.ok [nwS n t f, I64d (nwE n t f)]) := by
  refine rnew_ent _ _ ?_
  show vcrnew.den _ _ _ _ _
  unfold vcrnew
  refine den_cal [.bool _] rfl (inn_fn n 1 32) rfl rfl ?_
  (try simp only [List.cons_append, List.nil_append])
  refine den_ite (fun h => ?_) (fun h => den_ret ?_)
  rotate_left
  · (try simp only [E.den, cmpB, arI, D.toI, D.toB, D.toL, D.len, D.mapL, D.cells, List.map_cons, List.map_nil, List.getD_cons_zero, List.getD_cons_succ, List.cons_append, List.nil_append, flatD, List.length_map, List.length_set, gt_iff_lt, ge_iff_le, beq_iff_eq, bne_iff_ne, ne_eq, decide_eq_true_eq, decide_eq_false_iff_not, Bool.not_eq_true, Bool.not_eq_false, beq_eq_false_iff_ne, Int.not_lt, Int.not_le, Decidable.not_not, Bool.false_eq_true, Bool.true_eq_false, bne_eq_false_iff_eq] at *); exact congrArg FR.ok (nw0 (by unfold nwOk; omega))
  refine den_cal [.bool _] rfl (inn_fn t 0 10080) rfl rfl ?_
  (try simp only [List.cons_append, List.nil_append])
  refine den_ite (fun h => ?_) (fun h => den_ret ?_)
  rotate_left
  · (try simp only [E.den, cmpB, arI, D.toI, D.toB, D.toL, D.len, D.mapL, D.cells, List.map_cons, List.map_nil, List.getD_cons_zero, List.getD_cons_succ, List.cons_append, List.nil_append, flatD, List.length_map, List.length_set, gt_iff_lt, ge_iff_le, beq_iff_eq, bne_iff_ne, ne_eq, decide_eq_true_eq, decide_eq_false_iff_not, Bool.not_eq_true, Bool.not_eq_false, beq_eq_false_iff_ne, Int.not_lt, Int.not_le, Decidable.not_not, Bool.false_eq_true, Bool.true_eq_false, bne_eq_false_iff_eq] at *); exact congrArg FR.ok (nw0 (by unfold nwOk; omega))
  refine den_cal [.bool _] rfl (inn_fn f 0 1048576) rfl rfl ?_
  (try simp only [List.cons_append, List.nil_append])
  refine den_ite (fun h => ?_) (fun h => den_ret ?_)
  rotate_left
  · (try simp only [E.den, cmpB, arI, D.toI, D.toB, D.toL, D.len, D.mapL, D.cells, List.map_cons, List.map_nil, List.getD_cons_zero, List.getD_cons_succ, List.cons_append, List.nil_append, flatD, List.length_map, List.length_set, gt_iff_lt, ge_iff_le, beq_iff_eq, bne_iff_ne, ne_eq, decide_eq_true_eq, decide_eq_false_iff_not, Bool.not_eq_true, Bool.not_eq_false, beq_eq_false_iff_ne, Int.not_lt, Int.not_le, Decidable.not_not, Bool.false_eq_true, Bool.true_eq_false, bne_eq_false_iff_eq] at *); exact congrArg FR.ok (nw0 (by unfold nwOk; omega))
  (try simp only [E.den, cmpB, arI, D.toI, D.toB, D.toL, D.len, D.mapL, D.cells, List.map_cons, List.map_nil, List.getD_cons_zero, List.getD_cons_succ, List.cons_append, List.nil_append, flatD, List.length_map, List.length_set, gt_iff_lt, ge_iff_le, beq_iff_eq, bne_iff_ne, ne_eq, decide_eq_true_eq, decide_eq_false_iff_not, Bool.not_eq_true, Bool.not_eq_false, beq_eq_false_iff_ne, Int.not_lt, Int.not_le, Decidable.not_not, Bool.false_eq_true, Bool.true_eq_false, bne_eq_false_iff_eq] at *)
  refine den_ev (evs_ob (by (try simp only [E.den, cmpB, arI, D.toI, D.toB, D.toL, D.len, D.mapL, D.cells, List.map_cons, List.map_nil, List.getD_cons_zero, List.getD_cons_succ, List.cons_append, List.nil_append, flatD, List.length_map, List.length_set, gt_iff_lt, ge_iff_le, beq_iff_eq, bne_iff_ne, ne_eq, decide_eq_true_eq, decide_eq_false_iff_not, Bool.not_eq_true, Bool.not_eq_false, beq_eq_false_iff_ne, Int.not_lt, Int.not_le, Decidable.not_not, Bool.false_eq_true, Bool.true_eq_false, bne_eq_false_iff_eq] at *); omega) (evs_ob (by (try simp only [E.den, cmpB, arI, D.toI, D.toB, D.toL, D.len, D.mapL, D.cells, List.map_cons, List.map_nil, List.getD_cons_zero, List.getD_cons_succ, List.cons_append, List.nil_append, flatD, List.length_map, List.length_set, gt_iff_lt, ge_iff_le, beq_iff_eq, bne_iff_ne, ne_eq, decide_eq_true_eq, decide_eq_false_iff_not, Bool.not_eq_true, Bool.not_eq_false, beq_eq_false_iff_ne, Int.not_lt, Int.not_le, Decidable.not_not, Bool.false_eq_true, Bool.true_eq_false, bne_eq_false_iff_eq] at *); omega) (evs_nil (den_ret ?_))))
  (try simp only [E.den, cmpB, arI, D.toI, D.toB, D.toL, D.len, D.mapL, D.cells, List.map_cons, List.map_nil, List.getD_cons_zero, List.getD_cons_succ, List.cons_append, List.nil_append, flatD, List.length_map, List.length_set, gt_iff_lt, ge_iff_le, beq_iff_eq, bne_iff_ne, ne_eq, decide_eq_true_eq, decide_eq_false_iff_not, Bool.not_eq_true, Bool.not_eq_false, beq_eq_false_iff_ne, Int.not_lt, Int.not_le, Decidable.not_not, Bool.false_eq_true, Bool.true_eq_false, bne_eq_false_iff_eq] at *)
  exact congrArg FR.ok (nw1 (by unfold nwOk; omega))
def stS (n : Nat) (xs : List D) : Prop := ∃ (a : Bool) (i : Int), xs = [.bool a, I64d i] ∧ 0 ≤ i ∧ i ≤ n
theorem same_fn (c t f : Int) (L : List Int) (hL : L.length ≤ 4294967296) : Fun Try.prog [] 15 [tSf, tSf] [sf c t f L, sf c t f L] [tB] (.ok [.bool true]) := by
  refine same_ent _ _ ?_
  show vcsame.den _ _ _ _ _
  unfold vcsame
  simp only [sf]
  refine den_ite (fun h => ?_) (fun h => ?_)
  · exfalso; (try simp only [E.den, cmpB, arI, D.toI, D.toB, D.toL, D.len, D.mapL, D.cells, List.map_cons, List.map_nil, List.getD_cons_zero, List.getD_cons_succ, List.cons_append, List.nil_append, flatD, List.length_map, List.length_set, gt_iff_lt, ge_iff_le, beq_iff_eq, bne_iff_ne, ne_eq, decide_eq_true_eq, decide_eq_false_iff_not, Bool.not_eq_true, Bool.not_eq_false, beq_eq_false_iff_ne, Int.not_lt, Int.not_le, Decidable.not_not, Bool.false_eq_true, Bool.true_eq_false, bne_eq_false_iff_eq] at *); first | exact h rfl | exact h trivial | exact h
  refine den_ite (fun h => ?_) (fun h => ?_)
  · exfalso; (try simp only [E.den, cmpB, arI, D.toI, D.toB, D.toL, D.len, D.mapL, D.cells, List.map_cons, List.map_nil, List.getD_cons_zero, List.getD_cons_succ, List.cons_append, List.nil_append, flatD, List.length_map, List.length_set, gt_iff_lt, ge_iff_le, beq_iff_eq, bne_iff_ne, ne_eq, decide_eq_true_eq, decide_eq_false_iff_not, Bool.not_eq_true, Bool.not_eq_false, beq_eq_false_iff_ne, Int.not_lt, Int.not_le, Decidable.not_not, Bool.false_eq_true, Bool.true_eq_false, bne_eq_false_iff_eq] at *); first | exact h rfl | exact h trivial | exact h
  refine den_ite (fun h => ?_) (fun h => ?_)
  · exfalso; (try simp only [E.den, cmpB, arI, D.toI, D.toB, D.toL, D.len, D.mapL, D.cells, List.map_cons, List.map_nil, List.getD_cons_zero, List.getD_cons_succ, List.cons_append, List.nil_append, flatD, List.length_map, List.length_set, gt_iff_lt, ge_iff_le, beq_iff_eq, bne_iff_ne, ne_eq, decide_eq_true_eq, decide_eq_false_iff_not, Bool.not_eq_true, Bool.not_eq_false, beq_eq_false_iff_ne, Int.not_lt, Int.not_le, Decidable.not_not, Bool.false_eq_true, Bool.true_eq_false, bne_eq_false_iff_eq] at *); first | exact h rfl | exact h trivial | exact h
  refine den_ite (fun h => ?_) (fun h => ?_)
  · exfalso; (try simp only [E.den, cmpB, arI, D.toI, D.toB, D.toL, D.len, D.mapL, D.cells, List.map_cons, List.map_nil, List.getD_cons_zero, List.getD_cons_succ, List.cons_append, List.nil_append, flatD, List.length_map, List.length_set, gt_iff_lt, ge_iff_le, beq_iff_eq, bne_iff_ne, ne_eq, decide_eq_true_eq, decide_eq_false_iff_not, Bool.not_eq_true, Bool.not_eq_false, beq_eq_false_iff_ne, Int.not_lt, Int.not_le, Decidable.not_not, Bool.false_eq_true, Bool.true_eq_false, bne_eq_false_iff_eq] at *); first | exact h rfl | exact h trivial | exact h
  refine den_loop (stS L.length) (stVm L.length) ⟨false, 0, rfl, by omega, by omega⟩ ?_
  simp only [AllSh]
  intro a i _ _ ⟨a', i', he, hi0, hi1⟩
  simp only [List.cons.injEq, D.int.injEq, D.bool.injEq, true_and, and_true] at he
  obtain ⟨rfl, rfl⟩ := he
  (try simp only [List.cons_append, List.nil_append])
  refine den_ite (fun h => ?_) (fun h => den_ret ?_)
  · have hi2 : i < L.length := by (try simp only [E.den, cmpB, arI, D.toI, D.toB, D.toL, D.len, D.mapL, D.cells, List.map_cons, List.map_nil, List.getD_cons_zero, List.getD_cons_succ, List.cons_append, List.nil_append, flatD, List.length_map, List.length_set, gt_iff_lt, ge_iff_le, beq_iff_eq, bne_iff_ne, ne_eq, decide_eq_true_eq, decide_eq_false_iff_not, Bool.not_eq_true, Bool.not_eq_false, beq_eq_false_iff_ne, Int.not_lt, Int.not_le, Decidable.not_not, Bool.false_eq_true, Bool.true_eq_false, bne_eq_false_iff_eq] at *); exact h
    have hw : IntKind.wrap .i64 (i + 1) = i + 1 := wrap_i64 (by omega) (by omega)
    refine den_ev (evs_ob (by (try simp only [E.den, cmpB, arI, D.toI, D.toB, D.toL, D.len, D.mapL, D.cells, List.map_cons, List.map_nil, List.getD_cons_zero, List.getD_cons_succ, List.cons_append, List.nil_append, flatD, List.length_map, List.length_set, gt_iff_lt, ge_iff_le, beq_iff_eq, bne_iff_ne, ne_eq, decide_eq_true_eq, decide_eq_false_iff_not, Bool.not_eq_true, Bool.not_eq_false, beq_eq_false_iff_ne, Int.not_lt, Int.not_le, Decidable.not_not, Bool.false_eq_true, Bool.true_eq_false, bne_eq_false_iff_eq] at *); exact hi0) (evs_ob (by (try simp only [E.den, cmpB, arI, D.toI, D.toB, D.toL, D.len, D.mapL, D.cells, List.map_cons, List.map_nil, List.getD_cons_zero, List.getD_cons_succ, List.cons_append, List.nil_append, flatD, List.length_map, List.length_set, gt_iff_lt, ge_iff_le, beq_iff_eq, bne_iff_ne, ne_eq, decide_eq_true_eq, decide_eq_false_iff_not, Bool.not_eq_true, Bool.not_eq_false, beq_eq_false_iff_ne, Int.not_lt, Int.not_le, Decidable.not_not, Bool.false_eq_true, Bool.true_eq_false, bne_eq_false_iff_eq] at *); exact hi2) (evs_ob (by (try simp only [E.den, cmpB, arI, D.toI, D.toB, D.toL, D.len, D.mapL, D.cells, List.map_cons, List.map_nil, List.getD_cons_zero, List.getD_cons_succ, List.cons_append, List.nil_append, flatD, List.length_map, List.length_set, gt_iff_lt, ge_iff_le, beq_iff_eq, bne_iff_ne, ne_eq, decide_eq_true_eq, decide_eq_false_iff_not, Bool.not_eq_true, Bool.not_eq_false, beq_eq_false_iff_ne, Int.not_lt, Int.not_le, Decidable.not_not, Bool.false_eq_true, Bool.true_eq_false, bne_eq_false_iff_eq] at *); exact hi0) (evs_ob (by (try simp only [E.den, cmpB, arI, D.toI, D.toB, D.toL, D.len, D.mapL, D.cells, List.map_cons, List.map_nil, List.getD_cons_zero, List.getD_cons_succ, List.cons_append, List.nil_append, flatD, List.length_map, List.length_set, gt_iff_lt, ge_iff_le, beq_iff_eq, bne_iff_ne, ne_eq, decide_eq_true_eq, decide_eq_false_iff_not, Bool.not_eq_true, Bool.not_eq_false, beq_eq_false_iff_ne, Int.not_lt, Int.not_le, Decidable.not_not, Bool.false_eq_true, Bool.true_eq_false, bne_eq_false_iff_eq] at *); exact hi2) (evs_nil ?_)))))
    refine den_ite (fun h => ?_) (fun h => ?_)
    · exfalso; (try simp only [E.den, cmpB, arI, D.toI, D.toB, D.toL, D.len, D.mapL, D.cells, List.map_cons, List.map_nil, List.getD_cons_zero, List.getD_cons_succ, List.cons_append, List.nil_append, flatD, List.length_map, List.length_set, gt_iff_lt, ge_iff_le, beq_iff_eq, bne_iff_ne, ne_eq, decide_eq_true_eq, decide_eq_false_iff_not, Bool.not_eq_true, Bool.not_eq_false, beq_eq_false_iff_ne, Int.not_lt, Int.not_le, Decidable.not_not, Bool.false_eq_true, Bool.true_eq_false, bne_eq_false_iff_eq] at *); first | exact h rfl | exact h trivial | exact h
    refine den_back rfl ⟨a, i + 1, ?_, by omega, by omega⟩ ?_
    · (try simp only [E.den, cmpB, arI, D.toI, D.toB, D.toL, D.len, D.mapL, D.cells, List.map_cons, List.map_nil, List.getD_cons_zero, List.getD_cons_succ, List.cons_append, List.nil_append, flatD, List.length_map, List.length_set, gt_iff_lt, ge_iff_le, beq_iff_eq, bne_iff_ne, ne_eq, decide_eq_true_eq, decide_eq_false_iff_not, Bool.not_eq_true, Bool.not_eq_false, beq_eq_false_iff_ne, Int.not_lt, Int.not_le, Decidable.not_not, Bool.false_eq_true, Bool.true_eq_false, bne_eq_false_iff_eq] at *); simp [hw]
    · simp only [stVm]; (try simp only [E.den, cmpB, arI, D.toI, D.toB, D.toL, D.len, D.mapL, D.cells, List.map_cons, List.map_nil, List.getD_cons_zero, List.getD_cons_succ, List.cons_append, List.nil_append, flatD, List.length_map, List.length_set, gt_iff_lt, ge_iff_le, beq_iff_eq, bne_iff_ne, ne_eq, decide_eq_true_eq, decide_eq_false_iff_not, Bool.not_eq_true, Bool.not_eq_false, beq_eq_false_iff_ne, Int.not_lt, Int.not_le, Decidable.not_not, Bool.false_eq_true, Bool.true_eq_false, bne_eq_false_iff_eq] at *); simp [hw]; omega
  · (try simp only [E.den, cmpB, arI, D.toI, D.toB, D.toL, D.len, D.mapL, D.cells, List.map_cons, List.map_nil, List.getD_cons_zero, List.getD_cons_succ, List.cons_append, List.nil_append, flatD, List.length_map, List.length_set, gt_iff_lt, ge_iff_le, beq_iff_eq, bne_iff_ne, ne_eq, decide_eq_true_eq, decide_eq_false_iff_not, Bool.not_eq_true, Bool.not_eq_false, beq_eq_false_iff_ne, Int.not_lt, Int.not_le, Decidable.not_not, Bool.false_eq_true, Bool.true_eq_false, bne_eq_false_iff_eq] at *)
def ctOk (c t f : Int) (L : List Int) (now : Int) : Prop := okSf c t f L ∧ c ≤ now ∧ now ≤ 268435456
instance (c t f : Int) (L : List Int) (now : Int) : Decidable (ctOk c t f L now) := by unfold ctOk; infer_instance
def ctC (c t f : Int) (L : List Int) (now : Int) : Int := if ctOk c t f L now then now else c
def ctE (c t f : Int) (L : List Int) (now : Int) : Int := if okSf c t f L then (if c ≤ now ∧ now ≤ 268435456 then 0 else 2) else 1
theorem contact_fn (c t f : Int) (L : List Int) (now : Int) (hL : L.length ≤ 1000000) : Fun Try.prog [] 16 [tSf, tI] [sf c t f L, I64d now] [tSf, tI] (.ok [sf (ctC c t f L now) t f L, I64d (ctE c t f L now)]) := by
  refine contact_ent _ _ ?_
  show vccontact.den _ _ _ _ _
  unfold vccontact
  refine den_cal [.int .i64 _] rfl (valid_fn c t f L (by omega)) rfl rfl ?_
  simp only [sf]
  (try simp only [List.cons_append, List.nil_append])
  by_cases ho : okSf c t f L
  · have e : sfE c t f L = 0 := by unfold sfE; rw [if_pos ho]
    rw [e]
    refine den_ite (fun h => ?_) (fun h => ?_)
    · exfalso; (try simp only [E.den, cmpB, arI, D.toI, D.toB, D.toL, D.len, D.mapL, D.cells, List.map_cons, List.map_nil, List.getD_cons_zero, List.getD_cons_succ, List.cons_append, List.nil_append, flatD, List.length_map, List.length_set, gt_iff_lt, ge_iff_le, beq_iff_eq, bne_iff_ne, ne_eq, decide_eq_true_eq, decide_eq_false_iff_not, Bool.not_eq_true, Bool.not_eq_false, beq_eq_false_iff_ne, Int.not_lt, Int.not_le, Decidable.not_not, Bool.false_eq_true, Bool.true_eq_false, bne_eq_false_iff_eq] at *); first | exact h rfl | exact h trivial | exact h
    refine den_ite (fun h => den_ret ?_) (fun h => ?_)
    · (try simp only [E.den, cmpB, arI, D.toI, D.toB, D.toL, D.len, D.mapL, D.cells, List.map_cons, List.map_nil, List.getD_cons_zero, List.getD_cons_succ, List.cons_append, List.nil_append, flatD, List.length_map, List.length_set, gt_iff_lt, ge_iff_le, beq_iff_eq, bne_iff_ne, ne_eq, decide_eq_true_eq, decide_eq_false_iff_not, Bool.not_eq_true, Bool.not_eq_false, beq_eq_false_iff_ne, Int.not_lt, Int.not_le, Decidable.not_not, Bool.false_eq_true, Bool.true_eq_false, bne_eq_false_iff_eq] at *); simp [ctC, ctE, ctOk, ho]; (repeat' split) <;> (try simp) <;> omega
    refine den_ite (fun h => den_ret ?_) (fun h => ?_)
    · (try simp only [E.den, cmpB, arI, D.toI, D.toB, D.toL, D.len, D.mapL, D.cells, List.map_cons, List.map_nil, List.getD_cons_zero, List.getD_cons_succ, List.cons_append, List.nil_append, flatD, List.length_map, List.length_set, gt_iff_lt, ge_iff_le, beq_iff_eq, bne_iff_ne, ne_eq, decide_eq_true_eq, decide_eq_false_iff_not, Bool.not_eq_true, Bool.not_eq_false, beq_eq_false_iff_ne, Int.not_lt, Int.not_le, Decidable.not_not, Bool.false_eq_true, Bool.true_eq_false, bne_eq_false_iff_eq] at *); simp [ctC, ctE, ctOk, ho]; (repeat' split) <;> (try simp) <;> omega
    refine den_cal [.lst _] rfl (copy_fn L hL) rfl rfl (den_ret ?_)
    (try simp only [E.den, cmpB, arI, D.toI, D.toB, D.toL, D.len, D.mapL, D.cells, List.map_cons, List.map_nil, List.getD_cons_zero, List.getD_cons_succ, List.cons_append, List.nil_append, flatD, List.length_map, List.length_set, gt_iff_lt, ge_iff_le, beq_iff_eq, bne_iff_ne, ne_eq, decide_eq_true_eq, decide_eq_false_iff_not, Bool.not_eq_true, Bool.not_eq_false, beq_eq_false_iff_ne, Int.not_lt, Int.not_le, Decidable.not_not, Bool.false_eq_true, Bool.true_eq_false, bne_eq_false_iff_eq] at *); simp [ctC, ctE, ctOk, ho]; (repeat' split) <;> (try simp) <;> omega
  · have e : sfE c t f L = 1 := by unfold sfE; rw [if_neg ho]
    rw [e]
    refine den_ite (fun h => den_ret ?_) (fun h => ?_)
    · (try simp only [E.den, cmpB, arI, D.toI, D.toB, D.toL, D.len, D.mapL, D.cells, List.map_cons, List.map_nil, List.getD_cons_zero, List.getD_cons_succ, List.cons_append, List.nil_append, flatD, List.length_map, List.length_set, gt_iff_lt, ge_iff_le, beq_iff_eq, bne_iff_ne, ne_eq, decide_eq_true_eq, decide_eq_false_iff_not, Bool.not_eq_true, Bool.not_eq_false, beq_eq_false_iff_ne, Int.not_lt, Int.not_le, Decidable.not_not, Bool.false_eq_true, Bool.true_eq_false, bne_eq_false_iff_eq] at *); simp [ctC, ctE, ctOk, ho]
    · exfalso; (try simp only [E.den, cmpB, arI, D.toI, D.toB, D.toL, D.len, D.mapL, D.cells, List.map_cons, List.map_nil, List.getD_cons_zero, List.getD_cons_succ, List.cons_append, List.nil_append, flatD, List.length_map, List.length_set, gt_iff_lt, ge_iff_le, beq_iff_eq, bne_iff_ne, ne_eq, decide_eq_true_eq, decide_eq_false_iff_not, Bool.not_eq_true, Bool.not_eq_false, beq_eq_false_iff_ne, Int.not_lt, Int.not_le, Decidable.not_not, Bool.false_eq_true, Bool.true_eq_false, bne_eq_false_iff_eq] at *); omega
theorem rcontact_fn (c t f : Int) (L : List Int) (now : Int) (hL : L.length ≤ 1000000) : Fun Try.prog [] 17 [tSf, tI] [sf c t f L, I64d now] [tSf, tI] (.ok [sf (ctC c t f L now) t f L, I64d (ctE c t f L now)]) := by
  refine rcontact_ent _ _ ?_
  show vcrcontact.den _ _ _ _ _
  unfold vcrcontact
  refine den_cal [.int .i64 _] rfl (rvalid_fn c t f L (by omega)) rfl rfl ?_
  simp only [sf]
  (try simp only [List.cons_append, List.nil_append])
  by_cases ho : okSf c t f L
  · have e : sfE c t f L = 0 := by unfold sfE; rw [if_pos ho]
    rw [e]
    refine den_ite (fun h => ?_) (fun h => ?_)
    · exfalso; (try simp only [E.den, cmpB, arI, D.toI, D.toB, D.toL, D.len, D.mapL, D.cells, List.map_cons, List.map_nil, List.getD_cons_zero, List.getD_cons_succ, List.cons_append, List.nil_append, flatD, List.length_map, List.length_set, gt_iff_lt, ge_iff_le, beq_iff_eq, bne_iff_ne, ne_eq, decide_eq_true_eq, decide_eq_false_iff_not, Bool.not_eq_true, Bool.not_eq_false, beq_eq_false_iff_ne, Int.not_lt, Int.not_le, Decidable.not_not, Bool.false_eq_true, Bool.true_eq_false, bne_eq_false_iff_eq] at *); first | exact h rfl | exact h trivial | exact h
    refine den_cal [.bool _] rfl (inn_fn now c 268435456) rfl rfl ?_
    (try simp only [List.cons_append, List.nil_append])
    refine den_ite (fun h => den_ret ?_) (fun h => den_ret ?_)
    · (try simp only [E.den, cmpB, arI, D.toI, D.toB, D.toL, D.len, D.mapL, D.cells, List.map_cons, List.map_nil, List.getD_cons_zero, List.getD_cons_succ, List.cons_append, List.nil_append, flatD, List.length_map, List.length_set, gt_iff_lt, ge_iff_le, beq_iff_eq, bne_iff_ne, ne_eq, decide_eq_true_eq, decide_eq_false_iff_not, Bool.not_eq_true, Bool.not_eq_false, beq_eq_false_iff_ne, Int.not_lt, Int.not_le, Decidable.not_not, Bool.false_eq_true, Bool.true_eq_false, bne_eq_false_iff_eq] at *); simp [ctC, ctE, ctOk, ho]; (repeat' split) <;> (try simp) <;> omega
    · (try simp only [E.den, cmpB, arI, D.toI, D.toB, D.toL, D.len, D.mapL, D.cells, List.map_cons, List.map_nil, List.getD_cons_zero, List.getD_cons_succ, List.cons_append, List.nil_append, flatD, List.length_map, List.length_set, gt_iff_lt, ge_iff_le, beq_iff_eq, bne_iff_ne, ne_eq, decide_eq_true_eq, decide_eq_false_iff_not, Bool.not_eq_true, Bool.not_eq_false, beq_eq_false_iff_ne, Int.not_lt, Int.not_le, Decidable.not_not, Bool.false_eq_true, Bool.true_eq_false, bne_eq_false_iff_eq] at *); simp [ctC, ctE, ctOk, ho]; (repeat' split) <;> (try simp) <;> omega
  · have e : sfE c t f L = 1 := by unfold sfE; rw [if_neg ho]
    rw [e]
    refine den_ite (fun h => den_ret ?_) (fun h => ?_)
    · (try simp only [E.den, cmpB, arI, D.toI, D.toB, D.toL, D.len, D.mapL, D.cells, List.map_cons, List.map_nil, List.getD_cons_zero, List.getD_cons_succ, List.cons_append, List.nil_append, flatD, List.length_map, List.length_set, gt_iff_lt, ge_iff_le, beq_iff_eq, bne_iff_ne, ne_eq, decide_eq_true_eq, decide_eq_false_iff_not, Bool.not_eq_true, Bool.not_eq_false, beq_eq_false_iff_ne, Int.not_lt, Int.not_le, Decidable.not_not, Bool.false_eq_true, Bool.true_eq_false, bne_eq_false_iff_eq] at *); simp [ctC, ctE, ctOk, ho]
    · exfalso; (try simp only [E.den, cmpB, arI, D.toI, D.toB, D.toL, D.len, D.mapL, D.cells, List.map_cons, List.map_nil, List.getD_cons_zero, List.getD_cons_succ, List.cons_append, List.nil_append, flatD, List.length_map, List.length_set, gt_iff_lt, ge_iff_le, beq_iff_eq, bne_iff_ne, ne_eq, decide_eq_true_eq, decide_eq_false_iff_not, Bool.not_eq_true, Bool.not_eq_false, beq_eq_false_iff_ne, Int.not_lt, Int.not_le, Decidable.not_not, Bool.false_eq_true, Bool.true_eq_false, bne_eq_false_iff_eq] at *); omega
theorem elapsed_fn (a now n : Int) (h0 : 0 ≤ a) (h1 : a ≤ 268435456) (h2 : 0 ≤ n) (h3 : n ≤ 10080) (h4 : inI now) : Fun Try.prog [] 25 [tI, tI, tI] [I64d a, I64d now, I64d n] [tB] (.ok [.bool (decide (a + n ≤ now))]) := by
  refine elapsed_ent _ _ ?_
  show vcelapsed.den _ _ _ _ _
  unfold vcelapsed
  unfold inI at h4
  have u : ∀ x : Int, 0 ≤ x → x ≤ 9223372036854775807 → IntKind.wrap .u64 x = x := fun x hx hy => by simp [IntKind.wrap, IntKind.bits, IntKind.signed]; omega
  (repeat' (first | (with_reducible refine den_ite (fun h => ?_) (fun h => ?_)) | with_reducible refine den_ev ?_ | with_reducible refine evs_nil ?_ | with_reducible refine evs_ob ?_ ?_ | with_reducible refine den_ret ?_)) <;> (try simp only [E.den, cmpB, arI, D.toI, D.toB, D.toL, D.len, D.mapL, D.cells, List.map_cons, List.map_nil, List.getD_cons_zero, List.getD_cons_succ, List.cons_append, List.nil_append, flatD, List.length_map, List.length_set, gt_iff_lt, ge_iff_le, beq_iff_eq, bne_iff_ne, ne_eq, decide_eq_true_eq, decide_eq_false_iff_not, Bool.not_eq_true, Bool.not_eq_false, beq_eq_false_iff_ne, Int.not_lt, Int.not_le, Decidable.not_not, Bool.false_eq_true, Bool.true_eq_false, bne_eq_false_iff_eq] at *)
  · simp; omega
  · rw [u now (by omega) (by omega), u a (by omega) (by omega), u n (by omega) (by omega), u (now - a) (by omega) (by omega)]
    simp; omega
  · omega
  · simp; omega
theorem limit_fn (c t f : Int) (L : List Int) (now l : Int) (h : okSf c t f L) (h4 : inI now) : Fun Try.prog [] 18 [tSf, tI, tI] [sf c t f L, I64d now, I64d l] [tI] (.ok [I64d (if t ≠ 0 ∧ c + t ≤ now then min l f else l)]) := by
  refine limit_ent _ _ ?_
  show vclimit.den _ _ _ _ _
  unfold vclimit
  have ho := h
  unfold okSf at h
  refine den_ite (fun h1 => ?_) (fun h1 => den_ret ?_)
  · refine den_cal [.bool _] rfl (elapsed_fn c now t (by omega) (by omega) (by omega) (by omega) h4) rfl rfl ?_
    simp only [sf] at *
    (try simp only [List.cons_append, List.nil_append])
    refine den_ite (fun h2 => den_ret ?_) (fun h2 => den_ret ?_)
    · have e : (if t ≠ 0 ∧ c + t ≤ now then min l f else l) = (if f < l then f else l) := by
        (try simp only [E.den, cmpB, arI, D.toI, D.toB, D.toL, D.len, D.mapL, D.cells, List.map_cons, List.map_nil, List.getD_cons_zero, List.getD_cons_succ, List.cons_append, List.nil_append, flatD, List.length_map, List.length_set, gt_iff_lt, ge_iff_le, beq_iff_eq, bne_iff_ne, ne_eq, decide_eq_true_eq, decide_eq_false_iff_not, Bool.not_eq_true, Bool.not_eq_false, beq_eq_false_iff_ne, Int.not_lt, Int.not_le, Decidable.not_not, Bool.false_eq_true, Bool.true_eq_false, bne_eq_false_iff_eq] at *); rw [if_pos ⟨h1, h2⟩]; split <;> omega
      (try simp only [E.den, cmpB, arI, D.toI, D.toB, D.toL, D.len, D.mapL, D.cells, List.map_cons, List.map_nil, List.getD_cons_zero, List.getD_cons_succ, List.cons_append, List.nil_append, flatD, List.length_map, List.length_set, gt_iff_lt, ge_iff_le, beq_iff_eq, bne_iff_ne, ne_eq, decide_eq_true_eq, decide_eq_false_iff_not, Bool.not_eq_true, Bool.not_eq_false, beq_eq_false_iff_ne, Int.not_lt, Int.not_le, Decidable.not_not, Bool.false_eq_true, Bool.true_eq_false, bne_eq_false_iff_eq] at *); rw [e]
    · (try simp only [E.den, cmpB, arI, D.toI, D.toB, D.toL, D.len, D.mapL, D.cells, List.map_cons, List.map_nil, List.getD_cons_zero, List.getD_cons_succ, List.cons_append, List.nil_append, flatD, List.length_map, List.length_set, gt_iff_lt, ge_iff_le, beq_iff_eq, bne_iff_ne, ne_eq, decide_eq_true_eq, decide_eq_false_iff_not, Bool.not_eq_true, Bool.not_eq_false, beq_eq_false_iff_ne, Int.not_lt, Int.not_le, Decidable.not_not, Bool.false_eq_true, Bool.true_eq_false, bne_eq_false_iff_eq] at *); rw [if_neg (by omega)]
  · simp only [sf] at *; (try simp only [E.den, cmpB, arI, D.toI, D.toB, D.toL, D.len, D.mapL, D.cells, List.map_cons, List.map_nil, List.getD_cons_zero, List.getD_cons_succ, List.cons_append, List.nil_append, flatD, List.length_map, List.length_set, gt_iff_lt, ge_iff_le, beq_iff_eq, bne_iff_ne, ne_eq, decide_eq_true_eq, decide_eq_false_iff_not, Bool.not_eq_true, Bool.not_eq_false, beq_eq_false_iff_ne, Int.not_lt, Int.not_le, Decidable.not_not, Bool.false_eq_true, Bool.true_eq_false, bne_eq_false_iff_eq] at *); rw [if_neg (by omega)]
end Go.Proofs.Ytggmgfkefbfhpaa
