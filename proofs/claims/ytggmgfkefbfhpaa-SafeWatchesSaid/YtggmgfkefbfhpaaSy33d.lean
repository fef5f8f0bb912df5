/-
  Watch: what it answers.
-/
import Derived.Test.YtggmgfkefbfhpaaSy33c
set_option maxRecDepth 100000
set_option linter.unusedSimpArgs false
set_option linter.unusedVariables false
namespace Go.Proofs.Ytggmgfkefbfhpaa
open Go.Proofs.Ytggmgfkefbfhpaa.Sy Go.RowKit Go.WideShapes Go.ChangeShapes Go.ChangeAt
def wThr (l : Int) : Int := IntKind.wrap .i64 (IntKind.wrap .i64 (l + IntKind.wrap .i64 (l.tdiv 10)) + 100)
def wOk (c t f : Int) (L : List Int) (k m l : Int) : Prop := okSf c t f L ∧ 1 ≤ k ∧ k ≤ L.length ∧ 0 ≤ m ∧ m ≤ 1073741824 ∧ 0 ≤ l ∧ l ≤ 1073741824
instance (c t f : Int) (L : List Int) (k m l : Int) : Decidable (wOk c t f L k m l) := by unfold wOk; infer_instance
def wN (L : List Int) (k m l : Int) : Int := if m ≤ wThr l then 0 else if L.getD (k - 1).toNat 0 + 1 ≤ 2 then L.getD (k - 1).toNat 0 + 1 else 0
def wL (c t f : Int) (L : List Int) (k m l : Int) : List Int := if wOk c t f L k m l then L.set (k - 1).toNat (wN L k m l) else L
def wB (c t f : Int) (L : List Int) (k m l : Int) : Bool := decide (wOk c t f L k m l ∧ ¬ m ≤ wThr l ∧ ¬ L.getD (k - 1).toNat 0 + 1 ≤ 2)
section
variable {c t f : Int} {L : List Int} {k m l : Int}
def wR (c t f : Int) (L : List Int) (k m l : Int) : FR := .ok [sf c t f (wL c t f L k m l), .bool (wB c t f L k m l)]
theorem w0 (h : ¬ wOk c t f L k m l) : FR.ok [.rc [I64d c, I64d t, I64d f, .lst (L.map I64d)], .bool false] = wR c t f L k m l := by
  unfold wR wL wB
  rw [if_neg h]
  simp [sf, h]
theorem w1 (h : wOk c t f L k m l) (h1 : m ≤ wThr l) : FR.ok [.rc [I64d c, I64d t, I64d f, .lst ((L.map I64d).set (k - 1).toNat (I64d 0))], .bool false] = wR c t f L k m l := by
  unfold wR wL wB wN
  rw [if_pos h, if_pos h1, set_map]
  simp [sf, h1]
theorem w2 (h : wOk c t f L k m l) (h1 : ¬ m ≤ wThr l) (h2 : L.getD (k - 1).toNat 0 + 1 ≤ 2) : FR.ok [.rc [I64d c, I64d t, I64d f, .lst ((L.map I64d).set (k - 1).toNat (I64d (L.getD (k - 1).toNat 0 + 1)))], .bool false] = wR c t f L k m l := by
  unfold wR wL wB wN
  rw [if_pos h, if_neg h1, if_pos h2, set_map]
  have : decide (wOk c t f L k m l ∧ ¬ m ≤ wThr l ∧ ¬ L.getD (k - 1).toNat 0 + 1 ≤ 2) = false := decide_eq_false fun h => h.2.2 h2
  rw [this]
  rfl
theorem w3 (h : wOk c t f L k m l) (h1 : ¬ m ≤ wThr l) (h2 : ¬ L.getD (k - 1).toNat 0 + 1 ≤ 2) : FR.ok [.rc [I64d c, I64d t, I64d f, .lst ((L.map I64d).set (k - 1).toNat (I64d 0))], .bool true] = wR c t f L k m l := by
  unfold wR wL wB wN
  rw [if_pos h, if_neg h1, if_neg h2, set_map]
  have : decide (wOk c t f L k m l ∧ ¬ m ≤ wThr l ∧ ¬ L.getD (k - 1).toNat 0 + 1 ≤ 2) = true := decide_eq_true ⟨h, h1, h2⟩
  rw [this]
  rfl
end
theorem getset {L : List Int} {i : Int} (h0 : 0 ≤ i) (h1 : i < L.length) (x : D) : ((L.map I64d).set i.toNat x).getD i.toNat default = x := by
  have hl : i.toNat < L.length := by omega
  simp [List.getD_eq_getElem?_getD, hl]
theorem watch_fn (c t f : Int) (L : List Int) (k m l : Int) (hL : L.length ≤ 1000000) : Fun Try.prog [] 20 [tSf, tI, tI, tI] [sf c t f L, I64d k, I64d m, I64d l] [tSf, tB] (wR c t f L k m l) := by
  refine watch_ent _ _ ?_
  show vcwatch.den _ _ _ _ _
  unfold vcwatch
  refine den_cal [.int .i64 _] rfl (valid_fn c t f L (by omega)) rfl rfl ?_
  simp only [sf]
  (try simp only [List.cons_append, List.nil_append])
  by_cases ho : okSf c t f L
  · have e : sfE c t f L = 0 := by unfold sfE; rw [if_pos ho]
    rw [e]
    refine den_ite (fun h => ?_) (fun h => ?_)
    · exfalso; (try simp only [E.den, cmpB, arI, D.toI, D.toB, D.toL, D.len, D.mapL, D.cells, List.map_cons, List.map_nil, List.getD_cons_zero, List.getD_cons_succ, List.cons_append, List.nil_append, flatD, List.length_map, List.length_set, gt_iff_lt, ge_iff_le, beq_iff_eq, bne_iff_ne, ne_eq, decide_eq_true_eq, decide_eq_false_iff_not, Bool.not_eq_true, Bool.not_eq_false, beq_eq_false_iff_ne, Int.not_lt, Int.not_le, Decidable.not_not, Bool.false_eq_true, Bool.true_eq_false, bne_eq_false_iff_eq] at *); first | exact h rfl | exact h trivial | exact h
    clear h
    refine den_ite (fun h1 => den_ret ?_) (fun h1 => ?_)
    · (try simp only [E.den, cmpB, arI, D.toI, D.toB, D.toL, D.len, D.mapL, D.cells, List.map_cons, List.map_nil, List.getD_cons_zero, List.getD_cons_succ, List.cons_append, List.nil_append, flatD, List.length_map, List.length_set, gt_iff_lt, ge_iff_le, beq_iff_eq, bne_iff_ne, ne_eq, decide_eq_true_eq, decide_eq_false_iff_not, Bool.not_eq_true, Bool.not_eq_false, beq_eq_false_iff_ne, Int.not_lt, Int.not_le, Decidable.not_not, Bool.false_eq_true, Bool.true_eq_false, bne_eq_false_iff_eq] at *); exact w0 (by rintro ⟨_, hh⟩; omega)
    refine den_ite (fun h2 => den_ret ?_) (fun h2 => ?_)
    · (try simp only [E.den, cmpB, arI, D.toI, D.toB, D.toL, D.len, D.mapL, D.cells, List.map_cons, List.map_nil, List.getD_cons_zero, List.getD_cons_succ, List.cons_append, List.nil_append, flatD, List.length_map, List.length_set, gt_iff_lt, ge_iff_le, beq_iff_eq, bne_iff_ne, ne_eq, decide_eq_true_eq, decide_eq_false_iff_not, Bool.not_eq_true, Bool.not_eq_false, beq_eq_false_iff_ne, Int.not_lt, Int.not_le, Decidable.not_not, Bool.false_eq_true, Bool.true_eq_false, bne_eq_false_iff_eq] at *); exact w0 (by rintro ⟨_, hh⟩; omega)
    refine den_ite (fun h3 => den_ret ?_) (fun h3 => ?_)
    · (try simp only [E.den, cmpB, arI, D.toI, D.toB, D.toL, D.len, D.mapL, D.cells, List.map_cons, List.map_nil, List.getD_cons_zero, List.getD_cons_succ, List.cons_append, List.nil_append, flatD, List.length_map, List.length_set, gt_iff_lt, ge_iff_le, beq_iff_eq, bne_iff_ne, ne_eq, decide_eq_true_eq, decide_eq_false_iff_not, Bool.not_eq_true, Bool.not_eq_false, beq_eq_false_iff_ne, Int.not_lt, Int.not_le, Decidable.not_not, Bool.false_eq_true, Bool.true_eq_false, bne_eq_false_iff_eq] at *); exact w0 (by rintro ⟨_, hh⟩; omega)
    refine den_ite (fun h4 => den_ret ?_) (fun h4 => ?_)
    · (try simp only [E.den, cmpB, arI, D.toI, D.toB, D.toL, D.len, D.mapL, D.cells, List.map_cons, List.map_nil, List.getD_cons_zero, List.getD_cons_succ, List.cons_append, List.nil_append, flatD, List.length_map, List.length_set, gt_iff_lt, ge_iff_le, beq_iff_eq, bne_iff_ne, ne_eq, decide_eq_true_eq, decide_eq_false_iff_not, Bool.not_eq_true, Bool.not_eq_false, beq_eq_false_iff_ne, Int.not_lt, Int.not_le, Decidable.not_not, Bool.false_eq_true, Bool.true_eq_false, bne_eq_false_iff_eq] at *); exact w0 (by rintro ⟨_, hh⟩; omega)
    refine den_ite (fun h5 => den_ret ?_) (fun h5 => ?_)
    · (try simp only [E.den, cmpB, arI, D.toI, D.toB, D.toL, D.len, D.mapL, D.cells, List.map_cons, List.map_nil, List.getD_cons_zero, List.getD_cons_succ, List.cons_append, List.nil_append, flatD, List.length_map, List.length_set, gt_iff_lt, ge_iff_le, beq_iff_eq, bne_iff_ne, ne_eq, decide_eq_true_eq, decide_eq_false_iff_not, Bool.not_eq_true, Bool.not_eq_false, beq_eq_false_iff_ne, Int.not_lt, Int.not_le, Decidable.not_not, Bool.false_eq_true, Bool.true_eq_false, bne_eq_false_iff_eq] at *); exact w0 (by rintro ⟨_, hh⟩; omega)
    refine den_ite (fun h6 => den_ret ?_) (fun h6 => ?_)
    · (try simp only [E.den, cmpB, arI, D.toI, D.toB, D.toL, D.len, D.mapL, D.cells, List.map_cons, List.map_nil, List.getD_cons_zero, List.getD_cons_succ, List.cons_append, List.nil_append, flatD, List.length_map, List.length_set, gt_iff_lt, ge_iff_le, beq_iff_eq, bne_iff_ne, ne_eq, decide_eq_true_eq, decide_eq_false_iff_not, Bool.not_eq_true, Bool.not_eq_false, beq_eq_false_iff_ne, Int.not_lt, Int.not_le, Decidable.not_not, Bool.false_eq_true, Bool.true_eq_false, bne_eq_false_iff_eq] at *); exact w0 (by rintro ⟨_, hh⟩; omega)
    refine den_cal [.lst _] rfl (copy_fn L hL) rfl rfl ?_
    (try simp only [E.den, cmpB, arI, D.toI, D.toB, D.toL, D.len, D.mapL, D.cells, List.map_cons, List.map_nil, List.getD_cons_zero, List.getD_cons_succ, List.cons_append, List.nil_append, flatD, List.length_map, List.length_set, gt_iff_lt, ge_iff_le, beq_iff_eq, bne_iff_ne, ne_eq, decide_eq_true_eq, decide_eq_false_iff_not, Bool.not_eq_true, Bool.not_eq_false, beq_eq_false_iff_ne, Int.not_lt, Int.not_le, Decidable.not_not, Bool.false_eq_true, Bool.true_eq_false, bne_eq_false_iff_eq] at *)
    have hO : wOk c t f L k m l := ⟨ho, by omega, by omega, by omega, by omega, by omega, by omega⟩

    have hi0 : 0 ≤ k - 1 := by omega
    have hi1 : k - 1 < L.length := by omega
    have hk : IntKind.wrap .i64 (k - 1) = k - 1 := wrap_i64 (by omega) (by omega)
    have hg : (L.map I64d).getD (k - 1).toNat default = I64d (L.getD (k - 1).toNat 0) := get_I hi0 hi1
    have hm := ho.2.2.2.2.2.2.2.2 _ (get_mem hi0 hi1)
    have hs : ∀ x : D, ((L.map I64d).set (k - 1).toNat x).getD (k - 1).toNat default = x := fun x => getset hi0 hi1 x
    have hss : ∀ x y : D, ((L.map I64d).set (k - 1).toNat x).set (k - 1).toNat y = (L.map I64d).set (k - 1).toNat y := fun x y => List.set_set ..
    have hz : IntKind.wrap .i64 (L.getD (k - 1).toNat 0 + 1) = L.getD (k - 1).toNat 0 + 1 := wrap_i64 (by omega) (by omega)
    have hq : IntKind.wrap .i64 (IntKind.wrap .i64 (l + IntKind.wrap .i64 (l.tdiv 10)) + 100) = wThr l := rfl
    refine den_ite (fun h => ?_) (fun h => ?_)
    · (try simp only [E.den, cmpB, arI, D.toI, D.toB, D.toL, D.len, D.mapL, D.cells, List.map_cons, List.map_nil, List.getD_cons_zero, List.getD_cons_succ, List.cons_append, List.nil_append, flatD, List.length_map, List.length_set, gt_iff_lt, ge_iff_le, beq_iff_eq, bne_iff_ne, ne_eq, decide_eq_true_eq, decide_eq_false_iff_not, Bool.not_eq_true, Bool.not_eq_false, beq_eq_false_iff_ne, Int.not_lt, Int.not_le, Decidable.not_not, Bool.false_eq_true, Bool.true_eq_false, bne_eq_false_iff_eq] at *)
      simp only [hq] at h
      refine den_ev (evs_ob ?_ (evs_ob ?_ (evs_nil (den_ev (evs_ob ?_ (evs_nil (den_ret ?_)))))))
      · (try simp only [E.den, cmpB, arI, D.toI, D.toB, D.toL, D.len, D.mapL, D.cells, List.map_cons, List.map_nil, List.getD_cons_zero, List.getD_cons_succ, List.cons_append, List.nil_append, flatD, List.length_map, List.length_set, gt_iff_lt, ge_iff_le, beq_iff_eq, bne_iff_ne, ne_eq, decide_eq_true_eq, decide_eq_false_iff_not, Bool.not_eq_true, Bool.not_eq_false, beq_eq_false_iff_ne, Int.not_lt, Int.not_le, Decidable.not_not, Bool.false_eq_true, Bool.true_eq_false, bne_eq_false_iff_eq]); simp only [hk]; exact hi0
      · (try simp only [E.den, cmpB, arI, D.toI, D.toB, D.toL, D.len, D.mapL, D.cells, List.map_cons, List.map_nil, List.getD_cons_zero, List.getD_cons_succ, List.cons_append, List.nil_append, flatD, List.length_map, List.length_set, gt_iff_lt, ge_iff_le, beq_iff_eq, bne_iff_ne, ne_eq, decide_eq_true_eq, decide_eq_false_iff_not, Bool.not_eq_true, Bool.not_eq_false, beq_eq_false_iff_ne, Int.not_lt, Int.not_le, Decidable.not_not, Bool.false_eq_true, Bool.true_eq_false, bne_eq_false_iff_eq]); simp only [hk]; exact hi1
      · (try simp only [E.den, cmpB, arI, D.toI, D.toB, D.toL, D.len, D.mapL, D.cells, List.map_cons, List.map_nil, List.getD_cons_zero, List.getD_cons_succ, List.cons_append, List.nil_append, flatD, List.length_map, List.length_set, gt_iff_lt, ge_iff_le, beq_iff_eq, bne_iff_ne, ne_eq, decide_eq_true_eq, decide_eq_false_iff_not, Bool.not_eq_true, Bool.not_eq_false, beq_eq_false_iff_ne, Int.not_lt, Int.not_le, Decidable.not_not, Bool.false_eq_true, Bool.true_eq_false, bne_eq_false_iff_eq]); simp only [hk]; exact hi1
      · (try simp only [E.den, cmpB, arI, D.toI, D.toB, D.toL, D.len, D.mapL, D.cells, List.map_cons, List.map_nil, List.getD_cons_zero, List.getD_cons_succ, List.cons_append, List.nil_append, flatD, List.length_map, List.length_set, gt_iff_lt, ge_iff_le, beq_iff_eq, bne_iff_ne, ne_eq, decide_eq_true_eq, decide_eq_false_iff_not, Bool.not_eq_true, Bool.not_eq_false, beq_eq_false_iff_ne, Int.not_lt, Int.not_le, Decidable.not_not, Bool.false_eq_true, Bool.true_eq_false, bne_eq_false_iff_eq]); simp only [hk]; exact w1 hO h
    · (try simp only [E.den, cmpB, arI, D.toI, D.toB, D.toL, D.len, D.mapL, D.cells, List.map_cons, List.map_nil, List.getD_cons_zero, List.getD_cons_succ, List.cons_append, List.nil_append, flatD, List.length_map, List.length_set, gt_iff_lt, ge_iff_le, beq_iff_eq, bne_iff_ne, ne_eq, decide_eq_true_eq, decide_eq_false_iff_not, Bool.not_eq_true, Bool.not_eq_false, beq_eq_false_iff_ne, Int.not_lt, Int.not_le, Decidable.not_not, Bool.false_eq_true, Bool.true_eq_false, bne_eq_false_iff_eq] at *)
      simp only [hq] at h
      (repeat' (first | (with_reducible refine den_ite (fun h => ?_) (fun h => ?_)) | with_reducible refine den_ev ?_ | with_reducible refine evs_nil ?_ | with_reducible refine evs_ob ?_ ?_ | with_reducible refine den_ret ?_))
      all_goals try (try simp only [E.den, cmpB, arI, D.toI, D.toB, D.toL, D.len, D.mapL, D.cells, List.map_cons, List.map_nil, List.getD_cons_zero, List.getD_cons_succ, List.cons_append, List.nil_append, flatD, List.length_map, List.length_set, gt_iff_lt, ge_iff_le, beq_iff_eq, bne_iff_ne, ne_eq, decide_eq_true_eq, decide_eq_false_iff_not, Bool.not_eq_true, Bool.not_eq_false, beq_eq_false_iff_ne, Int.not_lt, Int.not_le, Decidable.not_not, Bool.false_eq_true, Bool.true_eq_false, bne_eq_false_iff_eq])
      all_goals try simp only [hk, hg, hs, hss, hz]
      all_goals first | exact hi0 | exact hi1 | skip
      · have h7 := h; (try simp only [E.den, cmpB, arI, D.toI, D.toB, D.toL, D.len, D.mapL, D.cells, List.map_cons, List.map_nil, List.getD_cons_zero, List.getD_cons_succ, List.cons_append, List.nil_append, flatD, List.length_map, List.length_set, gt_iff_lt, ge_iff_le, beq_iff_eq, bne_iff_ne, ne_eq, decide_eq_true_eq, decide_eq_false_iff_not, Bool.not_eq_true, Bool.not_eq_false, beq_eq_false_iff_ne, Int.not_lt, Int.not_le, Decidable.not_not, Bool.false_eq_true, Bool.true_eq_false, bne_eq_false_iff_eq] at *); simp only [hk, hg, hs, hss, hz] at h7; (try simp only [E.den, cmpB, arI, D.toI, D.toB, D.toL, D.len, D.mapL, D.cells, List.map_cons, List.map_nil, List.getD_cons_zero, List.getD_cons_succ, List.cons_append, List.nil_append, flatD, List.length_map, List.length_set, gt_iff_lt, ge_iff_le, beq_iff_eq, bne_iff_ne, ne_eq, decide_eq_true_eq, decide_eq_false_iff_not, Bool.not_eq_true, Bool.not_eq_false, beq_eq_false_iff_ne, Int.not_lt, Int.not_le, Decidable.not_not, Bool.false_eq_true, Bool.true_eq_false, bne_eq_false_iff_eq] at *); exact w2 hO (by omega) h7
      · have h7 := h; (try simp only [E.den, cmpB, arI, D.toI, D.toB, D.toL, D.len, D.mapL, D.cells, List.map_cons, List.map_nil, List.getD_cons_zero, List.getD_cons_succ, List.cons_append, List.nil_append, flatD, List.length_map, List.length_set, gt_iff_lt, ge_iff_le, beq_iff_eq, bne_iff_ne, ne_eq, decide_eq_true_eq, decide_eq_false_iff_not, Bool.not_eq_true, Bool.not_eq_false, beq_eq_false_iff_ne, Int.not_lt, Int.not_le, Decidable.not_not, Bool.false_eq_true, Bool.true_eq_false, bne_eq_false_iff_eq] at *); simp only [hk, hg, hs, hss, hz] at h7; (try simp only [E.den, cmpB, arI, D.toI, D.toB, D.toL, D.len, D.mapL, D.cells, List.map_cons, List.map_nil, List.getD_cons_zero, List.getD_cons_succ, List.cons_append, List.nil_append, flatD, List.length_map, List.length_set, gt_iff_lt, ge_iff_le, beq_iff_eq, bne_iff_ne, ne_eq, decide_eq_true_eq, decide_eq_false_iff_not, Bool.not_eq_true, Bool.not_eq_false, beq_eq_false_iff_ne, Int.not_lt, Int.not_le, Decidable.not_not, Bool.false_eq_true, Bool.true_eq_false, bne_eq_false_iff_eq] at *); exact w3 hO (by omega) (by omega)
  · have e : sfE c t f L = 1 := by unfold sfE; rw [if_neg ho]
    rw [e]
    refine den_ite (fun h => den_ret ?_) (fun h => ?_)
    · (try simp only [E.den, cmpB, arI, D.toI, D.toB, D.toL, D.len, D.mapL, D.cells, List.map_cons, List.map_nil, List.getD_cons_zero, List.getD_cons_succ, List.cons_append, List.nil_append, flatD, List.length_map, List.length_set, gt_iff_lt, ge_iff_le, beq_iff_eq, bne_iff_ne, ne_eq, decide_eq_true_eq, decide_eq_false_iff_not, Bool.not_eq_true, Bool.not_eq_false, beq_eq_false_iff_ne, Int.not_lt, Int.not_le, Decidable.not_not, Bool.false_eq_true, Bool.true_eq_false, bne_eq_false_iff_eq] at *); exact w0 (fun hh => ho hh.1)
    · exfalso; (try simp only [E.den, cmpB, arI, D.toI, D.toB, D.toL, D.len, D.mapL, D.cells, List.map_cons, List.map_nil, List.getD_cons_zero, List.getD_cons_succ, List.cons_append, List.nil_append, flatD, List.length_map, List.length_set, gt_iff_lt, ge_iff_le, beq_iff_eq, bne_iff_ne, ne_eq, decide_eq_true_eq, decide_eq_false_iff_not, Bool.not_eq_true, Bool.not_eq_false, beq_eq_false_iff_ne, Int.not_lt, Int.not_le, Decidable.not_not, Bool.false_eq_true, Bool.true_eq_false, bne_eq_false_iff_eq] at *); omega
theorem rwatch_fn (c t f : Int) (L : List Int) (k m l : Int) (hL : L.length ≤ 1000000) : Fun Try.prog [] 21 [tSf, tI, tI, tI] [sf c t f L, I64d k, I64d m, I64d l] [tSf, tB] (wR c t f L k m l) := by
  refine rwatch_ent _ _ ?_
  show vcrwatch.den _ _ _ _ _
  unfold vcrwatch
  refine den_cal [.int .i64 _] rfl (rvalid_fn c t f L (by omega)) rfl rfl ?_
  simp only [sf]
  (try simp only [List.cons_append, List.nil_append])
  by_cases ho : okSf c t f L
  · have e : sfE c t f L = 0 := by unfold sfE; rw [if_pos ho]
    rw [e]
    refine den_ite (fun h => ?_) (fun h => ?_)
    · exfalso; (try simp only [E.den, cmpB, arI, D.toI, D.toB, D.toL, D.len, D.mapL, D.cells, List.map_cons, List.map_nil, List.getD_cons_zero, List.getD_cons_succ, List.cons_append, List.nil_append, flatD, List.length_map, List.length_set, gt_iff_lt, ge_iff_le, beq_iff_eq, bne_iff_ne, ne_eq, decide_eq_true_eq, decide_eq_false_iff_not, Bool.not_eq_true, Bool.not_eq_false, beq_eq_false_iff_ne, Int.not_lt, Int.not_le, Decidable.not_not, Bool.false_eq_true, Bool.true_eq_false, bne_eq_false_iff_eq] at *); first | exact h rfl | exact h trivial | exact h
    clear h
    refine den_cal [.bool _] rfl (inn_fn k 1 L.length) (by (try simp only [E.den, cmpB, arI, D.toI, D.toB, D.toL, D.len, D.mapL, D.cells, List.map_cons, List.map_nil, List.getD_cons_zero, List.getD_cons_succ, List.cons_append, List.nil_append, flatD, List.length_map, List.length_set, gt_iff_lt, ge_iff_le, beq_iff_eq, bne_iff_ne, ne_eq, decide_eq_true_eq, decide_eq_false_iff_not, Bool.not_eq_true, Bool.not_eq_false, beq_eq_false_iff_ne, Int.not_lt, Int.not_le, Decidable.not_not, Bool.false_eq_true, Bool.true_eq_false, bne_eq_false_iff_eq])) rfl ?_
    (try simp only [List.cons_append, List.nil_append])
    refine den_ite (fun h1 => ?_) (fun h1 => den_ret ?_)
    rotate_left
    · (try simp only [E.den, cmpB, arI, D.toI, D.toB, D.toL, D.len, D.mapL, D.cells, List.map_cons, List.map_nil, List.getD_cons_zero, List.getD_cons_succ, List.cons_append, List.nil_append, flatD, List.length_map, List.length_set, gt_iff_lt, ge_iff_le, beq_iff_eq, bne_iff_ne, ne_eq, decide_eq_true_eq, decide_eq_false_iff_not, Bool.not_eq_true, Bool.not_eq_false, beq_eq_false_iff_ne, Int.not_lt, Int.not_le, Decidable.not_not, Bool.false_eq_true, Bool.true_eq_false, bne_eq_false_iff_eq] at *); exact w0 (by rintro ⟨_, hh⟩; omega)
    refine den_cal [.bool _] rfl (inn_fn m 0 1073741824) rfl rfl ?_
    (try simp only [List.cons_append, List.nil_append])
    refine den_ite (fun h2 => ?_) (fun h2 => den_ret ?_)
    rotate_left
    · (try simp only [E.den, cmpB, arI, D.toI, D.toB, D.toL, D.len, D.mapL, D.cells, List.map_cons, List.map_nil, List.getD_cons_zero, List.getD_cons_succ, List.cons_append, List.nil_append, flatD, List.length_map, List.length_set, gt_iff_lt, ge_iff_le, beq_iff_eq, bne_iff_ne, ne_eq, decide_eq_true_eq, decide_eq_false_iff_not, Bool.not_eq_true, Bool.not_eq_false, beq_eq_false_iff_ne, Int.not_lt, Int.not_le, Decidable.not_not, Bool.false_eq_true, Bool.true_eq_false, bne_eq_false_iff_eq] at *); exact w0 (by rintro ⟨_, hh⟩; omega)
    refine den_cal [.bool _] rfl (inn_fn l 0 1073741824) rfl rfl ?_
    (try simp only [List.cons_append, List.nil_append])
    refine den_ite (fun h3 => ?_) (fun h3 => den_ret ?_)
    rotate_left
    · (try simp only [E.den, cmpB, arI, D.toI, D.toB, D.toL, D.len, D.mapL, D.cells, List.map_cons, List.map_nil, List.getD_cons_zero, List.getD_cons_succ, List.cons_append, List.nil_append, flatD, List.length_map, List.length_set, gt_iff_lt, ge_iff_le, beq_iff_eq, bne_iff_ne, ne_eq, decide_eq_true_eq, decide_eq_false_iff_not, Bool.not_eq_true, Bool.not_eq_false, beq_eq_false_iff_ne, Int.not_lt, Int.not_le, Decidable.not_not, Bool.false_eq_true, Bool.true_eq_false, bne_eq_false_iff_eq] at *); exact w0 (by rintro ⟨_, hh⟩; omega)
    (try simp only [E.den, cmpB, arI, D.toI, D.toB, D.toL, D.len, D.mapL, D.cells, List.map_cons, List.map_nil, List.getD_cons_zero, List.getD_cons_succ, List.cons_append, List.nil_append, flatD, List.length_map, List.length_set, gt_iff_lt, ge_iff_le, beq_iff_eq, bne_iff_ne, ne_eq, decide_eq_true_eq, decide_eq_false_iff_not, Bool.not_eq_true, Bool.not_eq_false, beq_eq_false_iff_ne, Int.not_lt, Int.not_le, Decidable.not_not, Bool.false_eq_true, Bool.true_eq_false, bne_eq_false_iff_eq] at *)
    have hO : wOk c t f L k m l := ⟨ho, by omega, by omega, by omega, by omega, by omega, by omega⟩

    have hi0 : 0 ≤ k - 1 := by omega
    have hi1 : k - 1 < L.length := by omega
    have hk : IntKind.wrap .i64 (k - 1) = k - 1 := wrap_i64 (by omega) (by omega)
    have hg : (L.map I64d).getD (k - 1).toNat default = I64d (L.getD (k - 1).toNat 0) := get_I hi0 hi1
    have hm := ho.2.2.2.2.2.2.2.2 _ (get_mem hi0 hi1)
    have hs : ∀ x : D, ((L.map I64d).set (k - 1).toNat x).getD (k - 1).toNat default = x := fun x => getset hi0 hi1 x
    have hss : ∀ x y : D, ((L.map I64d).set (k - 1).toNat x).set (k - 1).toNat y = (L.map I64d).set (k - 1).toNat y := fun x y => List.set_set ..
    have hz : IntKind.wrap .i64 (L.getD (k - 1).toNat 0 + 1) = L.getD (k - 1).toNat 0 + 1 := wrap_i64 (by omega) (by omega)
    have hq : IntKind.wrap .i64 (IntKind.wrap .i64 (l + IntKind.wrap .i64 (l.tdiv 10)) + 100) = wThr l := rfl
    have htm : (L.getD (k - 1).toNat 0 + 1).tmod 3 = if L.getD (k - 1).toNat 0 + 1 ≤ 2 then L.getD (k - 1).toNat 0 + 1 else 0 := by
      generalize L.getD (k - 1).toNat 0 = q at hm
      have : q = 0 ∨ q = 1 ∨ q = 2 := by omega
      rcases this with rfl | rfl | rfl <;> rfl
    refine den_ev (evs_ob (by (try simp only [E.den, cmpB, arI, D.toI, D.toB, D.toL, D.len, D.mapL, D.cells, List.map_cons, List.map_nil, List.getD_cons_zero, List.getD_cons_succ, List.cons_append, List.nil_append, flatD, List.length_map, List.length_set, gt_iff_lt, ge_iff_le, beq_iff_eq, bne_iff_ne, ne_eq, decide_eq_true_eq, decide_eq_false_iff_not, Bool.not_eq_true, Bool.not_eq_false, beq_eq_false_iff_ne, Int.not_lt, Int.not_le, Decidable.not_not, Bool.false_eq_true, Bool.true_eq_false, bne_eq_false_iff_eq]); omega) (evs_nil ?_))
    refine den_ite (fun h => ?_) (fun h => ?_)
    · (try simp only [E.den, cmpB, arI, D.toI, D.toB, D.toL, D.len, D.mapL, D.cells, List.map_cons, List.map_nil, List.getD_cons_zero, List.getD_cons_succ, List.cons_append, List.nil_append, flatD, List.length_map, List.length_set, gt_iff_lt, ge_iff_le, beq_iff_eq, bne_iff_ne, ne_eq, decide_eq_true_eq, decide_eq_false_iff_not, Bool.not_eq_true, Bool.not_eq_false, beq_eq_false_iff_ne, Int.not_lt, Int.not_le, Decidable.not_not, Bool.false_eq_true, Bool.true_eq_false, bne_eq_false_iff_eq] at *)
      simp only [hq] at h
      refine den_ev (evs_ob ?_ (evs_ob ?_ (evs_nil (den_ev (evs_ob ?_ (evs_nil (den_ret ?_)))))))
      · (try simp only [E.den, cmpB, arI, D.toI, D.toB, D.toL, D.len, D.mapL, D.cells, List.map_cons, List.map_nil, List.getD_cons_zero, List.getD_cons_succ, List.cons_append, List.nil_append, flatD, List.length_map, List.length_set, gt_iff_lt, ge_iff_le, beq_iff_eq, bne_iff_ne, ne_eq, decide_eq_true_eq, decide_eq_false_iff_not, Bool.not_eq_true, Bool.not_eq_false, beq_eq_false_iff_ne, Int.not_lt, Int.not_le, Decidable.not_not, Bool.false_eq_true, Bool.true_eq_false, bne_eq_false_iff_eq]); simp only [hk]; exact hi0
      · (try simp only [E.den, cmpB, arI, D.toI, D.toB, D.toL, D.len, D.mapL, D.cells, List.map_cons, List.map_nil, List.getD_cons_zero, List.getD_cons_succ, List.cons_append, List.nil_append, flatD, List.length_map, List.length_set, gt_iff_lt, ge_iff_le, beq_iff_eq, bne_iff_ne, ne_eq, decide_eq_true_eq, decide_eq_false_iff_not, Bool.not_eq_true, Bool.not_eq_false, beq_eq_false_iff_ne, Int.not_lt, Int.not_le, Decidable.not_not, Bool.false_eq_true, Bool.true_eq_false, bne_eq_false_iff_eq]); simp only [hk]; exact hi1
      · (try simp only [E.den, cmpB, arI, D.toI, D.toB, D.toL, D.len, D.mapL, D.cells, List.map_cons, List.map_nil, List.getD_cons_zero, List.getD_cons_succ, List.cons_append, List.nil_append, flatD, List.length_map, List.length_set, gt_iff_lt, ge_iff_le, beq_iff_eq, bne_iff_ne, ne_eq, decide_eq_true_eq, decide_eq_false_iff_not, Bool.not_eq_true, Bool.not_eq_false, beq_eq_false_iff_ne, Int.not_lt, Int.not_le, Decidable.not_not, Bool.false_eq_true, Bool.true_eq_false, bne_eq_false_iff_eq]); simp only [hk]; exact hi1
      · (try simp only [E.den, cmpB, arI, D.toI, D.toB, D.toL, D.len, D.mapL, D.cells, List.map_cons, List.map_nil, List.getD_cons_zero, List.getD_cons_succ, List.cons_append, List.nil_append, flatD, List.length_map, List.length_set, gt_iff_lt, ge_iff_le, beq_iff_eq, bne_iff_ne, ne_eq, decide_eq_true_eq, decide_eq_false_iff_not, Bool.not_eq_true, Bool.not_eq_false, beq_eq_false_iff_ne, Int.not_lt, Int.not_le, Decidable.not_not, Bool.false_eq_true, Bool.true_eq_false, bne_eq_false_iff_eq]); simp only [hk]; exact w1 hO h
    · (try simp only [E.den, cmpB, arI, D.toI, D.toB, D.toL, D.len, D.mapL, D.cells, List.map_cons, List.map_nil, List.getD_cons_zero, List.getD_cons_succ, List.cons_append, List.nil_append, flatD, List.length_map, List.length_set, gt_iff_lt, ge_iff_le, beq_iff_eq, bne_iff_ne, ne_eq, decide_eq_true_eq, decide_eq_false_iff_not, Bool.not_eq_true, Bool.not_eq_false, beq_eq_false_iff_ne, Int.not_lt, Int.not_le, Decidable.not_not, Bool.false_eq_true, Bool.true_eq_false, bne_eq_false_iff_eq] at *)
      simp only [hq] at h
      (repeat' (first | (with_reducible refine den_ite (fun h => ?_) (fun h => ?_)) | with_reducible refine den_ev ?_ | with_reducible refine evs_nil ?_ | with_reducible refine evs_ob ?_ ?_ | with_reducible refine den_ret ?_))
      all_goals try (try simp only [E.den, cmpB, arI, D.toI, D.toB, D.toL, D.len, D.mapL, D.cells, List.map_cons, List.map_nil, List.getD_cons_zero, List.getD_cons_succ, List.cons_append, List.nil_append, flatD, List.length_map, List.length_set, gt_iff_lt, ge_iff_le, beq_iff_eq, bne_iff_ne, ne_eq, decide_eq_true_eq, decide_eq_false_iff_not, Bool.not_eq_true, Bool.not_eq_false, beq_eq_false_iff_ne, Int.not_lt, Int.not_le, Decidable.not_not, Bool.false_eq_true, Bool.true_eq_false, bne_eq_false_iff_eq])
      all_goals try simp only [hk, hg, hs, hss, hz]
      all_goals first | exact hi0 | exact hi1 | skip
      rw [htm]
      by_cases h7 : L.getD (k - 1).toNat 0 + 1 ≤ 2
      · rw [if_pos h7]
        refine Eq.trans ?_ (w2 hO (by omega) h7)
        have : (L.getD (k - 1).toNat 0 + 1 == 0) = false := by rw [beq_eq_false_iff_ne]; omega
        rw [this]
      · rw [if_neg h7]
        exact w3 hO (by omega) h7
  · have e : sfE c t f L = 1 := by unfold sfE; rw [if_neg ho]
    rw [e]
    refine den_ite (fun h => den_ret ?_) (fun h => ?_)
    · (try simp only [E.den, cmpB, arI, D.toI, D.toB, D.toL, D.len, D.mapL, D.cells, List.map_cons, List.map_nil, List.getD_cons_zero, List.getD_cons_succ, List.cons_append, List.nil_append, flatD, List.length_map, List.length_set, gt_iff_lt, ge_iff_le, beq_iff_eq, bne_iff_ne, ne_eq, decide_eq_true_eq, decide_eq_false_iff_not, Bool.not_eq_true, Bool.not_eq_false, beq_eq_false_iff_ne, Int.not_lt, Int.not_le, Decidable.not_not, Bool.false_eq_true, Bool.true_eq_false, bne_eq_false_iff_eq] at *); exact w0 (fun hh => ho hh.1)
    · exfalso; (try simp only [E.den, cmpB, arI, D.toI, D.toB, D.toL, D.len, D.mapL, D.cells, List.map_cons, List.map_nil, List.getD_cons_zero, List.getD_cons_succ, List.cons_append, List.nil_append, flatD, List.length_map, List.length_set, gt_iff_lt, ge_iff_le, beq_iff_eq, bne_iff_ne, ne_eq, decide_eq_true_eq, decide_eq_false_iff_not, Bool.not_eq_true, Bool.not_eq_false, beq_eq_false_iff_ne, Int.not_lt, Int.not_le, Decidable.not_not, Bool.false_eq_true, Bool.true_eq_false, bne_eq_false_iff_eq] at *); omega
theorem wL_length (c t f : Int) (L : List Int) (k m l : Int) : (wL c t f L k m l).length = L.length := by
  unfold wL
  split <;> simp
theorem wN_le {c t f : Int} {L : List Int} {k m l : Int} (h : wOk c t f L k m l) : 0 ≤ wN L k m l ∧ wN L k m l ≤ 2 := by
  obtain ⟨ho, h1, h2, _⟩ := h
  have hm := ho.2.2.2.2.2.2.2.2 _ (get_mem (L := L) (i := k - 1) (by omega) (by omega))
  unfold wN
  (repeat' split) <;> omega
theorem wL_ok {c t f : Int} {L : List Int} {k m l : Int} (h : okSf c t f L) : okSf c t f (wL c t f L k m l) := by
  unfold wL
  split
  · rename_i hw
    have := wN_le hw
    obtain ⟨a1, a2, a3, a4, a5, a6, a7, a8, a9⟩ := h
    refine ⟨a1, a2, a3, a4, a5, a6, by simpa using a7, by simpa using a8, fun n hn => ?_⟩
    rcases List.mem_or_eq_of_mem_set hn with h | h
    · exact a9 n h
    · rw [h]; exact this
  · exact h
theorem wL_get {c t f : Int} {L : List Int} {k m l i : Int} (h0 : 0 ≤ i) (h1 : i < L.length) (hk : i ≠ k - 1) : (wL c t f L k m l).getD i.toNat 0 = L.getD i.toNat 0 := by
  unfold wL
  split
  · rename_i hw
    obtain ⟨_, h1, h2, _⟩ := hw
    have : (k - 1).toNat ≠ i.toNat := by omega
    rw [List.getD_eq_getElem?_getD, List.getElem?_set_ne this, ← List.getD_eq_getElem?_getD]
  · rfl
end Go.Proofs.Ytggmgfkefbfhpaa
