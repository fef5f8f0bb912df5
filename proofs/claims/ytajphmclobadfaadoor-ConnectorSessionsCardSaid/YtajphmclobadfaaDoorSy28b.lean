/-
  The functions of layer 28: what they answer.
-/
import Derived.Test.YtajphmclobadfaaDoorSy28a
set_option maxRecDepth 100000
set_option linter.unusedSimpArgs false
set_option linter.unusedVariables false
namespace Go.Proofs.YtajphmclobadfaaDoor
open Go.Proofs.YtajphmclobadfaaDoor.Sy Go.RowKit Go.WideShapes Go.ChangeShapes Go.ChangeAt
abbrev tCn : TS := .g [.int .i64, .bool, .bool, .bool, .int .i64]
structure Cn where
  s : Int
  p : Bool
  r : Bool
  d : Bool
  n : Int
def cnD (c : Cn) : D := .rc [I64d c.s, .bool c.p, .bool c.r, .bool c.d, I64d c.n]
def ssB (s : Int) : Bool := s == 3 || (s == 4 || s == 5)
def bsI (c : Cn) : Int := if c.n ≠ 0 then 7 else if c.d then 8 else if c.p then 2 else if c.r then 6 else 1
def cvI (c : Cn) : Int := if c.n < 0 ∨ 1000 < c.n then 1 else if ssB c.s then (if c.p = true ∧ c.r = false ∧ c.n = 0 then 0 else 1) else if c.s = bsI c then 0 else 1
def pmB (c : Cn) (i : Int) : Bool := if i = 1 then !c.p else if i = 2 then c.p else if i = 3 then c.s == 2 else if i = 4 then (c.s == 3 || c.s == 4) else if i = 5 then c.s == 3 else if i = 6 then c.s == 4 else if i = 7 then c.n == 0 else if i = 8 then c.n != 0 else if i = 9 then c.s == 1 else if i = 10 then c.r else if i = 11 then !c.d else c.d
def reb (c : Cn) : Cn := ⟨bsI c, c.p, c.r, c.d, c.n⟩
def afC (c : Cn) (i : Int) : Cn := if i = 3 then ⟨3, c.p, false, c.d, c.n⟩ else if i = 4 then ⟨5, c.p, c.r, c.d, c.n⟩ else if i = 5 then ⟨4, c.p, c.r, c.d, c.n⟩ else if i = 6 then ⟨3, c.p, c.r, c.d, c.n⟩ else if i = 11 ∨ i = 12 then (if ssB c.s then ⟨c.s, c.p, c.r, i == 11, c.n⟩ else reb ⟨c.s, c.p, c.r, i == 11, c.n⟩) else if i = 1 ∨ i = 2 then reb ⟨c.s, i == 1, c.r, c.d, c.n⟩ else if i = 7 then reb ⟨c.s, c.p, c.r, c.d, 1⟩ else if i = 8 then reb ⟨c.s, c.p, c.r, c.d, 0⟩ else if i = 9 ∨ i = 10 then reb ⟨c.s, c.p, i == 9, c.d, c.n⟩ else reb c
def nxE (c : Cn) (i : Int) : Int := if cvI c ≠ 0 then 1 else if i < 1 ∨ 12 < i then 2 else if i = 3 ∧ c.n ≠ 0 then 17 else if pmB c i then 0 else 10
def nxC (c : Cn) (i : Int) : Cn := if nxE c i = 0 then afC c i else c
theorem okI {a b : Int} (h : a = b) : FR.ok [I64d a] = FR.ok [I64d b] := by rw [h]
abbrev F28 (f : FuncId) (ts : List TS) (ds : List D) (us : List TS) (rs : List D) : Prop := Fun Tryd.prog gls f ts ds us (.ok rs)
theorem rsess_fn (s : Int) : F28 20 [tI] [I64d s] [tB] [.bool (ssB s)] := by
  refine rsess_ent _ _ ?_
  show vcrsess.den _ _ _ _ _
  unfold vcrsess
  (repeat' (first | (with_reducible refine den_ite (fun h => ?_) (fun h => ?_)) | with_reducible refine den_ev ?_ | with_reducible refine evs_nil ?_ | with_reducible refine evs_ob ?_ ?_ | with_reducible refine den_ret ?_)) <;> (try simp only [E.den, cmpB, arI, D.toI, D.toB, D.toL, D.len, D.mapL, D.cells, List.map_cons, List.map_nil, List.getD_cons_zero, List.getD_cons_succ, List.cons_append, List.nil_append, flatD, List.length_map, List.length_set, gt_iff_lt, ge_iff_le, beq_iff_eq, bne_iff_ne, ne_eq, decide_eq_true_eq, decide_eq_false_iff_not, Bool.not_eq_true, Bool.not_eq_false, beq_eq_false_iff_ne, Int.not_lt, Int.not_le, Decidable.not_not, Bool.false_eq_true, Bool.true_eq_false, bne_eq_false_iff_eq] at *) <;> first | (simp_all [ssB]; done) | (simp_all [ssB]; rw [Bool.eq_iff_iff]; simp; omega)
theorem sess_fn (s : Int) : F28 16 [tI] [I64d s] [tB] [.bool (ssB s)] := by
  refine sess_ent _ _ ?_
  show vcsess.den _ _ _ _ _
  unfold vcsess
  (repeat' (first | (with_reducible refine den_ite (fun h => ?_) (fun h => ?_)) | with_reducible refine den_ev ?_ | with_reducible refine evs_nil ?_ | with_reducible refine evs_ob ?_ ?_ | with_reducible refine den_ret ?_)) <;> (try simp only [E.den, cmpB, arI, D.toI, D.toB, D.toL, D.len, D.mapL, D.cells, List.map_cons, List.map_nil, List.getD_cons_zero, List.getD_cons_succ, List.cons_append, List.nil_append, flatD, List.length_map, List.length_set, gt_iff_lt, ge_iff_le, beq_iff_eq, bne_iff_ne, ne_eq, decide_eq_true_eq, decide_eq_false_iff_not, Bool.not_eq_true, Bool.not_eq_false, beq_eq_false_iff_ne, Int.not_lt, Int.not_le, Decidable.not_not, Bool.false_eq_true, Bool.true_eq_false, bne_eq_false_iff_eq] at *) <;> first | (simp_all [ssB]; done) | (simp_all [ssB]; rw [Bool.eq_iff_iff]; simp; omega)
theorem lsess_fn (s : Int) : F28 12 [tI] [I64d s] [tB] [.bool (ssB s)] := by
  refine lsess_ent _ _ ?_
  show vclsess.den _ _ _ _ _
  unfold vclsess
  (repeat' (first | (with_reducible refine den_ite (fun h => ?_) (fun h => ?_)) | with_reducible refine den_ev ?_ | with_reducible refine evs_nil ?_ | with_reducible refine evs_ob ?_ ?_ | with_reducible refine den_ret ?_)) <;> (try simp only [E.den, cmpB, arI, D.toI, D.toB, D.toL, D.len, D.mapL, D.cells, List.map_cons, List.map_nil, List.getD_cons_zero, List.getD_cons_succ, List.cons_append, List.nil_append, flatD, List.length_map, List.length_set, gt_iff_lt, ge_iff_le, beq_iff_eq, bne_iff_ne, ne_eq, decide_eq_true_eq, decide_eq_false_iff_not, Bool.not_eq_true, Bool.not_eq_false, beq_eq_false_iff_ne, Int.not_lt, Int.not_le, Decidable.not_not, Bool.false_eq_true, Bool.true_eq_false, bne_eq_false_iff_eq] at *) <;> first | (simp_all [ssB]; done) | (simp_all [ssB]; rw [Bool.eq_iff_iff]; simp; omega)
theorem rbase_fn (c : Cn) : F28 21 [tCn] [cnD c] [tI] [I64d (bsI c)] := by
  obtain ⟨s, p, r, d, n⟩ := c
  refine rbase_ent _ _ ?_
  show vcrbase.den _ _ _ _ _
  unfold vcrbase
  simp only [cnD]
  (repeat' (first | (with_reducible refine den_ite (fun h => ?_) (fun h => ?_)) | with_reducible refine den_ev ?_ | with_reducible refine evs_nil ?_ | with_reducible refine evs_ob ?_ ?_ | with_reducible refine den_ret ?_)) <;> (try simp only [E.den, cmpB, arI, D.toI, D.toB, D.toL, D.len, D.mapL, D.cells, List.map_cons, List.map_nil, List.getD_cons_zero, List.getD_cons_succ, List.cons_append, List.nil_append, flatD, List.length_map, List.length_set, gt_iff_lt, ge_iff_le, beq_iff_eq, bne_iff_ne, ne_eq, decide_eq_true_eq, decide_eq_false_iff_not, Bool.not_eq_true, Bool.not_eq_false, beq_eq_false_iff_ne, Int.not_lt, Int.not_le, Decidable.not_not, Bool.false_eq_true, Bool.true_eq_false, bne_eq_false_iff_eq] at *) <;> simp_all [bsI]
theorem base_fn (c : Cn) : F28 17 [tCn] [cnD c] [tI] [I64d (bsI c)] := by
  obtain ⟨s, p, r, d, n⟩ := c
  refine base_ent _ _ ?_
  show vcbase.den _ _ _ _ _
  unfold vcbase
  simp only [cnD]
  (repeat' (first | (with_reducible refine den_ite (fun h => ?_) (fun h => ?_)) | with_reducible refine den_ev ?_ | with_reducible refine evs_nil ?_ | with_reducible refine evs_ob ?_ ?_ | with_reducible refine den_ret ?_)) <;> (try simp only [E.den, cmpB, arI, D.toI, D.toB, D.toL, D.len, D.mapL, D.cells, List.map_cons, List.map_nil, List.getD_cons_zero, List.getD_cons_succ, List.cons_append, List.nil_append, flatD, List.length_map, List.length_set, gt_iff_lt, ge_iff_le, beq_iff_eq, bne_iff_ne, ne_eq, decide_eq_true_eq, decide_eq_false_iff_not, Bool.not_eq_true, Bool.not_eq_false, beq_eq_false_iff_ne, Int.not_lt, Int.not_le, Decidable.not_not, Bool.false_eq_true, Bool.true_eq_false, bne_eq_false_iff_eq] at *) <;> simp_all [bsI]
theorem charges_fn (c : Cn) : F28 13 [tCn] [cnD c] [tB] [.bool (c.s == 3)] := by
  obtain ⟨s, p, r, d, n⟩ := c
  refine charges_ent _ _ ?_
  show vccharges.den _ _ _ _ _
  unfold vccharges
  simp only [cnD]
  (repeat' (first | (with_reducible refine den_ite (fun h => ?_) (fun h => ?_)) | with_reducible refine den_ev ?_ | with_reducible refine evs_nil ?_ | with_reducible refine evs_ob ?_ ?_ | with_reducible refine den_ret ?_)) <;> (try simp only [E.den, cmpB, arI, D.toI, D.toB, D.toL, D.len, D.mapL, D.cells, List.map_cons, List.map_nil, List.getD_cons_zero, List.getD_cons_succ, List.cons_append, List.nil_append, flatD, List.length_map, List.length_set, gt_iff_lt, ge_iff_le, beq_iff_eq, bne_iff_ne, ne_eq, decide_eq_true_eq, decide_eq_false_iff_not, Bool.not_eq_true, Bool.not_eq_false, beq_eq_false_iff_ne, Int.not_lt, Int.not_le, Decidable.not_not, Bool.false_eq_true, Bool.true_eq_false, bne_eq_false_iff_eq] at *)
theorem valid_fn (c : Cn) : F28 10 [tCn] [cnD c] [tI] [I64d (cvI c)] := by
  obtain ⟨s, p, r, d, n⟩ := c
  refine valid_ent _ _ ?_
  show vcvalid.den _ _ _ _ _
  unfold vcvalid
  simp only [cnD]
  refine den_ite (fun h1 => den_ret ?_) (fun h1 => ?_)
  · (try simp only [E.den, cmpB, arI, D.toI, D.toB, D.toL, D.len, D.mapL, D.cells, List.map_cons, List.map_nil, List.getD_cons_zero, List.getD_cons_succ, List.cons_append, List.nil_append, flatD, List.length_map, List.length_set, gt_iff_lt, ge_iff_le, beq_iff_eq, bne_iff_ne, ne_eq, decide_eq_true_eq, decide_eq_false_iff_not, Bool.not_eq_true, Bool.not_eq_false, beq_eq_false_iff_ne, Int.not_lt, Int.not_le, Decidable.not_not, Bool.false_eq_true, Bool.true_eq_false, bne_eq_false_iff_eq] at *); refine okI ?_; unfold cvI; rw [if_pos (by first | omega | (simp only; omega))]
  refine den_ite (fun h2 => den_ret ?_) (fun h2 => ?_)
  · (try simp only [E.den, cmpB, arI, D.toI, D.toB, D.toL, D.len, D.mapL, D.cells, List.map_cons, List.map_nil, List.getD_cons_zero, List.getD_cons_succ, List.cons_append, List.nil_append, flatD, List.length_map, List.length_set, gt_iff_lt, ge_iff_le, beq_iff_eq, bne_iff_ne, ne_eq, decide_eq_true_eq, decide_eq_false_iff_not, Bool.not_eq_true, Bool.not_eq_false, beq_eq_false_iff_ne, Int.not_lt, Int.not_le, Decidable.not_not, Bool.false_eq_true, Bool.true_eq_false, bne_eq_false_iff_eq] at *); refine okI ?_; unfold cvI; rw [if_pos (by first | omega | (simp only; omega))]
  refine den_cal [.bool _] rfl (sess_fn s) rfl rfl ?_
  (try simp only [E.den, cmpB, arI, D.toI, D.toB, D.toL, D.len, D.mapL, D.cells, List.map_cons, List.map_nil, List.getD_cons_zero, List.getD_cons_succ, List.cons_append, List.nil_append, flatD, List.length_map, List.length_set, gt_iff_lt, ge_iff_le, beq_iff_eq, bne_iff_ne, ne_eq, decide_eq_true_eq, decide_eq_false_iff_not, Bool.not_eq_true, Bool.not_eq_false, beq_eq_false_iff_ne, Int.not_lt, Int.not_le, Decidable.not_not, Bool.false_eq_true, Bool.true_eq_false, bne_eq_false_iff_eq] at *)
  cases hs : ssB s
  · refine den_ite (fun h => ?_) (fun h => ?_)
    · exact Bool.noConfusion h
    refine den_ev (evs_call [I64d _] rfl (base_fn ⟨s, p, r, d, n⟩) rfl rfl (evs_nil ?_))
    (repeat' (first | (with_reducible refine den_ite (fun h => ?_) (fun h => ?_)) | with_reducible refine den_ev ?_ | with_reducible refine evs_nil ?_ | with_reducible refine evs_ob ?_ ?_ | with_reducible refine den_ret ?_))
    all_goals (try simp only [E.den, cmpB, arI, D.toI, D.toB, D.toL, D.len, D.mapL, D.cells, List.map_cons, List.map_nil, List.getD_cons_zero, List.getD_cons_succ, List.cons_append, List.nil_append, flatD, List.length_map, List.length_set, gt_iff_lt, ge_iff_le, beq_iff_eq, bne_iff_ne, ne_eq, decide_eq_true_eq, decide_eq_false_iff_not, Bool.not_eq_true, Bool.not_eq_false, beq_eq_false_iff_ne, Int.not_lt, Int.not_le, Decidable.not_not, Bool.false_eq_true, Bool.true_eq_false, bne_eq_false_iff_eq] at *)
    all_goals (refine okI ?_; unfold cvI; rw [if_neg (by simp only; omega)]; simp only [hs])
    all_goals clear hs
    all_goals first | (rw [if_neg (by simp), if_pos h]; done) | (rw [if_neg (by simp), if_neg h]; done) | (simp [*]; done)
  · (repeat' (first | (with_reducible refine den_ite (fun h => ?_) (fun h => ?_)) | with_reducible refine den_ev ?_ | with_reducible refine evs_nil ?_ | with_reducible refine evs_ob ?_ ?_ | with_reducible refine den_ret ?_))
    all_goals (try simp only [E.den, cmpB, arI, D.toI, D.toB, D.toL, D.len, D.mapL, D.cells, List.map_cons, List.map_nil, List.getD_cons_zero, List.getD_cons_succ, List.cons_append, List.nil_append, flatD, List.length_map, List.length_set, gt_iff_lt, ge_iff_le, beq_iff_eq, bne_iff_ne, ne_eq, decide_eq_true_eq, decide_eq_false_iff_not, Bool.not_eq_true, Bool.not_eq_false, beq_eq_false_iff_ne, Int.not_lt, Int.not_le, Decidable.not_not, Bool.false_eq_true, Bool.true_eq_false, bne_eq_false_iff_eq] at *)
    all_goals (refine okI ?_; unfold cvI; rw [if_neg (by simp only; omega)]; simp only [hs])
    all_goals clear hs
    all_goals first | (rw [if_neg (by simp), if_pos h]; done) | (rw [if_neg (by simp), if_neg h]; done) | (simp [*]; done)
theorem rvalid_fn (c : Cn) : F28 11 [tCn] [cnD c] [tI] [I64d (cvI c)] := by
  obtain ⟨s, p, r, d, n⟩ := c
  refine rvalid_ent _ _ ?_
  show vcrvalid.den _ _ _ _ _
  unfold vcrvalid
  simp only [cnD]
  refine den_ite (fun h1 => den_ret ?_) (fun h1 => ?_)
  · (try simp only [E.den, cmpB, arI, D.toI, D.toB, D.toL, D.len, D.mapL, D.cells, List.map_cons, List.map_nil, List.getD_cons_zero, List.getD_cons_succ, List.cons_append, List.nil_append, flatD, List.length_map, List.length_set, gt_iff_lt, ge_iff_le, beq_iff_eq, bne_iff_ne, ne_eq, decide_eq_true_eq, decide_eq_false_iff_not, Bool.not_eq_true, Bool.not_eq_false, beq_eq_false_iff_ne, Int.not_lt, Int.not_le, Decidable.not_not, Bool.false_eq_true, Bool.true_eq_false, bne_eq_false_iff_eq] at *); refine okI ?_; unfold cvI; rw [if_pos (by first | omega | (simp only; omega))]
  refine den_ite (fun h2 => den_ret ?_) (fun h2 => ?_)
  · (try simp only [E.den, cmpB, arI, D.toI, D.toB, D.toL, D.len, D.mapL, D.cells, List.map_cons, List.map_nil, List.getD_cons_zero, List.getD_cons_succ, List.cons_append, List.nil_append, flatD, List.length_map, List.length_set, gt_iff_lt, ge_iff_le, beq_iff_eq, bne_iff_ne, ne_eq, decide_eq_true_eq, decide_eq_false_iff_not, Bool.not_eq_true, Bool.not_eq_false, beq_eq_false_iff_ne, Int.not_lt, Int.not_le, Decidable.not_not, Bool.false_eq_true, Bool.true_eq_false, bne_eq_false_iff_eq] at *); refine okI ?_; unfold cvI; rw [if_pos (by first | omega | (simp only; omega))]
  refine den_cal [.bool _] rfl (rsess_fn s) rfl rfl ?_
  (try simp only [E.den, cmpB, arI, D.toI, D.toB, D.toL, D.len, D.mapL, D.cells, List.map_cons, List.map_nil, List.getD_cons_zero, List.getD_cons_succ, List.cons_append, List.nil_append, flatD, List.length_map, List.length_set, gt_iff_lt, ge_iff_le, beq_iff_eq, bne_iff_ne, ne_eq, decide_eq_true_eq, decide_eq_false_iff_not, Bool.not_eq_true, Bool.not_eq_false, beq_eq_false_iff_ne, Int.not_lt, Int.not_le, Decidable.not_not, Bool.false_eq_true, Bool.true_eq_false, bne_eq_false_iff_eq] at *)
  cases hs : ssB s
  · refine den_ite (fun h => ?_) (fun h => ?_)
    · exact Bool.noConfusion h
    refine den_ev (evs_call [I64d _] rfl (rbase_fn ⟨s, p, r, d, n⟩) rfl rfl (evs_nil ?_))
    (repeat' (first | (with_reducible refine den_ite (fun h => ?_) (fun h => ?_)) | with_reducible refine den_ev ?_ | with_reducible refine evs_nil ?_ | with_reducible refine evs_ob ?_ ?_ | with_reducible refine den_ret ?_))
    all_goals (try simp only [E.den, cmpB, arI, D.toI, D.toB, D.toL, D.len, D.mapL, D.cells, List.map_cons, List.map_nil, List.getD_cons_zero, List.getD_cons_succ, List.cons_append, List.nil_append, flatD, List.length_map, List.length_set, gt_iff_lt, ge_iff_le, beq_iff_eq, bne_iff_ne, ne_eq, decide_eq_true_eq, decide_eq_false_iff_not, Bool.not_eq_true, Bool.not_eq_false, beq_eq_false_iff_ne, Int.not_lt, Int.not_le, Decidable.not_not, Bool.false_eq_true, Bool.true_eq_false, bne_eq_false_iff_eq] at *)
    all_goals (refine okI ?_; unfold cvI; rw [if_neg (by simp only; omega)]; simp only [hs])
    all_goals clear hs
    all_goals first | (rw [if_neg (by simp), if_pos h]; done) | (rw [if_neg (by simp), if_neg h]; done) | (simp [*]; done)
  · (repeat' (first | (with_reducible refine den_ite (fun h => ?_) (fun h => ?_)) | with_reducible refine den_ev ?_ | with_reducible refine evs_nil ?_ | with_reducible refine evs_ob ?_ ?_ | with_reducible refine den_ret ?_))
    all_goals (try simp only [E.den, cmpB, arI, D.toI, D.toB, D.toL, D.len, D.mapL, D.cells, List.map_cons, List.map_nil, List.getD_cons_zero, List.getD_cons_succ, List.cons_append, List.nil_append, flatD, List.length_map, List.length_set, gt_iff_lt, ge_iff_le, beq_iff_eq, bne_iff_ne, ne_eq, decide_eq_true_eq, decide_eq_false_iff_not, Bool.not_eq_true, Bool.not_eq_false, beq_eq_false_iff_ne, Int.not_lt, Int.not_le, Decidable.not_not, Bool.false_eq_true, Bool.true_eq_false, bne_eq_false_iff_eq] at *)
    all_goals (refine okI ?_; unfold cvI; rw [if_neg (by simp only; omega)]; simp only [hs])
    all_goals clear hs
    all_goals first | (rw [if_neg (by simp), if_pos h]; done) | (rw [if_neg (by simp), if_neg h]; done) | (simp [*]; done)
theorem perm_fn (c : Cn) (i : Int) : F28 18 [tCn, tI] [cnD c, I64d i] [tB] [.bool (pmB c i)] := by
  obtain ⟨s, p, r, d, n⟩ := c
  refine perm_ent _ _ ?_
  show vcperm.den _ _ _ _ _
  unfold vcperm
  simp only [cnD]
  (repeat' (first | (with_reducible refine den_ite (fun h => ?_) (fun h => ?_)) | with_reducible refine den_ev ?_ | with_reducible refine evs_nil ?_ | with_reducible refine evs_ob ?_ ?_ | with_reducible refine den_ret ?_)) <;> (try simp only [E.den, cmpB, arI, D.toI, D.toB, D.toL, D.len, D.mapL, D.cells, List.map_cons, List.map_nil, List.getD_cons_zero, List.getD_cons_succ, List.cons_append, List.nil_append, flatD, List.length_map, List.length_set, gt_iff_lt, ge_iff_le, beq_iff_eq, bne_iff_ne, ne_eq, decide_eq_true_eq, decide_eq_false_iff_not, Bool.not_eq_true, Bool.not_eq_false, beq_eq_false_iff_ne, Int.not_lt, Int.not_le, Decidable.not_not, Bool.false_eq_true, Bool.true_eq_false, bne_eq_false_iff_eq] at *) <;> simp_all [pmB]
theorem reb_call {c : Cn} {Λ : List Lp} {K : FR → Prop} {ρ : List D} {es : List E} {k : VC} {m : Nat} (ha : es.map (·.den ρ) = [cnD c]) (hk : k.den Tryd.prog gls K Λ (ρ ++ [I64d (bsI c)])) : (VC.cal 21 [tCn] es [tI] m k).den Tryd.prog gls K Λ ρ :=
  den_cal [I64d _] rfl (rbase_fn c) ha rfl hk
theorem after_fn (c : Cn) (i : Int) : F28 19 [tCn, tI] [cnD c, I64d i] [tCn] [cnD (afC c i)] := by
  obtain ⟨s, p, r, d, n⟩ := c
  refine after_ent _ _ ?_
  show vcafter.den _ _ _ _ _
  unfold vcafter
  simp only [cnD]
  repeat' (first | (with_reducible refine den_ite (fun h => ?_) (fun h => ?_)) | (with_reducible refine den_ret ?_) | (refine den_cal [.bool _] rfl (rsess_fn s) rfl rfl ?_) | (refine reb_call (c := ⟨_, _, _, _, _⟩) rfl ?_))
  all_goals (try simp only [E.den, cmpB, arI, D.toI, D.toB, D.toL, D.len, D.mapL, D.cells, List.map_cons, List.map_nil, List.getD_cons_zero, List.getD_cons_succ, List.cons_append, List.nil_append, flatD, List.length_map, List.length_set, gt_iff_lt, ge_iff_le, beq_iff_eq, bne_iff_ne, ne_eq, decide_eq_true_eq, decide_eq_false_iff_not, Bool.not_eq_true, Bool.not_eq_false, beq_eq_false_iff_ne, Int.not_lt, Int.not_le, Decidable.not_not, Bool.false_eq_true, Bool.true_eq_false, bne_eq_false_iff_eq] at *)
  all_goals (simp_all [afC, reb, cnD])
theorem flags_fn (c : Cn) : F28 14 [tCn] [cnD c] [tI] [I64d (cond c.p 1 0 + cond c.r 2 0 + cond c.d 4 0 + (if c.n = 0 then 0 else 8))] := by
  obtain ⟨s, p, r, d, n⟩ := c
  refine flags_ent _ _ ?_
  show vcflags.den _ _ _ _ _
  unfold vcflags
  simp only [cnD]
  cases p <;> cases r <;> cases d <;> (repeat' (first | (with_reducible refine den_ite (fun h => ?_) (fun h => ?_)) | with_reducible refine den_ev ?_ | with_reducible refine evs_nil ?_ | with_reducible refine evs_ob ?_ ?_ | with_reducible refine den_ret ?_)) <;> (try simp only [E.den, cmpB, arI, D.toI, D.toB, D.toL, D.len, D.mapL, D.cells, List.map_cons, List.map_nil, List.getD_cons_zero, List.getD_cons_succ, List.cons_append, List.nil_append, flatD, List.length_map, List.length_set, gt_iff_lt, ge_iff_le, beq_iff_eq, bne_iff_ne, ne_eq, decide_eq_true_eq, decide_eq_false_iff_not, Bool.not_eq_true, Bool.not_eq_false, beq_eq_false_iff_ne, Int.not_lt, Int.not_le, Decidable.not_not, Bool.false_eq_true, Bool.true_eq_false, bne_eq_false_iff_eq] at *) <;> simp_all
def wfC (c : Cn) (f : Int) : Cn := ⟨c.s, arI .and .i64 f 1 != 0, arI .and .i64 f 2 != 0, arI .and .i64 f 4 != 0, if arI .and .i64 f 8 = 0 then 0 else if c.n = 0 then 1 else c.n⟩
theorem wflags_fn (c : Cn) (f : Int) : F28 15 [tCn, tI] [cnD c, I64d f] [tCn] [cnD (wfC c f)] := by
  obtain ⟨s, p, r, d, n⟩ := c
  refine wflags_ent _ _ ?_
  show vcwflags.den _ _ _ _ _
  unfold vcwflags
  simp only [cnD]
  (repeat' (first | (with_reducible refine den_ite (fun h => ?_) (fun h => ?_)) | with_reducible refine den_ev ?_ | with_reducible refine evs_nil ?_ | with_reducible refine evs_ob ?_ ?_ | with_reducible refine den_ret ?_)) <;> simp_all [E.den, cmpB, D.toI, D.toB, D.toL, wfC, flatD, cnD]
theorem nx_c {c : Cn} {i k : Int} (h : nxE c i = k) (hk : k ≠ 0) : FR.ok [cnD c, I64d k] = FR.ok [cnD (nxC c i), I64d (nxE c i)] := by
  unfold nxC
  rw [h, if_neg hk]
theorem nx_a {c : Cn} {i : Int} (h : nxE c i = 0) : FR.ok [cnD (afC c i), I64d 0] = FR.ok [cnD (nxC c i), I64d (nxE c i)] := by
  unfold nxC
  rw [h, if_pos rfl]
theorem nx1 {c : Cn} {i : Int} (h : cvI c ≠ 0) : nxE c i = 1 := by unfold nxE; rw [if_pos h]
theorem nx2 {c : Cn} {i : Int} (h : cvI c = 0) (hi : i < 1 ∨ 12 < i) : nxE c i = 2 := by unfold nxE; rw [if_neg (by omega), if_pos hi]
theorem nx3 {c : Cn} {i : Int} (h : cvI c = 0) (hi : ¬ (i < 1 ∨ 12 < i)) (h3 : i = 3 ∧ c.n ≠ 0) : nxE c i = 17 := by unfold nxE; rw [if_neg (by omega), if_neg hi, if_pos h3]
theorem nx4 {c : Cn} {i : Int} (h : cvI c = 0) (hi : ¬ (i < 1 ∨ 12 < i)) (h3 : ¬ (i = 3 ∧ c.n ≠ 0)) : nxE c i = if pmB c i then 0 else 10 := by unfold nxE; rw [if_neg (by omega), if_neg hi, if_neg h3]
theorem rnext_fn (c : Cn) (i : Int) : F28 9 [tCn, tI] [cnD c, I64d i] [tCn, tI] [cnD (nxC c i), I64d (nxE c i)] := by
  refine rnext_ent _ _ ?_
  show vcrnext.den _ _ _ _ _
  unfold vcrnext
  refine den_cal [I64d _] rfl (rvalid_fn c) rfl rfl ?_
  refine den_ite (fun h1 => den_ret ?_) (fun h1 => ?_)
  · have h : cvI c ≠ 0 := by simp only [cnD] at h1; (try simp only [E.den, cmpB, arI, D.toI, D.toB, D.toL, D.len, D.mapL, D.cells, List.map_cons, List.map_nil, List.getD_cons_zero, List.getD_cons_succ, List.cons_append, List.nil_append, flatD, List.length_map, List.length_set, gt_iff_lt, ge_iff_le, beq_iff_eq, bne_iff_ne, ne_eq, decide_eq_true_eq, decide_eq_false_iff_not, Bool.not_eq_true, Bool.not_eq_false, beq_eq_false_iff_ne, Int.not_lt, Int.not_le, Decidable.not_not, Bool.false_eq_true, Bool.true_eq_false, bne_eq_false_iff_eq] at *); exact h1
    exact nx_c (nx1 h) (by decide)
  have hv : cvI c = 0 := by simp only [cnD] at h1; (try simp only [E.den, cmpB, arI, D.toI, D.toB, D.toL, D.len, D.mapL, D.cells, List.map_cons, List.map_nil, List.getD_cons_zero, List.getD_cons_succ, List.cons_append, List.nil_append, flatD, List.length_map, List.length_set, gt_iff_lt, ge_iff_le, beq_iff_eq, bne_iff_ne, ne_eq, decide_eq_true_eq, decide_eq_false_iff_not, Bool.not_eq_true, Bool.not_eq_false, beq_eq_false_iff_ne, Int.not_lt, Int.not_le, Decidable.not_not, Bool.false_eq_true, Bool.true_eq_false, bne_eq_false_iff_eq] at *); exact h1
  clear h1
  refine den_ite (fun h1 => den_ret ?_) (fun h1 => ?_)
  · have h : i < 1 := by simp only [cnD] at h1; (try simp only [E.den, cmpB, arI, D.toI, D.toB, D.toL, D.len, D.mapL, D.cells, List.map_cons, List.map_nil, List.getD_cons_zero, List.getD_cons_succ, List.cons_append, List.nil_append, flatD, List.length_map, List.length_set, gt_iff_lt, ge_iff_le, beq_iff_eq, bne_iff_ne, ne_eq, decide_eq_true_eq, decide_eq_false_iff_not, Bool.not_eq_true, Bool.not_eq_false, beq_eq_false_iff_ne, Int.not_lt, Int.not_le, Decidable.not_not, Bool.false_eq_true, Bool.true_eq_false, bne_eq_false_iff_eq] at *); exact h1
    exact nx_c (nx2 hv (.inl h)) (by decide)
  refine den_ite (fun h2 => den_ret ?_) (fun h2 => ?_)
  · have h : 12 < i := by simp only [cnD] at h2; (try simp only [E.den, cmpB, arI, D.toI, D.toB, D.toL, D.len, D.mapL, D.cells, List.map_cons, List.map_nil, List.getD_cons_zero, List.getD_cons_succ, List.cons_append, List.nil_append, flatD, List.length_map, List.length_set, gt_iff_lt, ge_iff_le, beq_iff_eq, bne_iff_ne, ne_eq, decide_eq_true_eq, decide_eq_false_iff_not, Bool.not_eq_true, Bool.not_eq_false, beq_eq_false_iff_ne, Int.not_lt, Int.not_le, Decidable.not_not, Bool.false_eq_true, Bool.true_eq_false, bne_eq_false_iff_eq] at *); exact h2
    exact nx_c (nx2 hv (.inr h)) (by decide)
  have hi : ¬ (i < 1 ∨ 12 < i) := by simp only [cnD] at h1 h2; (try simp only [E.den, cmpB, arI, D.toI, D.toB, D.toL, D.len, D.mapL, D.cells, List.map_cons, List.map_nil, List.getD_cons_zero, List.getD_cons_succ, List.cons_append, List.nil_append, flatD, List.length_map, List.length_set, gt_iff_lt, ge_iff_le, beq_iff_eq, bne_iff_ne, ne_eq, decide_eq_true_eq, decide_eq_false_iff_not, Bool.not_eq_true, Bool.not_eq_false, beq_eq_false_iff_ne, Int.not_lt, Int.not_le, Decidable.not_not, Bool.false_eq_true, Bool.true_eq_false, bne_eq_false_iff_eq] at *); omega
  clear h1 h2
  have fin : ¬ (i = 3 ∧ c.n ≠ 0) → VC.den Tryd.prog gls (fun r' => r' = .ok [cnD (nxC c i), I64d (nxE c i)]) (.cal 18 [tCn, tI] [.rc (.cons (.v 0) (.cons (.v 1) (.cons (.v 2) (.cons (.v 3) (.cons (.v 4) .nil))))), .v 5] [tB] 7 (.ite (.v 7) (.cal 19 [tCn, tI] [.rc (.cons (.v 0) (.cons (.v 1) (.cons (.v 2) (.cons (.v 3) (.cons (.v 4) .nil))))), .v 5] [tCn] 8 (.ret [.rc (.cons (.v 8) (.cons (.v 9) (.cons (.v 10) (.cons (.v 11) (.cons (.v 12) .nil))))), .ki .i64 0])) (.ret [.rc (.cons (.v 0) (.cons (.v 1) (.cons (.v 2) (.cons (.v 3) (.cons (.v 4) .nil))))), .ki .i64 10]))) [] [I64d c.s, .bool c.p, .bool c.r, .bool c.d, I64d c.n, I64d i, I64d (cvI c)] := by
    intro h3
    have h4 := nx4 hv hi h3
    refine den_cal [.bool _] rfl (perm_fn c i) rfl rfl ?_
    refine den_ite (fun h1 => ?_) (fun h1 => den_ret ?_)
    · have h : pmB c i = true := h1
      rw [h, if_pos rfl] at h4
      exact den_cal [I64d _, .bool _, .bool _, .bool _, I64d _] rfl (after_fn c i) rfl rfl (den_ret (nx_a h4))
    · have h : pmB c i = false := h1
      rw [h, if_neg (by decide)] at h4
      exact nx_c h4 (by decide)
  refine den_ite (fun h1 => ?_) (fun h1 => ?_)
  · have h : i = 3 := by simp only [cnD] at h1; (try simp only [E.den, cmpB, arI, D.toI, D.toB, D.toL, D.len, D.mapL, D.cells, List.map_cons, List.map_nil, List.getD_cons_zero, List.getD_cons_succ, List.cons_append, List.nil_append, flatD, List.length_map, List.length_set, gt_iff_lt, ge_iff_le, beq_iff_eq, bne_iff_ne, ne_eq, decide_eq_true_eq, decide_eq_false_iff_not, Bool.not_eq_true, Bool.not_eq_false, beq_eq_false_iff_ne, Int.not_lt, Int.not_le, Decidable.not_not, Bool.false_eq_true, Bool.true_eq_false, bne_eq_false_iff_eq] at *); exact h1
    refine den_ite (fun h2 => den_ret ?_) (fun h2 => ?_)
    · have hn : c.n ≠ 0 := by simp only [cnD] at h2; (try simp only [E.den, cmpB, arI, D.toI, D.toB, D.toL, D.len, D.mapL, D.cells, List.map_cons, List.map_nil, List.getD_cons_zero, List.getD_cons_succ, List.cons_append, List.nil_append, flatD, List.length_map, List.length_set, gt_iff_lt, ge_iff_le, beq_iff_eq, bne_iff_ne, ne_eq, decide_eq_true_eq, decide_eq_false_iff_not, Bool.not_eq_true, Bool.not_eq_false, beq_eq_false_iff_ne, Int.not_lt, Int.not_le, Decidable.not_not, Bool.false_eq_true, Bool.true_eq_false, bne_eq_false_iff_eq] at *); exact h2
      exact nx_c (nx3 hv hi ⟨h, hn⟩) (by decide)
    · have hn : c.n = 0 := by simp only [cnD] at h2; (try simp only [E.den, cmpB, arI, D.toI, D.toB, D.toL, D.len, D.mapL, D.cells, List.map_cons, List.map_nil, List.getD_cons_zero, List.getD_cons_succ, List.cons_append, List.nil_append, flatD, List.length_map, List.length_set, gt_iff_lt, ge_iff_le, beq_iff_eq, bne_iff_ne, ne_eq, decide_eq_true_eq, decide_eq_false_iff_not, Bool.not_eq_true, Bool.not_eq_false, beq_eq_false_iff_ne, Int.not_lt, Int.not_le, Decidable.not_not, Bool.false_eq_true, Bool.true_eq_false, bne_eq_false_iff_eq] at *); exact h2
      exact fin (fun hh => hh.2 hn)
  · have h : ¬ i = 3 := by simp only [cnD] at h1; (try simp only [E.den, cmpB, arI, D.toI, D.toB, D.toL, D.len, D.mapL, D.cells, List.map_cons, List.map_nil, List.getD_cons_zero, List.getD_cons_succ, List.cons_append, List.nil_append, flatD, List.length_map, List.length_set, gt_iff_lt, ge_iff_le, beq_iff_eq, bne_iff_ne, ne_eq, decide_eq_true_eq, decide_eq_false_iff_not, Bool.not_eq_true, Bool.not_eq_false, beq_eq_false_iff_ne, Int.not_lt, Int.not_le, Decidable.not_not, Bool.false_eq_true, Bool.true_eq_false, bne_eq_false_iff_eq] at *); exact h1
    exact fin (fun hh => h hh.1)
def bs0 (p r d : Bool) : Int := if d then 8 else if p then 2 else if r then 6 else 1
theorem cv_cases {s : Int} {p r d : Bool} {n : Int} (h : cvI ⟨s, p, r, d, n⟩ = 0) : (n ≠ 0 ∧ s = 7) ∨ (n = 0 ∧ (s = bs0 p r d ∨ (p = true ∧ r = false ∧ (s = 3 ∨ s = 4 ∨ s = 5)))) := by
  unfold cvI at h
  simp only at h
  split at h
  · cases h
  split at h
  · rename_i hs
    split at h
    · rename_i hc
      refine .inr ⟨hc.2.2, .inr ⟨hc.1, hc.2.1, ?_⟩⟩
      simp [ssB] at hs
      omega
    · cases h
  · split at h
    · rename_i he
      by_cases hn : n = 0
      · refine .inr ⟨hn, .inl ?_⟩
        rw [he]
        simp [bsI, bs0, hn]
      · refine .inl ⟨hn, ?_⟩
        rw [he]
        simp [bsI, hn]
    · cases h
theorem wf_b (c : Cn) (p r d f : Bool) : F28 15 [tCn, tI] [cnD c, I64d (cond p 1 0 + cond r 2 0 + cond d 4 0 + cond f 8 0)] [tCn] [cnD ⟨c.s, p, r, d, cond f (if c.n = 0 then 1 else c.n) 0⟩] := by
  have h := wflags_fn c (cond p 1 0 + cond r 2 0 + cond d 4 0 + cond f 8 0)
  have e : wfC c (cond p 1 0 + cond r 2 0 + cond d 4 0 + cond f 8 0) = ⟨c.s, p, r, d, cond f (if c.n = 0 then 1 else c.n) 0⟩ := by
    cases p <;> cases r <;> cases d <;> cases f <;> rfl
  rw [e] at h
  exact h
theorem fl_b (c : Cn) (f : Bool) (h : f = (c.n != 0)) : F28 14 [tCn] [cnD c] [tI] [I64d (cond c.p 1 0 + cond c.r 2 0 + cond c.d 4 0 + cond f 8 0)] := by
  have := flags_fn c
  have e : (if c.n = 0 then (0 : Int) else 8) = cond f 8 0 := by
    subst h
    by_cases hn : c.n = 0
    · simp [hn]
    · have e : (c.n != 0) = true := by simp [hn]
      rw [e, if_neg hn]; rfl
  rw [e] at this
  exact this
end Go.Proofs.YtajphmclobadfaaDoor
