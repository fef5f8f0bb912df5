/-
  SafeThird: its walk and its row.
-/
import Derived.Test.YtggmgfkefbfhpaaSy33d
set_option maxRecDepth 100000
set_option linter.unusedSimpArgs false
set_option linter.unusedVariables false
namespace Go.Proofs.Ytggmgfkefbfhpaa
open Go.Proofs.Ytggmgfkefbfhpaa.Sy Go.RowKit Go.WideShapes Go.ChangeShapes Go.ChangeAt
def vcLaw : VC := (.cal 13 [(.c (.int .i64)), (.c (.int .i64)), (.c (.int .i64))] [(.ki .i64 4), (.ki .i64 0), (.ki .i64 0)] [(.g [(.int .i64), (.int .i64), (.int .i64), (.lst [(.int .i64)])]), (.c (.int .i64))] 1
 (.ite (.cmp .gtr (.len (.v 0)) (.ki .i64 200))
  (.cal 10 [] [] [(.c .bool)] 6
   (.ret [(.v 6)]))
  (.ite (.cmp .neq (.v 5) (.ki .i64 0))
   (.ret [(.kb false)])
   (.loop [(.int .i64), (.int .i64), (.int .i64), (.lst [(.int .i64)]), (.lst [(.int .i64)]), .bool, (.int .i64)] [(.v 1), (.v 2), (.v 3), (.v 4), (.cons (.ki .i64 0) (.cons (.ki .i64 0) (.cons (.ki .i64 0) (.cons (.ki .i64 0) .nil)))), (.kb false), (.ki .i64 0)]
    (.ite (.cmp .lss (.v 12) (.len (.v 0)))
     (.ev [(.ob (.cmp .geq (.v 12) (.ki .i64 0))), (.ob (.cmp .lss (.v 12) (.len (.v 0))))]
      (.ite (.cmp .lss (.cell (.get (.v 0) (.v 12)) 0) (.ki .i64 1))
       (.cal 10 [] [] [(.c .bool)] 13
        (.ret [(.v 13)]))
       (.ite (.cmp .gtr (.cell (.get (.v 0) (.v 12)) 0) (.ki .i64 4))
        (.cal 10 [] [] [(.c .bool)] 13
         (.ret [(.v 13)]))
        (.ite (.cmp .lss (.cell (.get (.v 0) (.v 12)) 1) (.ki .i64 0))
         (.cal 10 [] [] [(.c .bool)] 13
          (.ret [(.v 13)]))
         (.ite (.cmp .gtr (.cell (.get (.v 0) (.v 12)) 1) (.ki .i64 1000000))
          (.cal 10 [] [] [(.c .bool)] 13
           (.ret [(.v 13)]))
          (.ite (.cmp .lss (.cell (.get (.v 0) (.v 12)) 2) (.ki .i64 0))
           (.cal 10 [] [] [(.c .bool)] 13
            (.ret [(.v 13)]))
           (.ite (.cmp .gtr (.cell (.get (.v 0) (.v 12)) 2) (.ki .i64 1000000))
            (.cal 10 [] [] [(.c .bool)] 13
             (.ret [(.v 13)]))
            (.ite (.cmp .gtr (.cell (.get (.v 0) (.v 12)) 1) (.ar .add .i64 (.ar .add .i64 (.cell (.get (.v 0) (.v 12)) 2) (.ar .quo .i64 (.cell (.get (.v 0) (.v 12)) 2) (.ki .i64 10))) (.ki .i64 100)))
             (.ev [(.ob (.cmp .geq (.ar .sub .i64 (.cell (.get (.v 0) (.v 12)) 0) (.ki .i64 1)) (.ki .i64 0))), (.ob (.cmp .lss (.ar .sub .i64 (.cell (.get (.v 0) (.v 12)) 0) (.ki .i64 1)) (.ki .i64 4)))]
              (.ev [(.ob (.cmp .lss (.ar .sub .i64 (.cell (.get (.v 0) (.v 12)) 0) (.ki .i64 1)) (.len (.v 10))))]
               (.ev [(.ob (.cmp .geq (.ar .sub .i64 (.cell (.get (.v 0) (.v 12)) 0) (.ki .i64 1)) (.ki .i64 0))), (.ob (.cmp .lss (.ar .sub .i64 (.cell (.get (.v 0) (.v 12)) 0) (.ki .i64 1)) (.ki .i64 4)))]
                (.ev [(.ob (.cmp .lss (.ar .sub .i64 (.cell (.get (.v 0) (.v 12)) 0) (.ki .i64 1)) (.len (.v 10))))]
                 (.cal 20 [(.g [(.int .i64), (.int .i64), (.int .i64), (.lst [(.int .i64)])]), (.c (.int .i64)), (.c (.int .i64)), (.c (.int .i64))] [(.rc (.cons (.v 6) (.cons (.v 7) (.cons (.v 8) (.cons (.v 9) .nil))))), (.cell (.get (.v 0) (.v 12)) 0), (.cell (.get (.v 0) (.v 12)) 1), (.cell (.get (.v 0) (.v 12)) 2)] [(.g [(.int .i64), (.int .i64), (.int .i64), (.lst [(.int .i64)])]), (.c .bool)] 13
                  (.ev [(.ob (.cmp .geq (.ar .sub .i64 (.cell (.get (.v 0) (.v 12)) 0) (.ki .i64 1)) (.ki .i64 0))), (.ob (.cmp .lss (.ar .sub .i64 (.cell (.get (.v 0) (.v 12)) 0) (.ki .i64 1)) (.ki .i64 4)))]
                   (.ev [(.ob (.cmp .lss (.ar .sub .i64 (.cell (.get (.v 0) (.v 12)) 0) (.ki .i64 1)) (.len (.v 10))))]
                    (.ite (.cmp .gtr (.get (.set (.v 10) (.ar .sub .i64 (.cell (.get (.v 0) (.v 12)) 0) (.ki .i64 1)) (.ar .add .i64 (.get (.v 10) (.ar .sub .i64 (.cell (.get (.v 0) (.v 12)) 0) (.ki .i64 1))) (.ki .i64 1))) (.ar .sub .i64 (.cell (.get (.v 0) (.v 12)) 0) (.ki .i64 1))) (.ki .i64 0))
                     (.ev [(.ob (.cmp .geq (.ar .sub .i64 (.cell (.get (.v 0) (.v 12)) 0) (.ki .i64 1)) (.ki .i64 0))), (.ob (.cmp .lss (.ar .sub .i64 (.cell (.get (.v 0) (.v 12)) 0) (.ki .i64 1)) (.ki .i64 4)))]
                      (.ev [(.ob (.cmp .lss (.ar .sub .i64 (.cell (.get (.v 0) (.v 12)) 0) (.ki .i64 1)) (.len (.v 10))))]
                       (.ite (.beq (.v 17) (.cmp .eql (.ar .rem .i64 (.get (.set (.v 10) (.ar .sub .i64 (.cell (.get (.v 0) (.v 12)) 0) (.ki .i64 1)) (.ar .add .i64 (.get (.v 10) (.ar .sub .i64 (.cell (.get (.v 0) (.v 12)) 0) (.ki .i64 1))) (.ki .i64 1))) (.ar .sub .i64 (.cell (.get (.v 0) (.v 12)) 0) (.ki .i64 1))) (.ki .i64 3)) (.ki .i64 0)))
                        (.back 0 [(.v 13), (.v 14), (.v 15), (.v 16), (.set (.v 10) (.ar .sub .i64 (.cell (.get (.v 0) (.v 12)) 0) (.ki .i64 1)) (.ar .add .i64 (.get (.v 10) (.ar .sub .i64 (.cell (.get (.v 0) (.v 12)) 0) (.ki .i64 1))) (.ki .i64 1))), (.v 11), (.ar .add .i64 (.v 12) (.ki .i64 1))])
                        (.ret [(.kb false)]))))
                     (.ite (.beq (.v 17) (.kb false))
                      (.back 0 [(.v 13), (.v 14), (.v 15), (.v 16), (.set (.v 10) (.ar .sub .i64 (.cell (.get (.v 0) (.v 12)) 0) (.ki .i64 1)) (.ar .add .i64 (.get (.v 10) (.ar .sub .i64 (.cell (.get (.v 0) (.v 12)) 0) (.ki .i64 1))) (.ki .i64 1))), (.v 11), (.ar .add .i64 (.v 12) (.ki .i64 1))])
                      (.ret [(.kb false)]))))))))))
             (.ev [(.ob (.cmp .geq (.ar .sub .i64 (.cell (.get (.v 0) (.v 12)) 0) (.ki .i64 1)) (.ki .i64 0))), (.ob (.cmp .lss (.ar .sub .i64 (.cell (.get (.v 0) (.v 12)) 0) (.ki .i64 1)) (.ki .i64 4)))]
              (.ev [(.ob (.cmp .lss (.ar .sub .i64 (.cell (.get (.v 0) (.v 12)) 0) (.ki .i64 1)) (.len (.v 10))))]
               (.cal 20 [(.g [(.int .i64), (.int .i64), (.int .i64), (.lst [(.int .i64)])]), (.c (.int .i64)), (.c (.int .i64)), (.c (.int .i64))] [(.rc (.cons (.v 6) (.cons (.v 7) (.cons (.v 8) (.cons (.v 9) .nil))))), (.cell (.get (.v 0) (.v 12)) 0), (.cell (.get (.v 0) (.v 12)) 1), (.cell (.get (.v 0) (.v 12)) 2)] [(.g [(.int .i64), (.int .i64), (.int .i64), (.lst [(.int .i64)])]), (.c .bool)] 13
                (.ev [(.ob (.cmp .geq (.ar .sub .i64 (.cell (.get (.v 0) (.v 12)) 0) (.ki .i64 1)) (.ki .i64 0))), (.ob (.cmp .lss (.ar .sub .i64 (.cell (.get (.v 0) (.v 12)) 0) (.ki .i64 1)) (.ki .i64 4)))]
                 (.ev [(.ob (.cmp .lss (.ar .sub .i64 (.cell (.get (.v 0) (.v 12)) 0) (.ki .i64 1)) (.len (.v 10))))]
                  (.ite (.cmp .gtr (.get (.set (.v 10) (.ar .sub .i64 (.cell (.get (.v 0) (.v 12)) 0) (.ki .i64 1)) (.ki .i64 0)) (.ar .sub .i64 (.cell (.get (.v 0) (.v 12)) 0) (.ki .i64 1))) (.ki .i64 0))
                   (.ev [(.ob (.cmp .geq (.ar .sub .i64 (.cell (.get (.v 0) (.v 12)) 0) (.ki .i64 1)) (.ki .i64 0))), (.ob (.cmp .lss (.ar .sub .i64 (.cell (.get (.v 0) (.v 12)) 0) (.ki .i64 1)) (.ki .i64 4)))]
                    (.ev [(.ob (.cmp .lss (.ar .sub .i64 (.cell (.get (.v 0) (.v 12)) 0) (.ki .i64 1)) (.len (.v 10))))]
                     (.ite (.beq (.v 17) (.cmp .eql (.ar .rem .i64 (.get (.set (.v 10) (.ar .sub .i64 (.cell (.get (.v 0) (.v 12)) 0) (.ki .i64 1)) (.ki .i64 0)) (.ar .sub .i64 (.cell (.get (.v 0) (.v 12)) 0) (.ki .i64 1))) (.ki .i64 3)) (.ki .i64 0)))
                      (.back 0 [(.v 13), (.v 14), (.v 15), (.v 16), (.set (.v 10) (.ar .sub .i64 (.cell (.get (.v 0) (.v 12)) 0) (.ki .i64 1)) (.ki .i64 0)), (.v 11), (.ar .add .i64 (.v 12) (.ki .i64 1))])
                      (.ret [(.kb false)]))))
                   (.ite (.beq (.v 17) (.kb false))
                    (.back 0 [(.v 13), (.v 14), (.v 15), (.v 16), (.set (.v 10) (.ar .sub .i64 (.cell (.get (.v 0) (.v 12)) 0) (.ki .i64 1)) (.ki .i64 0)), (.v 11), (.ar .add .i64 (.v 12) (.ki .i64 1))])
                    (.ret [(.kb false)]))))))))))))))))
     (.cal 10 [] [] [(.c .bool)] 13
      (.ret [(.v 13)])))))))
structure Mn where
  k : Int
  m : Int
  l : Int
def mnD (x : Mn) : D := .rc [I64d x.k, I64d x.m, I64d x.l]
instance : Inhabited Mn := ⟨⟨0, 0, 0⟩⟩
abbrev tMs : TS := .c (.lst [.int .i64, .int .i64, .int .i64])
theorem typ_mns {d : D} (h : TypT tMs d) : ∃ M : List Mn, d = .lst (M.map mnD) := by
  have h' : Typ (.lst [.int .i64, .int .i64, .int .i64]) d := h
  unfold Typ at h'
  obtain ⟨l, rfl, hl, hx⟩ := h'
  obtain ⟨M, rfl, _⟩ := list_read (g := mnD) (q := fun _ => True) (p := fun x : D => Typs [.int .i64, .int .i64, .int .i64] (x.cells [.int .i64, .int .i64, .int .i64])) (fun d hd => by
    cases d with
    | rc ds =>
      obtain ⟨a, b, c, e, _⟩ := typ_mn (d := .rc ds) ⟨ds, rfl, hd⟩
      exact ⟨⟨a, b, c⟩, e, trivial⟩
    | _ => exact absurd (show Typs [.int .i64, .int .i64, .int .i64] [] from hd) (by simp [Typs])) l hx
  exact ⟨M, rfl⟩
def thI (L R : List Int) (i : Int) : Prop := L.length = 4 ∧ R.length = 4 ∧ ∀ j : Nat, j < 4 → 0 ≤ R.getD j 0 ∧ R.getD j 0 ≤ i ∧ L.getD j 0 = R.getD j 0 % 3
theorem thI_ok {L R : List Int} {i : Int} (h : thI L R i) : okSf 0 0 0 L := by
  obtain ⟨h1, h2, h3⟩ := h
  refine ⟨by omega, by omega, by omega, by omega, by omega, by omega, by omega, by omega, fun n hn => ?_⟩
  obtain ⟨j, hj⟩ := List.getElem?_of_mem hn
  have hl : j < L.length := (List.getElem?_eq_some_iff.1 hj).1
  have := (h3 j (by omega)).2.2
  rw [List.getD_eq_getElem?_getD, hj] at this
  simp only [Option.getD_some] at this
  omega
theorem gset {L : List Int} {n j : Nat} {a : Int} (hn : n < L.length) : (L.set n a).getD j 0 = if j = n then a else L.getD j 0 := by
  by_cases h : j = n
  · subst h; simp [List.getD_eq_getElem?_getD, hn]
  · have : n ≠ j := fun e => h e.symm
    rw [if_neg h, List.getD_eq_getElem?_getD, List.getElem?_set_ne this, ← List.getD_eq_getElem?_getD]
theorem third_step {L R : List Int} {i k m l : Int} (h : thI L R i) (h1 : 1 ≤ k) (h2 : k ≤ 4) (h3 : 0 ≤ m) (h4 : m ≤ 1000000) (h5 : 0 ≤ l) (h6 : l ≤ 1000000) :
    (¬ m ≤ wThr l → wB 0 0 0 L k m l = decide ((R.getD (k - 1).toNat 0 + 1).tmod 3 = 0) ∧ thI (wL 0 0 0 L k m l) (R.set (k - 1).toNat (R.getD (k - 1).toNat 0 + 1)) (i + 1)) ∧ (m ≤ wThr l → wB 0 0 0 L k m l = false ∧ thI (wL 0 0 0 L k m l) (R.set (k - 1).toNat 0) (i + 1)) := by
  have ho := thI_ok h
  obtain ⟨g1, g2, g3⟩ := h
  have hO : wOk 0 0 0 L k m l := ⟨ho, by omega, by omega, by omega, by omega, by omega, by omega⟩
  have hkn : (k - 1).toNat < 4 := by omega
  obtain ⟨r0, r1, r2⟩ := g3 _ hkn
  have ht : (R.getD (k - 1).toNat 0 + 1).tmod 3 = (R.getD (k - 1).toNat 0 + 1) % 3 := Int.tmod_eq_emod_of_nonneg (by omega)
  constructor
  · intro hm
    constructor
    · unfold wB
      rw [ht, decide_eq_decide]
      constructor
      · rintro ⟨_, _, h⟩; omega
      · intro h; exact ⟨hO, hm, by omega⟩
    · refine ⟨by rw [wL_length]; exact g1, by simpa using g2, fun j hj => ?_⟩
      have := g3 j hj
      unfold wL wN
      rw [if_pos hO, if_neg hm, gset (by omega), gset (by omega)]
      by_cases hjk : j = (k - 1).toNat
      · rw [if_pos hjk, if_pos hjk]
        refine ⟨by omega, by omega, ?_⟩
        split <;> omega
      · rw [if_neg hjk, if_neg hjk]
        omega
  · intro hm
    constructor
    · unfold wB
      rw [decide_eq_false]
      rintro ⟨_, h, _⟩
      exact h hm
    · refine ⟨by rw [wL_length]; exact g1, by simpa using g2, fun j hj => ?_⟩
      have := g3 j hj
      unfold wL wN
      rw [if_pos hO, if_pos hm, gset (by omega), gset (by omega)]
      by_cases hjk : j = (k - 1).toNat
      · rw [if_pos hjk, if_pos hjk]
        omega
      · rw [if_neg hjk, if_neg hjk]
        omega
def stT (n : Nat) (xs : List D) : Prop := ∃ (L R : List Int) (a : Bool) (i : Int), xs = [I64d 0, I64d 0, I64d 0, .lst (L.map I64d), .lst (R.map I64d), .bool a, I64d i] ∧ 0 ≤ i ∧ i ≤ n ∧ thI L R i
def stTm (n : Nat) (xs : List D) : Nat := n - (xs.getD 6 default).toI.toNat
set_option maxHeartbeats 1000000 in
theorem law_all (xs : List D) (h : TypTs [tMs] xs) : Fun Try.prog [] 8 [tMs] xs [.c .bool] (.ok [.bool true]) := by
  obtain ⟨d, _, rfl, h1, rfl⟩ := h
  obtain ⟨M, rfl⟩ := typ_mns h1
  refine fun_of_gen hP Try.func8 rfl (by decide) (sg := sgs) (v := vcLaw) (by kernel_rfl) ?_
  unfold vcLaw
  have hnew := new_fn 4 0 0
  rw [show nwS 4 0 0 = sf 0 0 0 [0, 0, 0, 0] from rfl, show nwE 4 0 0 = 0 from rfl] at hnew
  refine den_cal [I64d 0, I64d 0, I64d 0, .lst (([0, 0, 0, 0] : List Int).map I64d), I64d 0] rfl hnew rfl rfl ?_
  refine den_ite (fun h => ex_end (den_ret rfl)) (fun h => ?_)
  have hL : M.length ≤ 200 := by (try simp only [E.den, cmpB, arI, D.toI, D.toB, D.toL, D.len, D.mapL, D.cells, List.map_cons, List.map_nil, List.getD_cons_zero, List.getD_cons_succ, List.cons_append, List.nil_append, flatD, List.length_map, List.length_set, gt_iff_lt, ge_iff_le, beq_iff_eq, bne_iff_ne, ne_eq, decide_eq_true_eq, decide_eq_false_iff_not, Bool.not_eq_true, Bool.not_eq_false, beq_eq_false_iff_ne, Int.not_lt, Int.not_le, Decidable.not_not, Bool.false_eq_true, Bool.true_eq_false, bne_eq_false_iff_eq] at *); omega
  clear h
  refine den_ite (fun h => ?_) (fun h => ?_)
  · exfalso; (try simp only [E.den, cmpB, arI, D.toI, D.toB, D.toL, D.len, D.mapL, D.cells, List.map_cons, List.map_nil, List.getD_cons_zero, List.getD_cons_succ, List.cons_append, List.nil_append, flatD, List.length_map, List.length_set, gt_iff_lt, ge_iff_le, beq_iff_eq, bne_iff_ne, ne_eq, decide_eq_true_eq, decide_eq_false_iff_not, Bool.not_eq_true, Bool.not_eq_false, beq_eq_false_iff_ne, Int.not_lt, Int.not_le, Decidable.not_not, Bool.false_eq_true, Bool.true_eq_false, bne_eq_false_iff_eq] at *); first | exact h rfl | exact h trivial | exact h
  clear h
  have h0 : thI [0, 0, 0, 0] [0, 0, 0, 0] 0 := by
    refine ⟨rfl, rfl, fun j hj => ?_⟩
    have : j = 0 ∨ j = 1 ∨ j = 2 ∨ j = 3 := by omega
    rcases this with rfl | rfl | rfl | rfl <;> decide
  refine den_loop (stT M.length) (stTm M.length) ⟨[0, 0, 0, 0], [0, 0, 0, 0], false, 0, rfl, by omega, by omega, h0⟩ ?_
  simp only [AllSh]
  intro c _ _ t _ _ f _ _ q1 _ q2 _ a i _ _ ⟨L, R, a', i', he, hi0, hi1, hI⟩
  simp only [List.cons.injEq, D.int.injEq, D.bool.injEq, D.lst.injEq, true_and, and_true] at he
  obtain ⟨rfl, rfl, rfl, rfl, rfl, rfl, rfl⟩ := he
  (try simp only [List.cons_append, List.nil_append])
  refine den_ite (fun h => ?_) (fun h => ex_end (den_ret rfl))
  have hi2 : i < M.length := by (try simp only [E.den, cmpB, arI, D.toI, D.toB, D.toL, D.len, D.mapL, D.cells, List.map_cons, List.map_nil, List.getD_cons_zero, List.getD_cons_succ, List.cons_append, List.nil_append, flatD, List.length_map, List.length_set, gt_iff_lt, ge_iff_le, beq_iff_eq, bne_iff_ne, ne_eq, decide_eq_true_eq, decide_eq_false_iff_not, Bool.not_eq_true, Bool.not_eq_false, beq_eq_false_iff_ne, Int.not_lt, Int.not_le, Decidable.not_not, Bool.false_eq_true, Bool.true_eq_false, bne_eq_false_iff_eq] at *); exact h
  clear h
  have hw : IntKind.wrap .i64 (i + 1) = i + 1 := wrap_i64 (by omega) (by omega)
  obtain ⟨⟨k, m, l⟩, hX⟩ : ∃ x, M.getD i.toNat default = x := ⟨_, rfl⟩
  have hx : (M.map mnD).getD i.toNat default = .rc [I64d k, I64d m, I64d l] := by rw [get_map default hi0 hi2, hX]; rfl
  refine den_ev (evs_ob (by (try simp only [E.den, cmpB, arI, D.toI, D.toB, D.toL, D.len, D.mapL, D.cells, List.map_cons, List.map_nil, List.getD_cons_zero, List.getD_cons_succ, List.cons_append, List.nil_append, flatD, List.length_map, List.length_set, gt_iff_lt, ge_iff_le, beq_iff_eq, bne_iff_ne, ne_eq, decide_eq_true_eq, decide_eq_false_iff_not, Bool.not_eq_true, Bool.not_eq_false, beq_eq_false_iff_ne, Int.not_lt, Int.not_le, Decidable.not_not, Bool.false_eq_true, Bool.true_eq_false, bne_eq_false_iff_eq]); exact hi0) (evs_ob (by (try simp only [E.den, cmpB, arI, D.toI, D.toB, D.toL, D.len, D.mapL, D.cells, List.map_cons, List.map_nil, List.getD_cons_zero, List.getD_cons_succ, List.cons_append, List.nil_append, flatD, List.length_map, List.length_set, gt_iff_lt, ge_iff_le, beq_iff_eq, bne_iff_ne, ne_eq, decide_eq_true_eq, decide_eq_false_iff_not, Bool.not_eq_true, Bool.not_eq_false, beq_eq_false_iff_ne, Int.not_lt, Int.not_le, Decidable.not_not, Bool.false_eq_true, Bool.true_eq_false, bne_eq_false_iff_eq]); exact hi2) (evs_nil ?_)))
  refine den_ite (fun h1 => ex_end (den_ret rfl)) (fun h1 => ?_)
  refine den_ite (fun h2 => ex_end (den_ret rfl)) (fun h2 => ?_)
  refine den_ite (fun h3 => ex_end (den_ret rfl)) (fun h3 => ?_)
  refine den_ite (fun h4 => ex_end (den_ret rfl)) (fun h4 => ?_)
  refine den_ite (fun h5 => ex_end (den_ret rfl)) (fun h5 => ?_)
  refine den_ite (fun h6 => ex_end (den_ret rfl)) (fun h6 => ?_)
  simp only [flatD, List.cons_append, List.nil_append, datas] at *
  simp only [E.den, cmpB, D.toI, D.toB, D.toL, List.getD_cons_zero, List.getD_cons_succ, hx, decide_eq_false_iff_not] at h1 h2 h3 h4 h5 h6
  have hk : IntKind.wrap .i64 (k - 1) = k - 1 := wrap_i64 (by omega) (by omega)
  have k0 : 0 ≤ k - 1 := by omega
  have k1 : k - 1 < 4 := by omega
  obtain ⟨hA, hB⟩ := third_step (k := k) (m := m) (l := l) hI (by omega) (by omega) (by omega) (by omega) (by omega) (by omega)
  have hLL : (L.length : Int) = 4 := by have := hI.1; omega
  have hRL : (R.length : Int) = 4 := by have := hI.2.1; omega
  have hr := hI.2.2 (k - 1).toNat (by omega)
  have hR : (R.map I64d).getD (k - 1).toNat default = I64d (R.getD (k - 1).toNat 0) := get_I (L := R) k0 (by omega)
  have hRs : ∀ x : D, ((R.map I64d).set (k - 1).toNat x).getD (k - 1).toNat default = x := fun x => getset (L := R) k0 (by omega) x
  have hz : IntKind.wrap .i64 (R.getD (k - 1).toNat 0 + 1) = R.getD (k - 1).toNat 0 + 1 := wrap_i64 (by omega) (by omega)
  have hq : IntKind.wrap .i64 (IntKind.wrap .i64 (l + IntKind.wrap .i64 (l.tdiv 10)) + 100) = wThr l := rfl
  have hc := watch_fn 0 0 0 L k m l (by omega)
  unfold wR at hc
  generalize wB 0 0 0 L k m l = b at *
  generalize wL 0 0 0 L k m l = L' at *
  have hback : ∀ (q1 q2 q3 q4 q5 : D) (eR : E) (R' : List Int), thI L' R' (i + 1) →
      E.den [.lst (M.map mnD), q1, q2, q3, q4, q5, I64d 0, I64d 0, I64d 0, .lst (L.map I64d), .lst (R.map I64d), .bool a, I64d i, I64d 0, I64d 0, I64d 0, .lst (L'.map I64d), .bool b] eR = .lst (R'.map I64d) →
      VC.den Try.prog [] (fun r' => r' = .ok [.bool true]) (.back 0 [.v 13, .v 14, .v 15, .v 16, eR, .v 11, .ar .add .i64 (.v 12) (.ki .i64 1)]) [⟨stT M.length, stTm M.length, stTm M.length [I64d 0, I64d 0, I64d 0, .lst (L.map I64d), .lst (R.map I64d), .bool a, I64d i]⟩] [.lst (M.map mnD), q1, q2, q3, q4, q5, I64d 0, I64d 0, I64d 0, .lst (L.map I64d), .lst (R.map I64d), .bool a, I64d i, I64d 0, I64d 0, I64d 0, .lst (L'.map I64d), .bool b] := by
    intro q1 q2 q3 q4 q5 eR R' h1 h2
    refine den_back rfl ⟨L', R', a, i + 1, ?_, by omega, by omega, h1⟩ ?_
    · simp only [E.den, cmpB, arI, D.toI, D.toB, D.toL, D.len, D.mapL, List.map_cons, List.map_nil, List.getD_cons_zero, List.getD_cons_succ, List.length_map, List.length_set, h2, hw]
    · simp only [stTm, E.den, cmpB, arI, D.toI, D.toB, D.toL, D.len, D.mapL, List.map_cons, List.map_nil, List.getD_cons_zero, List.getD_cons_succ, List.length_map, List.length_set, h2, hw]; omega
  refine den_ite (fun h => ?_) (fun h => ?_)
  · have h : wThr l < m := by
      simp only [E.den, cmpB, arI, D.toI, D.toB, D.toL, D.len, D.mapL, List.map_cons, List.map_nil, List.getD_cons_zero, List.getD_cons_succ, List.length_map, List.length_set, hx, hq, decide_eq_true_eq, gt_iff_lt] at h; exact h
    obtain ⟨hA1, hA2⟩ := hA (by omega)
    refine den_ev (evs_ob (by simp only [E.den, cmpB, arI, D.toI, D.toB, D.toL, D.len, D.mapL, List.map_cons, List.map_nil, List.getD_cons_zero, List.getD_cons_succ, List.length_map, List.length_set, hx, hk, hRL, decide_eq_true_eq, ge_iff_le]; omega) (evs_ob (by simp only [E.den, cmpB, arI, D.toI, D.toB, D.toL, D.len, D.mapL, List.map_cons, List.map_nil, List.getD_cons_zero, List.getD_cons_succ, List.length_map, List.length_set, hx, hk, hRL, decide_eq_true_eq, ge_iff_le]; omega) (evs_nil (den_ev (evs_ob (by simp only [E.den, cmpB, arI, D.toI, D.toB, D.toL, D.len, D.mapL, List.map_cons, List.map_nil, List.getD_cons_zero, List.getD_cons_succ, List.length_map, List.length_set, hx, hk, hRL, decide_eq_true_eq, ge_iff_le]; omega) (evs_nil (den_ev (evs_ob (by simp only [E.den, cmpB, arI, D.toI, D.toB, D.toL, D.len, D.mapL, List.map_cons, List.map_nil, List.getD_cons_zero, List.getD_cons_succ, List.length_map, List.length_set, hx, hk, hRL, decide_eq_true_eq, ge_iff_le]; omega) (evs_ob (by simp only [E.den, cmpB, arI, D.toI, D.toB, D.toL, D.len, D.mapL, List.map_cons, List.map_nil, List.getD_cons_zero, List.getD_cons_succ, List.length_map, List.length_set, hx, hk, hRL, decide_eq_true_eq, ge_iff_le]; omega) (evs_nil (den_ev (evs_ob (by simp only [E.den, cmpB, arI, D.toI, D.toB, D.toL, D.len, D.mapL, List.map_cons, List.map_nil, List.getD_cons_zero, List.getD_cons_succ, List.length_map, List.length_set, hx, hk, hRL, decide_eq_true_eq, ge_iff_le]; omega) (evs_nil ?_)))))))))))))
    refine den_cal [I64d 0, I64d 0, I64d 0, .lst (L'.map I64d), .bool b] rfl hc (by simp only [E.den, cmpB, arI, D.toI, D.toB, D.toL, D.len, D.mapL, List.map_cons, List.map_nil, List.getD_cons_zero, List.getD_cons_succ, List.length_map, List.length_set, hx, sf]) rfl ?_
    simp only [List.cons_append, List.nil_append]
    refine den_ev (evs_ob (by simp only [E.den, cmpB, arI, D.toI, D.toB, D.toL, D.len, D.mapL, List.map_cons, List.map_nil, List.getD_cons_zero, List.getD_cons_succ, List.length_map, List.length_set, hx, hk, hRL, decide_eq_true_eq, ge_iff_le]; omega) (evs_ob (by simp only [E.den, cmpB, arI, D.toI, D.toB, D.toL, D.len, D.mapL, List.map_cons, List.map_nil, List.getD_cons_zero, List.getD_cons_succ, List.length_map, List.length_set, hx, hk, hRL, decide_eq_true_eq, ge_iff_le]; omega) (evs_nil (den_ev (evs_ob (by simp only [E.den, cmpB, arI, D.toI, D.toB, D.toL, D.len, D.mapL, List.map_cons, List.map_nil, List.getD_cons_zero, List.getD_cons_succ, List.length_map, List.length_set, hx, hk, hRL, decide_eq_true_eq, ge_iff_le]; omega) (evs_nil ?_))))))
    refine den_ite (fun h1 => ?_) (fun h1 => ?_)
    · refine den_ev (evs_ob (by simp only [E.den, cmpB, arI, D.toI, D.toB, D.toL, D.len, D.mapL, List.map_cons, List.map_nil, List.getD_cons_zero, List.getD_cons_succ, List.length_map, List.length_set, hx, hk, hRL, decide_eq_true_eq, ge_iff_le]; omega) (evs_ob (by simp only [E.den, cmpB, arI, D.toI, D.toB, D.toL, D.len, D.mapL, List.map_cons, List.map_nil, List.getD_cons_zero, List.getD_cons_succ, List.length_map, List.length_set, hx, hk, hRL, decide_eq_true_eq, ge_iff_le]; omega) (evs_nil (den_ev (evs_ob (by simp only [E.den, cmpB, arI, D.toI, D.toB, D.toL, D.len, D.mapL, List.map_cons, List.map_nil, List.getD_cons_zero, List.getD_cons_succ, List.length_map, List.length_set, hx, hk, hRL, decide_eq_true_eq, ge_iff_le]; omega) (evs_nil ?_))))))
      refine den_ite (fun h2 => ?_) (fun h2 => ?_)
      · exact hback _ _ _ _ _ _ _ hA2 (by simp only [E.den, cmpB, arI, D.toI, D.toB, D.toL, D.len, D.mapL, List.map_cons, List.map_nil, List.getD_cons_zero, List.getD_cons_succ, List.length_map, List.length_set, hx, hk, hR, hz, set_map])
      · exfalso
        simp only [E.den, cmpB, arI, D.toI, D.toB, D.toL, D.len, D.mapL, List.map_cons, List.map_nil, List.getD_cons_zero, List.getD_cons_succ, List.length_map, List.length_set, hx, hk, hR, hz, hRs, hA1] at h2
        generalize (R.getD (k - 1).toNat 0 + 1).tmod 3 = z at h2
        by_cases hd : z = 0
        · subst hd; cases h2
        · have e1 : decide (z = 0) = false := decide_eq_false hd
          have e2 : (z == 0) = false := beq_eq_false_iff_ne.2 hd
          rw [e1, e2] at h2
          cases h2
    · exfalso
      simp only [E.den, cmpB, arI, D.toI, D.toB, D.toL, D.len, D.mapL, List.map_cons, List.map_nil, List.getD_cons_zero, List.getD_cons_succ, List.length_map, List.length_set, hx, hk, hR, hz, hRs, decide_eq_false_iff_not] at h1
      omega
  · have h : m ≤ wThr l := by
      simp only [E.den, cmpB, arI, D.toI, D.toB, D.toL, D.len, D.mapL, List.map_cons, List.map_nil, List.getD_cons_zero, List.getD_cons_succ, List.length_map, List.length_set, hx, hq, decide_eq_false_iff_not, gt_iff_lt, Int.not_lt] at h; exact h
    obtain ⟨hA1, hA2⟩ := hB (by omega)
    refine den_ev (evs_ob (by simp only [E.den, cmpB, arI, D.toI, D.toB, D.toL, D.len, D.mapL, List.map_cons, List.map_nil, List.getD_cons_zero, List.getD_cons_succ, List.length_map, List.length_set, hx, hk, hRL, decide_eq_true_eq, ge_iff_le]; omega) (evs_ob (by simp only [E.den, cmpB, arI, D.toI, D.toB, D.toL, D.len, D.mapL, List.map_cons, List.map_nil, List.getD_cons_zero, List.getD_cons_succ, List.length_map, List.length_set, hx, hk, hRL, decide_eq_true_eq, ge_iff_le]; omega) (evs_nil (den_ev (evs_ob (by simp only [E.den, cmpB, arI, D.toI, D.toB, D.toL, D.len, D.mapL, List.map_cons, List.map_nil, List.getD_cons_zero, List.getD_cons_succ, List.length_map, List.length_set, hx, hk, hRL, decide_eq_true_eq, ge_iff_le]; omega) (evs_nil ?_))))))
    refine den_cal [I64d 0, I64d 0, I64d 0, .lst (L'.map I64d), .bool b] rfl hc (by simp only [E.den, cmpB, arI, D.toI, D.toB, D.toL, D.len, D.mapL, List.map_cons, List.map_nil, List.getD_cons_zero, List.getD_cons_succ, List.length_map, List.length_set, hx, sf]) rfl ?_
    simp only [List.cons_append, List.nil_append]
    refine den_ev (evs_ob (by simp only [E.den, cmpB, arI, D.toI, D.toB, D.toL, D.len, D.mapL, List.map_cons, List.map_nil, List.getD_cons_zero, List.getD_cons_succ, List.length_map, List.length_set, hx, hk, hRL, decide_eq_true_eq, ge_iff_le]; omega) (evs_ob (by simp only [E.den, cmpB, arI, D.toI, D.toB, D.toL, D.len, D.mapL, List.map_cons, List.map_nil, List.getD_cons_zero, List.getD_cons_succ, List.length_map, List.length_set, hx, hk, hRL, decide_eq_true_eq, ge_iff_le]; omega) (evs_nil (den_ev (evs_ob (by simp only [E.den, cmpB, arI, D.toI, D.toB, D.toL, D.len, D.mapL, List.map_cons, List.map_nil, List.getD_cons_zero, List.getD_cons_succ, List.length_map, List.length_set, hx, hk, hRL, decide_eq_true_eq, ge_iff_le]; omega) (evs_nil ?_))))))
    refine den_ite (fun h1 => ?_) (fun h1 => ?_)
    · exfalso
      simp only [E.den, cmpB, arI, D.toI, D.toB, D.toL, D.len, D.mapL, List.map_cons, List.map_nil, List.getD_cons_zero, List.getD_cons_succ, List.length_map, List.length_set, hx, hk, hRs, decide_eq_true_eq] at h1
      omega
    · refine den_ite (fun h2 => ?_) (fun h2 => ?_)
      · exact hback _ _ _ _ _ _ _ hA2 (by simp only [E.den, cmpB, arI, D.toI, D.toB, D.toL, D.len, D.mapL, List.map_cons, List.map_nil, List.getD_cons_zero, List.getD_cons_succ, List.length_map, List.length_set, hx, hk, set_map])
      · exfalso
        simp only [E.den, cmpB, arI, D.toI, D.toB, D.toL, D.len, D.mapL, List.map_cons, List.map_nil, List.getD_cons_zero, List.getD_cons_succ, List.length_map, List.length_set, hA1] at h2
        cases h2

set_option maxRecDepth 100000 in
theorem safeThird_lifted (os : Os) (started : os.Started) (H : Type) (enc : TypeId × Value → H) :
    ReturnsInHanded {} Try.checked os 8 .any (Rows.safeThirdSpec.pre6 enc Try.prog Try.f8 Rows.safeThirdRow.domain false) (Rows.safeThirdSpec.post enc Try.prog Try.f8 false true false false) := by
  refine returnsInHanded_of_change (C := Try.checked) own started (by kernel_rfl) Try.func8
    (ChangeSpec.witness6 (enc := enc) (C := Try.checked) false ⟨#[], #[.slice none 0 0], []⟩ 8 (by kernel_rfl) (by kernel_rfl) (by kernel_rfl) (by kernel_rfl)) ?_
  intro W base args ds gs before hval0 hW hcnd _
  have hval : ∀ (j : Nat) t v, Try.f8.params[j]? = some t → args[j]? = some v → Value.okWide Try.prog W .any base t v := hval0
  obtain ⟨q, q', hA0, _, _, _, _⟩ := id hW
  have hA : DataW.TrodAll enc Try.prog W 0 (fun _ => true) true Try.f8.params.toList args.toList ds q := hA0
  have walk := law_walk (P := Try.prog) (f := 8) (fn := Try.f8) (fun p hp => by cases hp) (Ts := [tMs]) (by kernel_rfl) law_all hval hA
  rw [Try.params8] at hA
  obtain ⟨v0, vs0, d0, ds0, p0, q0, hargs0, rfl, rfl, h0, r0⟩ := trodAll_cons hA
  obtain ⟨rfl, rfl, rfl⟩ := trodAll_nil r0
  refine walk.mono fun e W' ⟨he, hb⟩ => ?_
  subst he
  exact ⟨_, rfl, law_post (tb := 4) laidOut rfl (by kernel_rfl) rfl Try.underlying4 hW rfl hb⟩

theorem safeThird_holds : Rows.SafeThirdSaid :=
  OpenClaim.holds_of_wide 8 Try.f8 rfl rfl rfl rfl rfl rfl rfl ⟨rfl, rfl, rfl, rfl, rfl⟩ rfl rfl rfl rfl rfl (by kernel_rfl) Try.func8 (by kernel_rfl)
    (of_decide_eq_true (by kernel_rfl)) (by unfold Func.isWrapper; first | (rw [if_pos (by decide +kernel)]; kernel_rfl) | (rw [if_neg (by decide +kernel)]; exact ⟨rfl, rfl⟩))
    (fun os started H enc _ => safeThird_lifted os started H enc)
#print axioms safeThird_holds
end Go.Proofs.Ytggmgfkefbfhpaa
