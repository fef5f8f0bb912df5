/-
  The error of a message. No conditions stand ahead of what is proved.
-/
import Derived.Test.YtindphofgojfbaaV26c
set_option maxRecDepth 100000
set_option linter.unusedSimpArgs false
set_option linter.unusedVariables false
namespace Go.Proofs.Ytindphofgojfbaa.V26
open Go.Proofs.Ytindphofgojfbaa Go.Proofs.Ytindphofgojfbaa.Sy Go.Proofs.Ytindphofgojfbaa.L7 Go.Proofs.Ytindphofgojfbaa.Id Go.Proofs.Ytindphofgojfbaa.R26 Go.RowKit Go.WideShapes Go.ChangeShapes Go.ChangeAt
theorem ext_full {L : List Int} : ∀ (l : List Bool) (k : Nat), extS L k l = false → ∀ i, i < l.length → l.getD i false = true → mi L ((k + i : Nat) + 4) = 1
  | [], _, _, i, hi, _ => by simp at hi
  | b :: l, k, h, i, hi, hb => by
    rw [extS] at h
    split at h
    · cases h
    · rename_i hc
      have hm := mi_rng L (k + 4)
      cases i with
      | zero =>
        rw [List.getD_cons_zero] at hb
        simp only [Nat.add_zero]
        by_cases h1 : mi L (k + 4) = 0
        · exact absurd ⟨hb, h1⟩ hc
        · omega
      | succ i =>
        rw [List.getD_cons_succ] at hb
        have := ext_full l (k + 1) h i (by simpa using hi) hb
        rw [show k + (i + 1) = k + 1 + i from by omega]
        exact this
theorem ex_num {m : Msg} (hx : exB m = false) : (m.sq ≠ 0 → mi (useL m.ki m.ac) 6 = 1) ∧ (m.at' ≠ 0 → mi (useL m.ki m.ac) 7 = 1) ∧ (m.va ≠ 0 → mi (useL m.ki m.ac) 8 = 1) := by
  have h := ext_full (fulL m) 0 hx
  refine ⟨fun c => ?_, fun c => ?_, fun c => ?_⟩
  · have := h 2 (by simp [fulL]) (by simp [fulL, c]); simpa using this
  · have := h 3 (by simp [fulL]) (by simp [fulL, c]); simpa using this
  · have := h 4 (by simp [fulL]) (by simp [fulL, c]); simpa using this
theorem numE_ex {m : Msg} (hx : exB m = false) : numE m (useL m.ki m.ac) = if ((mi (useL m.ki m.ac) 4 = 1 ∧ (m.co < 1 ∨ 32 < m.co)) ∨ (mi (useL m.ki m.ac) 5 = 1 ∧ ((m.ki = 3 ∧ (m.st < 1 ∨ 25 < m.st)) ∨ (m.ki ≠ 3 ∧ (m.st < 0 ∨ 100 < m.st)))) ∨ (m.sq < 0 ∨ 2147483647 < m.sq) ∨ (m.at' < 0 ∨ 268435456 < m.at') ∨ (m.va < 0 ∨ 2147483647 < m.va)) then 2 else 0 := by
  obtain ⟨x6, x7, x8⟩ := ex_num hx
  have e6 : (mi (useL m.ki m.ac) 6 = 1 ∧ (m.sq < 0 ∨ 2147483647 < m.sq)) ↔ (m.sq < 0 ∨ 2147483647 < m.sq) := ⟨fun h => h.2, fun h => ⟨x6 (by omega), h⟩⟩
  have e7 : (mi (useL m.ki m.ac) 7 = 1 ∧ (m.at' < 0 ∨ 268435456 < m.at')) ↔ (m.at' < 0 ∨ 268435456 < m.at') := ⟨fun h => h.2, fun h => ⟨x7 (by omega), h⟩⟩
  have e8 : (mi (useL m.ki m.ac) 8 = 1 ∧ (m.va < 0 ∨ 2147483647 < m.va)) ↔ (m.va < 0 ∨ 2147483647 < m.va) := ⟨fun h => h.2, fun h => ⟨x8 (by omega), h⟩⟩
  unfold numE
  simp only [e6, e7, e8]
theorem int_neq (n k : Int) : (n != k) = decide (¬ n = k) := by rw [Bool.eq_iff_iff]; simp
set_option maxHeartbeats 4000000 in
theorem mnum_fn (m : Msg) (hk : 1 ≤ m.ki ∧ m.ki ≤ 3) (ha : actP m.ac = true) (hx : exB m = false) : Fun Try.prog [] 32 [tM, tI] [msD m, I64d (useK m.ki m.ac)] [tB] (.ok [.bool (decide (numE m (useL m.ki m.ac) = 0))]) := by
  have hne := numE_ex hx
  have b4 : (arI .and .i64 (useK m.ki m.ac) 1 = 0) = ¬ (mi (useL m.ki m.ac) 4 = 1) := by (have h : (arI .and .i64 (useK m.ki m.ac) 1 = 0) = (mi (useL m.ki m.ac) 4 = 0) := (by have h0 := use_and hk ha 0 (by decide); simpa using h0); have r := mi_rng (useL m.ki m.ac) 4; rw [h]; exact propext (by omega))
  have b5 : (arI .and .i64 (useK m.ki m.ac) 2 = 0) = ¬ (mi (useL m.ki m.ac) 5 = 1) := by (have h : (arI .and .i64 (useK m.ki m.ac) 2 = 0) = (mi (useL m.ki m.ac) 5 = 0) := (by have h0 := use_and hk ha 1 (by decide); simpa using h0); have r := mi_rng (useL m.ki m.ac) 5; rw [h]; exact propext (by omega))
  clear hx hk ha
  refine mnum_ent _ _ ?_
  show vcmnum.den _ _ _ _ _
  unfold vcmnum
  refine den_join (fun xs => xs = [] ∧ (¬ (mi (useL m.ki m.ac) 4 = 1 ∧ (m.co < 1 ∨ 32 < m.co)))) ?_ ?_
  · skip
    refine den_ite (fun h1 => ?_) (fun h1 => ?_)
    · simp only [dF, dE, str_eq, emp_iff, ni_t, ni_f, b4, b5] at h1
      refine den_ite (fun h2 => ?_) (fun h2 => ?_)
      · simp only [dF, dE, str_eq, emp_iff, ni_t, ni_f, b4, b5] at h2
        refine den_ret ?_
        simp only [dF, dE]
        rw [show numE m (useL m.ki m.ac) = 2 from by rw [hne, if_pos (by omega)]]
        rfl
      · simp only [dF, dE, str_eq, emp_iff, ni_t, ni_f, b4, b5] at h2
        refine den_ite (fun h3 => ?_) (fun h3 => ?_)
        · simp only [dF, dE, str_eq, emp_iff, ni_t, ni_f, b4, b5] at h3
          refine den_ret ?_
          simp only [dF, dE]
          rw [show numE m (useL m.ki m.ac) = 2 from by rw [hne, if_pos (by omega)]]
          rfl
        · simp only [dF, dE, str_eq, emp_iff, ni_t, ni_f, b4, b5] at h3
          exact den_back rfl ⟨rfl, by omega⟩ (by simp only []; omega)
    · simp only [dF, dE, str_eq, emp_iff, ni_t, ni_f, b4, b5] at h1
      exact den_back rfl ⟨rfl, by omega⟩ (by simp only []; omega)
  rintro _ ⟨rfl, kJ1⟩
  (try simp only [List.cons_append, List.nil_append])
  refine den_join (fun xs => xs = [] ∧ (¬ (mi (useL m.ki m.ac) 5 = 1 ∧ ((m.ki = 3 ∧ (m.st < 1 ∨ 25 < m.st)) ∨ (m.ki ≠ 3 ∧ (m.st < 0 ∨ 100 < m.st)))))) ?_ ?_
  · skip
    refine den_ite (fun h4 => ?_) (fun h4 => ?_)
    · simp only [dF, dE, str_eq, emp_iff, ni_t, ni_f, b4, b5] at h4
      refine den_join (fun xs => ∃ lo hi, xs = [I64d lo, I64d hi] ∧ ((m.ki = 3 ∧ lo = 1 ∧ hi = 25) ∨ (m.ki ≠ 3 ∧ lo = 0 ∧ hi = 100))) ?_ ?_
      · skip
        refine den_ite (fun h5 => ?_) (fun h5 => ?_)
        · simp only [dF, dE, str_eq, emp_iff, ni_t, ni_f, b4, b5] at h5
          exact den_back rfl ⟨1, 25, rfl, by omega⟩ (by simp only []; omega)
        · simp only [dF, dE, str_eq, emp_iff, ni_t, ni_f, b4, b5] at h5
          exact den_back rfl ⟨0, 100, rfl, by omega⟩ (by simp only []; omega)
      rintro _ ⟨lo, hi, rfl, kJ3⟩
      (try simp only [List.cons_append, List.nil_append])
      refine den_ite (fun h6 => ?_) (fun h6 => ?_)
      · simp only [dF, dE, str_eq, emp_iff, ni_t, ni_f, b4, b5] at h6
        refine den_ret ?_
        simp only [dF, dE]
        rw [show numE m (useL m.ki m.ac) = 2 from by rw [hne, if_pos (by omega)]]
        rfl
      · simp only [dF, dE, str_eq, emp_iff, ni_t, ni_f, b4, b5] at h6
        refine den_ite (fun h7 => ?_) (fun h7 => ?_)
        · simp only [dF, dE, str_eq, emp_iff, ni_t, ni_f, b4, b5] at h7
          refine den_ret ?_
          simp only [dF, dE]
          rw [show numE m (useL m.ki m.ac) = 2 from by rw [hne, if_pos (by omega)]]
          rfl
        · simp only [dF, dE, str_eq, emp_iff, ni_t, ni_f, b4, b5] at h7
          exact den_back rfl ⟨rfl, by omega⟩ (by simp only []; omega)
    · simp only [dF, dE, str_eq, emp_iff, ni_t, ni_f, b4, b5] at h4
      exact den_back rfl ⟨rfl, by omega⟩ (by simp only []; omega)
  rintro _ ⟨rfl, kJ2⟩
  (try simp only [List.cons_append, List.nil_append])
  refine den_ite (fun h8 => ?_) (fun h8 => ?_)
  · simp only [dF, dE, str_eq, emp_iff, ni_t, ni_f, b4, b5] at h8
    refine den_ite (fun h9 => ?_) (fun h9 => ?_)
    · simp only [dF, dE, str_eq, emp_iff, ni_t, ni_f, b4, b5] at h9
      refine den_ite (fun h10 => ?_) (fun h10 => ?_)
      · simp only [dF, dE, str_eq, emp_iff, ni_t, ni_f, b4, b5] at h10
        refine den_ite (fun h11 => ?_) (fun h11 => ?_)
        · simp only [dF, dE, str_eq, emp_iff, ni_t, ni_f, b4, b5] at h11
          refine den_ite (fun h12 => ?_) (fun h12 => ?_)
          · simp only [dF, dE, str_eq, emp_iff, ni_t, ni_f, b4, b5] at h12
            refine den_ret ?_
            simp only [dF, dE]
            (try simp only [int_neq])
            rw [show decide (numE m (useL m.ki m.ac) = 0) = decide (m.va ≤ 2147483647) from if hc : m.va ≤ 2147483647 then (by rw [decide_eq_true hc, show numE m (useL m.ki m.ac) = 0 from by rw [hne, if_neg (by omega)]]; rfl) else (by rw [decide_eq_false hc, show numE m (useL m.ki m.ac) = 2 from by rw [hne, if_pos (by omega)]]; rfl)]
          · simp only [dF, dE, str_eq, emp_iff, ni_t, ni_f, b4, b5] at h12
            refine den_ret ?_
            simp only [dF, dE]
            rw [show numE m (useL m.ki m.ac) = 2 from by rw [hne, if_pos (by omega)]]
            rfl
        · simp only [dF, dE, str_eq, emp_iff, ni_t, ni_f, b4, b5] at h11
          refine den_ret ?_
          simp only [dF, dE]
          rw [show numE m (useL m.ki m.ac) = 2 from by rw [hne, if_pos (by omega)]]
          rfl
      · simp only [dF, dE, str_eq, emp_iff, ni_t, ni_f, b4, b5] at h10
        refine den_ret ?_
        simp only [dF, dE]
        rw [show numE m (useL m.ki m.ac) = 2 from by rw [hne, if_pos (by omega)]]
        rfl
    · simp only [dF, dE, str_eq, emp_iff, ni_t, ni_f, b4, b5] at h9
      refine den_ret ?_
      simp only [dF, dE]
      rw [show numE m (useL m.ki m.ac) = 2 from by rw [hne, if_pos (by omega)]]
      rfl
  · simp only [dF, dE, str_eq, emp_iff, ni_t, ni_f, b4, b5] at h8
    refine den_ret ?_
    simp only [dF, dE]
    rw [show numE m (useL m.ki m.ac) = 2 from by rw [hne, if_pos (by omega)]]
    rfl
set_option maxHeartbeats 4000000 in
theorem mnam_fn (m : Msg) (hk : 1 ≤ m.ki ∧ m.ki ≤ 3) (ha : actP m.ac = true) (s1 : m.tx.size ≤ maxLen) (s2 : m.tk.size ≤ maxLen) (s3 : m.te.size ≤ maxLen) : Fun Try.prog [] 33 [tM, tI] [msD m, I64d (useK m.ki m.ac)] [tB] (.ok [.bool (decide (txtE m (useL m.ki m.ac) = 0))]) := by
  have b9 : (arI .and .i64 (useK m.ki m.ac) 32 = 0) = ¬ (mi (useL m.ki m.ac) 9 = 1) := by (have h : (arI .and .i64 (useK m.ki m.ac) 32 = 0) = (mi (useL m.ki m.ac) 9 = 0) := (by have h0 := use_and hk ha 5 (by decide); simpa using h0); have r := mi_rng (useL m.ki m.ac) 9; rw [h]; exact propext (by omega))
  have b10 : (arI .and .i64 (useK m.ki m.ac) 64 = 0) = ¬ (mi (useL m.ki m.ac) 10 = 1) := by (have h : (arI .and .i64 (useK m.ki m.ac) 64 = 0) = (mi (useL m.ki m.ac) 10 = 0) := (by have h0 := use_and hk ha 6 (by decide); simpa using h0); have r := mi_rng (useL m.ki m.ac) 10; rw [h]; exact propext (by omega))
  have b11 : (arI .and .i64 (useK m.ki m.ac) 128 = 0) = ¬ (mi (useL m.ki m.ac) 11 = 1) := by (have h : (arI .and .i64 (useK m.ki m.ac) 128 = 0) = (mi (useL m.ki m.ac) 11 = 0) := (by have h0 := use_and hk ha 7 (by decide); simpa using h0); have r := mi_rng (useL m.ki m.ac) 11; rw [h]; exact propext (by omega))
  clear hk ha
  refine mnam_ent _ _ ?_
  show vcmnam.den _ _ _ _ _
  unfold vcmnam
  refine den_join (fun xs => xs = [] ∧ (¬ (mi (useL m.ki m.ac) 9 = 1 ∧ ni m.tx = 0))) ?_ ?_
  · skip
    refine den_ite (fun h1 => ?_) (fun h1 => ?_)
    · simp only [dF, dE, str_eq, emp_iff, ni_t, ni_f, b9, b10, b11] at h1
      refine den_cal [.bool (nameS m.tx)] rfl (ident_fn m.tx (by assumption)) rfl rfl ?_
      refine den_ite (fun h2 => ?_) (fun h2 => ?_)
      · simp only [dF, dE, str_eq, emp_iff, ni_t, ni_f, b9, b10, b11] at h2
        exact den_back rfl ⟨rfl, by omega⟩ (by simp only []; omega)
      · simp only [dF, dE, str_eq, emp_iff, ni_t, ni_f, b9, b10, b11] at h2
        refine den_ret ?_
        simp only [dF, dE]
        rw [show txtE m (useL m.ki m.ac) = 4 from by unfold txtE; rw [if_pos (by omega)]]
        rfl
    · simp only [dF, dE, str_eq, emp_iff, ni_t, ni_f, b9, b10, b11] at h1
      exact den_back rfl ⟨rfl, by omega⟩ (by simp only []; omega)
  rintro _ ⟨rfl, kJ1⟩
  (try simp only [List.cons_append, List.nil_append])
  refine den_join (fun xs => xs = [] ∧ (¬ (mi (useL m.ki m.ac) 10 = 1 ∧ ni m.tk = 0 ∧ ¬ (m.tk.size = 0 ∧ m.ac = 5)))) ?_ ?_
  · skip
    refine den_ite (fun h3 => ?_) (fun h3 => ?_)
    · simp only [dF, dE, str_eq, emp_iff, ni_t, ni_f, b9, b10, b11] at h3
      refine den_cal [.bool (nameS m.tk)] rfl (ident_fn m.tk (by assumption)) rfl rfl ?_
      refine den_ite (fun h4 => ?_) (fun h4 => ?_)
      · simp only [dF, dE, str_eq, emp_iff, ni_t, ni_f, b9, b10, b11] at h4
        exact den_back rfl ⟨rfl, by omega⟩ (by simp only []; omega)
      · simp only [dF, dE, str_eq, emp_iff, ni_t, ni_f, b9, b10, b11] at h4
        refine den_ite (fun h5 => ?_) (fun h5 => ?_)
        · simp only [dF, dE, str_eq, emp_iff, ni_t, ni_f, b9, b10, b11] at h5
          refine den_ite (fun h6 => ?_) (fun h6 => ?_)
          · simp only [dF, dE, str_eq, emp_iff, ni_t, ni_f, b9, b10, b11] at h6
            refine den_ret ?_
            simp only [dF, dE]
            rw [show txtE m (useL m.ki m.ac) = 4 from by unfold txtE; rw [if_pos (by omega)]]
            rfl
          · simp only [dF, dE, str_eq, emp_iff, ni_t, ni_f, b9, b10, b11] at h6
            exact den_back rfl ⟨rfl, by omega⟩ (by simp only []; omega)
        · simp only [dF, dE, str_eq, emp_iff, ni_t, ni_f, b9, b10, b11] at h5
          refine den_ret ?_
          simp only [dF, dE]
          rw [show txtE m (useL m.ki m.ac) = 4 from by unfold txtE; rw [if_pos (by omega)]]
          rfl
    · simp only [dF, dE, str_eq, emp_iff, ni_t, ni_f, b9, b10, b11] at h3
      exact den_back rfl ⟨rfl, by omega⟩ (by simp only []; omega)
  rintro _ ⟨rfl, kJ2⟩
  (try simp only [List.cons_append, List.nil_append])
  refine den_ite (fun h7 => ?_) (fun h7 => ?_)
  · simp only [dF, dE, str_eq, emp_iff, ni_t, ni_f, b9, b10, b11] at h7
    refine den_ret ?_
    simp only [dF, dE]
    rw [show txtE m (useL m.ki m.ac) = 0 from by unfold txtE; rw [if_neg (by omega)]]
    rfl
  · simp only [dF, dE, str_eq, emp_iff, ni_t, ni_f, b9, b10, b11] at h7
    refine den_cal [.bool (nameS m.te)] rfl (ident_fn m.te (by assumption)) rfl rfl ?_
    refine den_ite (fun h8 => ?_) (fun h8 => ?_)
    · simp only [dF, dE, str_eq, emp_iff, ni_t, ni_f, b9, b10, b11] at h8
      refine den_ret ?_
      simp only [dF, dE]
      rw [show txtE m (useL m.ki m.ac) = 0 from by unfold txtE; rw [if_neg (by omega)]]
      rfl
    · simp only [dF, dE, str_eq, emp_iff, ni_t, ni_f, b9, b10, b11] at h8
      refine den_ite (fun h9 => ?_) (fun h9 => ?_)
      · simp only [dF, dE, str_eq, emp_iff, ni_t, ni_f, b9, b10, b11] at h9
        refine den_ite (fun h10 => ?_) (fun h10 => ?_)
        · simp only [dF, dE, str_eq, emp_iff, ni_t, ni_f, b9, b10, b11] at h10
          refine den_ret ?_
          simp only [dF, dE]
          rw [show txtE m (useL m.ki m.ac) = 0 from by unfold txtE; rw [if_neg (by omega)]]
          rfl
        · simp only [dF, dE, str_eq, emp_iff, ni_t, ni_f, b9, b10, b11] at h10
          refine den_ret ?_
          simp only [dF, dE]
          (try simp only [int_neq])
          rw [show decide (txtE m (useL m.ki m.ac) = 0) = decide (¬ m.ac = 1) from if hc : ¬ m.ac = 1 then (by rw [decide_eq_true hc, show txtE m (useL m.ki m.ac) = 0 from by unfold txtE; rw [if_neg (by omega)]]; rfl) else (by rw [decide_eq_false hc, show txtE m (useL m.ki m.ac) = 4 from by unfold txtE; rw [if_pos (by omega)]]; rfl)]
      · simp only [dF, dE, str_eq, emp_iff, ni_t, ni_f, b9, b10, b11] at h9
        refine den_ret ?_
        simp only [dF, dE]
        rw [show txtE m (useL m.ki m.ac) = 4 from by unfold txtE; rw [if_pos (by omega)]]
        rfl
theorem mlis_fn (m : Msg) (hk : 1 ≤ m.ki ∧ m.ki ≤ 3) (ha : actP m.ac = true) (hrl : m.rd.length ≤ 64) (htl : m.tks.length ≤ 64) (ht : ∀ t ∈ m.tks, TkT t) (hpt : m.p.tx.size ≤ maxLen) (hpe : m.p.pe.length ≤ 4294967296) : Fun Try.prog [] 34 [tM, tI] [msD m, I64d (useK m.ki m.ac)] [tI] (.ok [I64d (lisE m (useL m.ki m.ac))]) := by
  have b14 : (arI .and .i64 (useK m.ki m.ac) 1024 = 0) = ¬ (mi (useL m.ki m.ac) 14 = 1) := by (have h : (arI .and .i64 (useK m.ki m.ac) 1024 = 0) = (mi (useL m.ki m.ac) 14 = 0) := (by have h0 := use_and hk ha 10 (by decide); simpa using h0); have r := mi_rng (useL m.ki m.ac) 14; rw [h]; exact propext (by omega))
  refine mlis_ent _ _ ?_
  show vcmlis.den _ _ _ _ _
  unfold vcmlis
  obtain ⟨L, hL⟩ : ∃ L, useL m.ki m.ac = L := ⟨_, rfl⟩
  rw [hL] at b14 ⊢
  refine den_loopI (fun xs => ∃ (q : Int) (i : Nat), xs = [I64d q, I64d i] ∧ i ≤ m.rd.length ∧ (m.rd.take i).all rdgB = true) (fun xs => m.rd.length - (xs.getD 1 default).toI.toNat) ⟨_, 0, rfl, Nat.zero_le _, rfl⟩ ?_
  rintro _ ⟨q, i, rfl, hi, hv⟩
  (try simp only [List.cons_append, List.nil_append])
  refine den_ite (fun h => ?_) (fun h => ?_)
  · simp only [dF, dE] at h
    have hi' : i < m.rd.length := by omega
    have hg := getD_map (g := rD) (0, 0) hi'
    have hmem : m.rd.getD i (0, 0) ∈ m.rd := by rw [List.getD_eq_getElem?_getD, List.getElem?_eq_getElem hi', Option.getD_some]; exact List.getElem_mem hi'
    have htk := take_get (0, 0) hi'
    have hbad : rdgB (m.rd.getD i (0, 0)) = false → lisE m L = 2 := fun hb => by
      unfold lisE
      rw [if_pos (List.all_eq_false.2 ⟨_, hmem, by rw [hb]; decide⟩)]
    generalize m.rd.getD i (0, 0) = x at hg htk hbad
    have hw : IntKind.wrap .i64 ((i : Int) + 1) = ((i + 1 : Nat) : Int) := by rw [wrap_i64 (by omega) (by omega)]; omega
    refine den_ev (evs_ob (by simp only [dF, dE]; omega) (evs_ob (by simp only [dF, dE]; omega) (evs_nil ?_)))
    refine den_ite (fun k0 => den_ret ?_) (fun k0 => ?_)
    · simp only [dF, dE, hg] at k0
      simp only [dF, dE]
      rw [hbad (by unfold rdgB; rw [decide_eq_false_iff_not]; omega)]
    simp only [dF, dE, hg] at k0
    refine den_ite (fun k1 => den_ret ?_) (fun k1 => ?_)
    · simp only [dF, dE, hg] at k1
      simp only [dF, dE]
      rw [hbad (by unfold rdgB; rw [decide_eq_false_iff_not]; omega)]
    simp only [dF, dE, hg] at k1
    refine den_ite (fun k2 => den_ret ?_) (fun k2 => ?_)
    · simp only [dF, dE, hg] at k2
      simp only [dF, dE]
      rw [hbad (by unfold rdgB; rw [decide_eq_false_iff_not]; omega)]
    simp only [dF, dE, hg] at k2
    refine den_ite (fun k3 => den_ret ?_) (fun k3 => ?_)
    · simp only [dF, dE, hg] at k3
      simp only [dF, dE]
      rw [hbad (by unfold rdgB; rw [decide_eq_false_iff_not]; omega)]
    simp only [dF, dE, hg] at k3
    have hok : rdgB x = true := by unfold rdgB; rw [decide_eq_true_eq]; omega
    refine den_back rfl ⟨q, i + 1, (by simp only [dF, dE]; rw [hw]), by omega, ?_⟩ (by simp only []; simp only [dF, dE]; rw [hw]; omega)
    rw [htk, List.all_append, hv]
    simp [hok]
  simp only [dF, dE] at h
  have hil : i = m.rd.length := by omega
  subst hil
  rw [List.take_length] at hv
  have hli : lisE m L = if mi L 14 = 1 ∧ profS m.p ≠ 0 then profS m.p else itemsS m.tks := by unfold lisE; rw [if_neg (by rw [hv]; decide)]
  refine den_ite (fun h14 => ?_) (fun h14 => ?_)
  · simp only [dF, dE, b14] at h14
    refine den_cal [I64d (profS m.p)] rfl (pval_fn m.p hpt hpe) rfl rfl ?_
    (try simp only [List.cons_append, List.nil_append])
    refine den_ite (fun h15 => den_ret ?_) (fun h15 => ?_)
    · simp only [dF, dE] at h15
      simp only [dF, dE]
      rw [hli, if_pos ⟨(by first | exact h14 | omega), h15⟩]
    simp only [dF, dE] at h15
    rw [if_neg (fun c => c.2 h15)] at hli
    refine den_loopI (fun xs => ∃ (q : Int) (i : Nat), xs = [I64d q, I64d i] ∧ i ≤ m.tks.length ∧ itemsS m.tks = itemsS (m.tks.drop i)) (fun xs => m.tks.length - (xs.getD 1 default).toI.toNat) ⟨_, 0, rfl, Nat.zero_le _, rfl⟩ ?_
    rintro _ ⟨q2, i2, rfl, hi2, hv2⟩
    (try simp only [List.cons_append, List.nil_append])
    refine den_ite (fun h => ?_) (fun h => den_ret ?_)
    rotate_left
    · simp only [dF, dE] at h
      have : i2 = m.tks.length := by omega
      subst this
      rw [List.drop_length] at hv2
      simp only [dF, dE]
      rw [hli, hv2]
      rfl
    simp only [dF, dE] at h
    have hi2' : i2 < m.tks.length := by omega
    have hg2 := getD_map (g := tkD) tok0 hi2'
    have hmem2 : m.tks.getD i2 tok0 ∈ m.tks := by rw [List.getD_eq_getElem?_getD, List.getElem?_eq_getElem hi2', Option.getD_some]; exact List.getElem_mem hi2'
    rw [drop_get tok0 hi2', itemsS] at hv2
    generalize m.tks.getD i2 tok0 = x2 at hg2 hmem2 hv2
    have hw2 : IntKind.wrap .i64 ((i2 : Int) + 1) = ((i2 + 1 : Nat) : Int) := by rw [wrap_i64 (by omega) (by omega)]; omega
    have hx2 := ht x2 hmem2
    refine den_ev (evs_ob (by simp only [dF, dE]; omega) (evs_ob (by simp only [dF, dE]; omega) (evs_nil ?_)))
    refine den_cal [I64d (itemS x2)] rfl (entry_fn x2 hx2.id hx2.gr hx2.co) (by simp only [dF, dE, hg2]) rfl ?_
    (try simp only [List.cons_append, List.nil_append])
    refine den_ite (fun k5 => den_ret ?_) (fun k5 => ?_)
    · simp only [dF, dE] at k5
      simp only [dF, dE]
      rw [hli, hv2, if_pos k5]
    simp only [dF, dE] at k5
    rw [if_neg (fun c => c k5)] at hv2
    exact den_back rfl ⟨q2, i2 + 1, (by simp only [dF, dE]; rw [hw2]), by omega, hv2⟩ (by simp only []; simp only [dF, dE]; rw [hw2]; omega)
  · simp only [dF, dE, b14] at h14
    rw [if_neg (fun c => by omega)] at hli
    refine den_loopI (fun xs => ∃ (q : Int) (i : Nat), xs = [I64d q, I64d i] ∧ i ≤ m.tks.length ∧ itemsS m.tks = itemsS (m.tks.drop i)) (fun xs => m.tks.length - (xs.getD 1 default).toI.toNat) ⟨_, 0, rfl, Nat.zero_le _, rfl⟩ ?_
    rintro _ ⟨q2, i2, rfl, hi2, hv2⟩
    (try simp only [List.cons_append, List.nil_append])
    refine den_ite (fun h => ?_) (fun h => den_ret ?_)
    rotate_left
    · simp only [dF, dE] at h
      have : i2 = m.tks.length := by omega
      subst this
      rw [List.drop_length] at hv2
      simp only [dF, dE]
      rw [hli, hv2]
      rfl
    simp only [dF, dE] at h
    have hi2' : i2 < m.tks.length := by omega
    have hg2 := getD_map (g := tkD) tok0 hi2'
    have hmem2 : m.tks.getD i2 tok0 ∈ m.tks := by rw [List.getD_eq_getElem?_getD, List.getElem?_eq_getElem hi2', Option.getD_some]; exact List.getElem_mem hi2'
    rw [drop_get tok0 hi2', itemsS] at hv2
    generalize m.tks.getD i2 tok0 = x2 at hg2 hmem2 hv2
    have hw2 : IntKind.wrap .i64 ((i2 : Int) + 1) = ((i2 + 1 : Nat) : Int) := by rw [wrap_i64 (by omega) (by omega)]; omega
    have hx2 := ht x2 hmem2
    refine den_ev (evs_ob (by simp only [dF, dE]; omega) (evs_ob (by simp only [dF, dE]; omega) (evs_nil ?_)))
    refine den_cal [I64d (itemS x2)] rfl (entry_fn x2 hx2.id hx2.gr hx2.co) (by simp only [dF, dE, hg2]) rfl ?_
    (try simp only [List.cons_append, List.nil_append])
    refine den_ite (fun k5 => den_ret ?_) (fun k5 => ?_)
    · simp only [dF, dE] at k5
      simp only [dF, dE]
      rw [hli, hv2, if_pos k5]
    simp only [dF, dE] at k5
    rw [if_neg (fun c => c k5)] at hv2
    exact den_back rfl ⟨q2, i2 + 1, (by simp only [dF, dE]; rw [hw2]), by omega, hv2⟩ (by simp only []; simp only [dF, dE]; rw [hw2]; omega)
theorem msg_parts {m : Msg} (h1 : ¬ (m.ki < 1 ∨ 3 < m.ki)) (h2 : ¬ (m.id < 1 ∨ 2147483647 < m.id)) (h3 : actP m.ac = true) (h4 : ¬ (64 < (m.rd.length : Int) ∨ 64 < (m.tks.length : Int))) :
    msgS m = if exB m = true then 1 else if numE m (useL m.ki m.ac) ≠ 0 then numE m (useL m.ki m.ac) else if txtE m (useL m.ki m.ac) ≠ 0 then txtE m (useL m.ki m.ac) else lisE m (useL m.ki m.ac) := by
  unfold msgS
  rw [if_neg h1, if_neg h2, if_neg (by rw [h3]; decide), if_neg h4]
theorem numE_two {m : Msg} {L : List Int} (h : numE m L ≠ 0) : numE m L = 2 := by unfold numE at *; split at h <;> simp_all
theorem txtE_four {m : Msg} {L : List Int} (h : txtE m L ≠ 0) : txtE m L = 4 := by unfold txtE at *; split at h <;> simp_all
set_option maxHeartbeats 4000000 in
theorem mval_fn (m : Msg) (s1 : m.tx.size ≤ maxLen) (s2 : m.tk.size ≤ maxLen) (s3 : m.te.size ≤ maxLen) (hrx : m.rd.length ≤ maxLen) (htx : m.tks.length ≤ maxLen) (ht : ∀ t ∈ m.tks, TkT t) (hpt : m.p.tx.size ≤ maxLen) (hpe : m.p.pe.length ≤ 4294967296) : Fun Try.prog [] 17 [tM] [msD m] [tI] (.ok [I64d (msgS m)]) := by
  refine mval_ent _ _ ?_
  show vcmval.den _ _ _ _ _
  unfold vcmval
  refine den_ite (fun h => den_ret ?_) (fun h => ?_)
  · simp only [dF, dE] at h
    simp only [dF, dE]
    rw [show msgS m = 1 from by unfold msgS; rw [if_pos (.inl h)]]
  simp only [dF, dE] at h
  refine den_ite (fun h1 => den_ret ?_) (fun h1 => ?_)
  · simp only [dF, dE] at h1
    simp only [dF, dE]
    rw [show msgS m = 1 from by unfold msgS; rw [if_pos (.inr h1)]]
  simp only [dF, dE] at h1
  refine den_ite (fun h2 => den_ret ?_) (fun h2 => ?_)
  · simp only [dF, dE] at h2
    simp only [dF, dE]
    rw [show msgS m = 2 from by unfold msgS; rw [if_neg (by omega), if_pos (.inl h2)]]
  simp only [dF, dE] at h2
  refine den_ite (fun h3 => den_ret ?_) (fun h3 => ?_)
  · simp only [dF, dE] at h3
    simp only [dF, dE]
    rw [show msgS m = 2 from by unfold msgS; rw [if_neg (by omega), if_pos (.inr h3)]]
  simp only [dF, dE] at h3
  refine den_cal [I64d (useK m.ki m.ac), .bool (actP m.ac)] rfl (usd_fn m.ki m.ac) rfl rfl ?_
  (try simp only [List.cons_append, List.nil_append])
  refine den_ite (fun ha => ?_) (fun ha => den_ret ?_)
  rotate_left
  · simp only [dF, dE] at ha
    simp only [dF, dE]
    rw [show msgS m = 1 from by unfold msgS; rw [if_neg (by omega), if_neg (by omega), if_pos ha]]
  simp only [dF, dE] at ha
  refine den_ite (fun h4 => den_ret ?_) (fun h4 => ?_)
  · simp only [dF, dE] at h4
    simp only [dF, dE]
    rw [show msgS m = 3 from by unfold msgS; rw [if_neg (by omega), if_neg (by omega), if_neg (by rw [ha]; decide), if_pos (.inl h4)]]
  simp only [dF, dE] at h4
  refine den_ite (fun h5 => den_ret ?_) (fun h5 => ?_)
  · simp only [dF, dE] at h5
    simp only [dF, dE]
    rw [show msgS m = 3 from by unfold msgS; rw [if_neg (by omega), if_neg (by omega), if_neg (by rw [ha]; decide), if_pos (.inr h5)]]
  simp only [dF, dE] at h5
  have hk : 1 ≤ m.ki ∧ m.ki ≤ 3 := by omega
  have hp := msg_parts (by omega) (by omega) ha (by omega)
  have hz : (arI .andNot .i64 0 (useK m.ki m.ac) = 0) := by
    show IntKind.wrap .i64 ((BitVec.ofInt 64 0 &&& ~~~ BitVec.ofInt 64 (useK m.ki m.ac)).toNat : Int) = 0
    rw [wrap_zero]
    simp
  have hpx := presR_ext (u := useK m.ki m.ac) (L := useL m.ki m.ac) (use_not hk ha) (fulL m) 0 0 (Nat.le_refl 12)
  refine den_cal [I64d (presR 0 0 (fulL m))] rfl (pres_fn m) rfl rfl ?_
  (try simp only [List.cons_append, List.nil_append])
  refine den_ite (fun h6 => den_ret ?_) (fun h6 => ?_)
  · simp only [dF, dE] at h6
    rw [hpx] at h6
    have hex : exB m = true := by
      cases hq : exB m with
      | true => rfl
      | false => exact absurd ⟨hz, hq⟩ h6
    simp only [dF, dE]
    rw [hp, if_pos hex]
  simp only [dF, dE] at h6
  rw [hpx] at h6
  have hex : exB m = false := h6.2
  rw [if_neg (by rw [hex]; decide)] at hp
  refine den_cal [.bool (decide (numE m (useL m.ki m.ac) = 0))] rfl (mnum_fn m hk ha hex) rfl rfl ?_
  (try simp only [List.cons_append, List.nil_append])
  refine den_ite (fun h7 => ?_) (fun h7 => den_ret ?_)
  rotate_left
  · simp only [dF, dE] at h7
    simp only [dF, dE]
    rw [hp, if_pos h7, numE_two h7]
  simp only [dF, dE] at h7
  rw [if_neg (fun c => c h7)] at hp
  refine den_cal [.bool (decide (txtE m (useL m.ki m.ac) = 0))] rfl (mnam_fn m hk ha s1 s2 s3) rfl rfl ?_
  (try simp only [List.cons_append, List.nil_append])
  refine den_ite (fun h8 => ?_) (fun h8 => den_ret ?_)
  rotate_left
  · simp only [dF, dE] at h8
    simp only [dF, dE]
    rw [hp, if_pos h8, txtE_four h8]
  simp only [dF, dE] at h8
  rw [if_neg (fun c => c h8)] at hp
  refine den_cal [I64d (lisE m (useL m.ki m.ac))] rfl (mlis_fn m hk ha (by omega) (by omega) ht hpt hpe) rfl rfl (den_ret ?_)
  simp only [dF, dE]
  rw [hp]
end Go.Proofs.Ytindphofgojfbaa.V26
