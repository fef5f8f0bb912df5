/-
  Layers 19 and 20: what the functions do with data. No conditions stand ahead of what is proved.
-/
import Derived.Test.YtighdhddeidmcaaV10
set_option maxRecDepth 100000
set_option linter.unusedSimpArgs false
set_option linter.unusedVariables false
namespace Go.Proofs.Ytighdhddeidmcaa.C10
open Go.Proofs.Ytighdhddeidmcaa Go.Proofs.Ytighdhddeidmcaa.Sy Go.Proofs.Ytighdhddeidmcaa.V10 Go.RowKit
abbrev mD (R M T G : Int) : D := .rc [I64d R, I64d M, I64d T, I64d G]
abbrev tM : TS := .g [.int .i64, .int .i64, .int .i64, .int .i64]
abbrev tR : TS := .c lstR
abbrev isD (l : List Int) : D := .lst (l.map I64d)
abbrev mok (R M T G : Int) : Prop := 1000 ≤ M ∧ M ≤ 1099511627776 ∧ 0 ≤ R ∧ R < M ∧ 0 ≤ T ∧ T < 1000000 ∧ -100000 ≤ G ∧ G ≤ 100000
theorem w64 {n : Int} (h1 : -9223372036854775808 ≤ n) (h2 : n ≤ 9223372036854775807) : IntKind.i64.wrap n = n := wrap_i64 h1 h2
theorem valid_fn (R M T G : Int) : Fun Try.prog [] 4 [tM] [mD R M T G] [tI] (.ok [I64d (if mok R M T G then 0 else 1)]) := by
  refine valid_ent _ _ ?_
  show vcvalid.den _ _ _ _ _
  unfold vcvalid
  repeat' (first | (refine den_ite (fun h => ?_) (fun h => ?_) <;> simp only [E.den, D.toI, D.toB, D.toL, D.toS, D.len, D.mapL, flatD, dE] at h) | refine den_ret ?_)
  all_goals simp only [E.den, D.toI, D.toB, D.toL, D.toS, D.len, D.mapL, flatD, dE]
  all_goals first
    | rw [if_neg (by unfold mok; omega)]
    | rw [if_pos (by unfold mok; omega)]
theorem check_fn {R M T G x : Int} (h : mok R M T G) (h0 : 0 ≤ x) (h1 : x ≤ 1099511627776) : Fun Try.prog [] 9 [tM, tI] [mD R M T G, I64d x] [tI] (.ok [I64d 0]) := by
  have hv := valid_fn R M T G
  rw [if_pos h] at hv
  refine check_ent _ _ ?_
  show vccheck.den _ _ _ _ _
  unfold vccheck
  refine den_cal [I64d 0] rfl hv (by simp only [E.den, D.toI, D.toB, D.toL, D.toS, D.len, D.mapL, flatD, dE]) rfl ?_
  refine den_ite (fun h2 => ?_) (fun h2 => ?_) <;> simp only [E.den, D.toI, D.toB, D.toL, D.toS, D.len, D.mapL, flatD, dE] at h2
  · exact (h2 trivial).elim
  refine den_ite (fun h3 => ?_) (fun h3 => ?_) <;> simp only [E.den, D.toI, D.toB, D.toL, D.toS, D.len, D.mapL, flatD, dE] at h3
  · omega
  refine den_ite (fun h4 => ?_) (fun h4 => ?_) <;> simp only [E.den, D.toI, D.toB, D.toL, D.toS, D.len, D.mapL, flatD, dE] at h4
  · omega
  refine den_ret ?_
  simp only [E.den, D.toI, D.toB, D.toL, D.toS, D.len, D.mapL, flatD, dE]
theorem prod_bd {G x : Int} (h1 : -100000 ≤ G) (h2 : G ≤ 100000) (h3 : 0 ≤ x) (h4 : x ≤ 30000000) : 0 ≤ x * (1000000 + G) ∧ x * (1000000 + G) ≤ 33000000000000 := by
  refine ⟨Int.mul_nonneg h3 (by omega), ?_⟩
  have := Int.mul_le_mul h4 (show 1000000 + G ≤ 1100000 by omega) (by omega) (by omega)
  omega
theorem msr_fn {R M T G x t : Int} (h1 : -100000 ≤ G) (h2 : G ≤ 100000) (h3 : 0 ≤ x) (h4 : x ≤ 30000000) (h5 : 0 ≤ t) (h6 : t < 1000000) : Fun Try.prog [] 10 [tM, tI, tI] [mD R M T G, I64d x, I64d t] [tI] (.ok [I64d (x * (1000000 + G) + t)]) := by
  obtain ⟨p1, p2⟩ := prod_bd h1 h2 h3 h4
  refine msr_ent _ _ ?_
  show vcmsr.den _ _ _ _ _
  unfold vcmsr
  refine den_ret ?_
  simp only [E.den, D.toI, D.toB, D.toL, D.toS, D.len, D.mapL, flatD, dE]
  rw [w64 (n := 1000000 + G) (by omega) (by omega), w64 (n := x * (1000000 + G)) (by omega) (by omega), w64 (by omega) (by omega)]
theorem count_fn {R M T G x : Int} (h : mok R M T G) (h0 : 0 ≤ x) (h1 : x ≤ 100000) : Fun Try.prog [] 5 [tM, tI] [mD R M T G, I64d x] [tM, tI]
    (.ok [mD ((R + (x * (1000000 + G) + T) / 1000000) % M) M ((x * (1000000 + G) + T) % 1000000) G, I64d 0]) := by
  obtain ⟨p1, p2⟩ := prod_bd h.2.2.2.2.2.2.1 h.2.2.2.2.2.2.2 h0 (show x ≤ 30000000 by omega)
  obtain ⟨m1, m2, m3, m4, m5, m6, m7, m8⟩ := id h
  refine count_ent _ _ ?_
  show vccount.den _ _ _ _ _
  unfold vccount
  refine den_cal [I64d 0] rfl (check_fn h h0 (by omega)) (by simp only [E.den, D.toI, D.toB, D.toL, D.toS, D.len, D.mapL, flatD, dE]) rfl ?_
  refine den_ite (fun h2 => ?_) (fun h2 => ?_) <;> simp only [E.den, D.toI, D.toB, D.toL, D.toS, D.len, D.mapL, flatD, dE] at h2
  · exact (h2 trivial).elim
  refine den_cal [I64d (x * (1000000 + G) + T)] rfl (msr_fn (R := R) (M := M) (T := T) m7 m8 h0 (by omega) m5 m6) (by simp only [E.den, D.toI, D.toB, D.toL, D.toS, D.len, D.mapL, flatD, dE]) rfl ?_
  refine den_ev (evs_ob (by simp only [E.den, D.toI, D.toB, D.toL, D.toS, D.len, D.mapL, flatD, dE]; omega) (evs_nil (den_ret ?_)))
  simp only [E.den, D.toI, D.toB, D.toL, D.toS, D.len, D.mapL, flatD, dE]
  have q1 : (x * (1000000 + G) + T).tdiv 1000000 = (x * (1000000 + G) + T) / 1000000 := Int.tdiv_eq_ediv_of_nonneg (by omega)
  have q2 : (x * (1000000 + G) + T).tmod 1000000 = (x * (1000000 + G) + T) % 1000000 := Int.tmod_eq_emod_of_nonneg (by omega)
  have q3 : (R + (x * (1000000 + G) + T) / 1000000).tmod M = (R + (x * (1000000 + G) + T) / 1000000) % M := Int.tmod_eq_emod_of_nonneg (by omega)
  rw [q1, w64 (n := (x * (1000000 + G) + T) / 1000000) (by omega) (by omega), w64 (n := R + _) (by omega) (by omega), q2, q3]
theorem bnds_fn {a b : Int} (h : a ≤ b) : Fun Try.prog [] 14 [tI, .c (.lst [.int .i64])] [I64d a, isD [b]] [tI, tI] (.ok [I64d a, I64d b]) := by
  refine bnds_ent _ _ ?_
  show vcbnds.den _ _ _ _ _
  unfold vcbnds
  refine den_loop (fun xs => xs = [I64d a, I64d a, I64d 0] ∨ xs = [I64d a, I64d b, I64d 1]) (fun xs => 1 - (xs.getD 2 default).toI.toNat) (.inl (by simp only [E.den, D.toI, D.toB, D.toL, D.toS, D.len, D.mapL, flatD, dE])) ?_
  simp only [AllSh]
  intro p _ _ q _ _ n _ _ hI
  have hc : (p = a ∧ q = a ∧ n = 0) ∨ (p = a ∧ q = b ∧ n = 1) := by
    rcases hI with hI | hI <;> simp only [List.cons.injEq, D.int.injEq, true_and, and_true] at hI
    · exact .inl hI
    · exact .inr hI
  clear hI
  rcases hc with ⟨rfl, rfl, rfl⟩ | ⟨rfl, rfl, rfl⟩
  · refine den_ite (fun h2 => ?_) (fun h2 => ?_) <;> simp only [E.den, D.toI, D.toB, D.toL, D.toS, D.len, D.mapL, flatD, dE] at h2
    · refine den_ev (evs_ob (by simp only [E.den, D.toI, D.toB, D.toL, D.toS, D.len, D.mapL, flatD, dE]; omega) (evs_ob (by simp only [E.den, D.toI, D.toB, D.toL, D.toS, D.len, D.mapL, flatD, dE]; omega) (evs_nil ?_)))
      refine den_back rfl (.inr ?_) ?_
      · simp only [E.den, D.toI, D.toB, D.toL, D.toS, D.len, D.mapL, flatD, dE]
        rw [w64 (by omega) (by omega)]
        simp only [Int.toNat_zero, List.getD_cons_zero]
        rw [if_neg (by omega)]
        by_cases hb : q < b
        · rw [if_pos (by exact hb)]; rfl
        · rw [if_neg (by exact hb), show q = b by omega]; rfl
      · simp only [E.den, D.toI, D.toB, D.toL, D.toS, D.len, D.mapL, flatD, dE]
        rw [w64 (by omega) (by omega)]
        decide
    · omega
  · refine den_ite (fun h2 => ?_) (fun h2 => ?_) <;> simp only [E.den, D.toI, D.toB, D.toL, D.toS, D.len, D.mapL, flatD, dE] at h2
    · omega
    · refine den_ret ?_
      simp only [E.den, D.toI, D.toB, D.toL, D.toS, D.len, D.mapL, flatD, dE]
theorem bounds_fn {R M T G x : Int} (h : mok R M T G) (h0 : 0 ≤ x) (h1 : x ≤ 30000000) : Fun Try.prog [] 7 [tM, tI] [mD R M T G, I64d x] [tI, tI, tI]
    (.ok [I64d (x * (1000000 + G) / 1000000), I64d ((x * (1000000 + G) + 999999) / 1000000), I64d 0]) := by
  obtain ⟨m1, m2, m3, m4, m5, m6, m7, m8⟩ := id h
  obtain ⟨p1, p2⟩ := prod_bd m7 m8 h0 h1
  have f1 := msr_fn (R := R) (M := M) (T := T) (t := 0) m7 m8 h0 h1 (by omega) (by omega)
  rw [Int.add_zero] at f1
  have f2 := msr_fn (R := R) (M := M) (T := T) (t := 999999) m7 m8 h0 h1 (by omega) (by omega)
  have q1 : (x * (1000000 + G)).tdiv 1000000 = (x * (1000000 + G)) / 1000000 := Int.tdiv_eq_ediv_of_nonneg (by omega)
  have q2 : (x * (1000000 + G) + 999999).tdiv 1000000 = (x * (1000000 + G) + 999999) / 1000000 := Int.tdiv_eq_ediv_of_nonneg (by omega)
  have f3 := bnds_fn (a := x * (1000000 + G) / 1000000) (b := (x * (1000000 + G) + 999999) / 1000000) (by omega)
  refine bounds_ent _ _ ?_
  show vcbounds.den _ _ _ _ _
  unfold vcbounds
  refine den_cal [I64d 0] rfl (check_fn h h0 (by omega)) (by simp only [E.den, D.toI, D.toB, D.toL, D.toS, D.len, D.mapL, flatD, dE]) rfl ?_
  refine den_ite (fun h2 => ?_) (fun h2 => ?_) <;> simp only [E.den, D.toI, D.toB, D.toL, D.toS, D.len, D.mapL, flatD, dE] at h2
  · exact (h2 trivial).elim
  refine den_ev (evs_call [I64d (x * (1000000 + G))] rfl f1 (by simp only [E.den, D.toI, D.toB, D.toL, D.toS, D.len, D.mapL, flatD, dE]) rfl (evs_call [I64d (x * (1000000 + G) + 999999)] rfl f2 (by simp only [E.den, D.toI, D.toB, D.toL, D.toS, D.len, D.mapL, flatD, dE]) rfl (evs_call [I64d (x * (1000000 + G) / 1000000), I64d ((x * (1000000 + G) + 999999) / 1000000)] rfl f3 ?_ rfl (evs_nil (den_ret ?_)))))
  · simp only [E.den, D.toI, D.toB, D.toL, D.toS, D.len, D.mapL, flatD, dE]
    rw [q1, q2, w64 (by omega) (by omega), w64 (by omega) (by omega)]
    rfl
  · simp only [E.den, D.toI, D.toB, D.toL, D.toS, D.len, D.mapL, flatD, dE]
theorem delta_fn {a b M : Int} (h1 : 1000 ≤ M) (h2 : M ≤ 1099511627776) (h3 : 0 ≤ a) (h4 : a < M) (h5 : 0 ≤ b) (h6 : b < M) : Fun Try.prog [] 13 [tI, tI, tI] [I64d a, I64d b, I64d M] [tI, tI] (.ok [I64d ((b - a + M) % M), I64d 0]) := by
  refine delta_ent _ _ ?_
  show vcdelta.den _ _ _ _ _
  unfold vcdelta
  repeat' (refine den_ite (fun h => ?_) (fun h => ?_) <;> simp only [E.den, D.toI, D.toB, D.toL, D.toS, D.len, D.mapL, flatD, dE] at h; (first | omega | skip); rotate_left)
  refine den_ev (evs_ob (by simp only [E.den, D.toI, D.toB, D.toL, D.toS, D.len, D.mapL, flatD, dE]; omega) (evs_nil (den_ret ?_)))
  simp only [E.den, D.toI, D.toB, D.toL, D.toS, D.len, D.mapL, flatD, dE]
  rw [w64 (n := b - a) (by omega) (by omega), w64 (by omega) (by omega), Int.tmod_eq_emod_of_nonneg (by omega)]
end Go.Proofs.Ytighdhddeidmcaa.C10
