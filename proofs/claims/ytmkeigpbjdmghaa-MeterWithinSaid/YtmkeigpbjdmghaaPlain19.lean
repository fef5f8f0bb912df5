/-
  Plain laws of meters: no program in sight.
-/
import Derived.Test.YtmkeigpbjdmghaaSpec19
namespace Go.Proofs.Ytmkeigpbjdmghaa

theorem mod_lo {a M : Int} (h0 : 0 ≤ a) (h1 : a < M) : a % M = a := Int.emod_eq_of_lt h0 h1
theorem mod_hi {a M : Int} (h0 : M ≤ a) (h1 : a < M + M) : a % M = a - M := by
  have e : a = (a - M) + M * 1 := by omega
  rw [e, Int.add_mul_emod_self_left, Int.emod_eq_of_lt (by omega) (by omega)]
  omega

theorem within_law {R M T G n : Int} (h : chkI R M T G n = 0) :
    dltE R (cntR R M T G n) M = 0 ∧ bndLo R M T G n ≤ bndHi R M T G n ∧ bndHi R M T G n ≤ bndLo R M T G n + 1 ∧ 0 ≤ bndLo R M T G n ∧ bndHi R M T G n ≤ 1209462790554 ∧
      (M ≤ bndHi R M T G n ∨ (bndLo R M T G n ≤ dltN R (cntR R M T G n) M ∧ dltN R (cntR R M T G n) M ≤ bndHi R M T G n)) ∧ 0 ≤ cntR R M T G n ∧ cntR R M T G n < M ∧ 0 ≤ cntT R M T G n ∧ cntT R M T G n < 1000000 := by
  obtain ⟨hm, he⟩ := chk_ok.1 h
  obtain ⟨h1, h2, h3, h4, h5, h6, h7, h8⟩ := mok_iff.1 hm
  obtain ⟨h9, h10⟩ := eok_iff.1 he
  obtain ⟨p1, p2⟩ := prod_bd h7 h8 h9 h10
  have eR : cntR R M T G n = (R + (n * (1000000 + G) + T) / 1000000) % M := by unfold cntR msr; rw [if_pos h]
  have eT : cntT R M T G n = (n * (1000000 + G) + T) % 1000000 := by unfold cntT msr; rw [if_pos h]
  have eL : bndLo R M T G n = (n * (1000000 + G)) / 1000000 := by unfold bndLo msr; rw [if_pos h, Int.add_zero]
  have eH : bndHi R M T G n = (n * (1000000 + G) + 999999) / 1000000 := by unfold bndHi msr; rw [if_pos h]
  rw [eR, eT, eL, eH]
  generalize n * (1000000 + G) = x at *
  have c0 : 0 ≤ (R + (x + T) / 1000000) % M := Int.emod_nonneg _ (by omega)
  have c1 : (R + (x + T) / 1000000) % M < M := Int.emod_lt_of_pos _ (by omega)
  have dE : dltE R ((R + (x + T) / 1000000) % M) M = 0 := by
    unfold dltE
    rw [if_neg (by simp; omega), if_neg (by simp; omega)]
  refine ⟨dE, by omega, by omega, by omega, by omega, ?_, c0, c1, by omega, by omega⟩
  by_cases hM : M ≤ (x + 999999) / 1000000
  · exact .inl hM
  · right
    have hq0 : 0 ≤ (x + T) / 1000000 := by omega
    have hq1 : (x + T) / 1000000 < M := by omega
    have hlo : x / 1000000 ≤ (x + T) / 1000000 := by omega
    have hhi : (x + T) / 1000000 ≤ (x + 999999) / 1000000 := by omega
    generalize (x + T) / 1000000 = q at *
    have hd : dltN R ((R + q) % M) M = q := by
      unfold dltN
      rw [if_pos dE]
      rcases Int.lt_or_le (R + q) M with hr | hr
      · rw [mod_lo (by omega) hr, mod_hi (by omega) (by omega)]; omega
      · rw [mod_hi hr (by omega), mod_lo (by omega) (by omega)]; omega
    omega

theorem stay_law {R M T G n : Int} (h : chkI R M T G n ≠ 0) : cntR R M T G n = R ∧ cntT R M T G n = T := by
  unfold cntR cntT
  rw [if_neg h, if_neg h]
  exact ⟨rfl, rfl⟩

theorem parts_law {R M T G x y : Int} (hx : 0 ≤ x) (hy : 0 ≤ y) (hxy : x + y ≤ 1099511627776) :
    chkI (cntR R M T G x) M (cntT R M T G x) G y = chkI R M T G x ∧ chkI R M T G (x + y) = chkI R M T G x ∧
    cntR (cntR R M T G x) M (cntT R M T G x) G y = cntR R M T G (x + y) ∧ cntT (cntR R M T G x) M (cntT R M T G x) G y = cntT R M T G (x + y) := by
  have ex : eokB x = true := eok_iff.2 ⟨hx, by omega⟩
  have ey : eokB y = true := eok_iff.2 ⟨hy, by omega⟩
  have exy : eokB (x + y) = true := eok_iff.2 ⟨by omega, hxy⟩
  by_cases hm : mokB R M T G = true
  · have k : chkI R M T G x = 0 := chk_ok.2 ⟨hm, ex⟩
    have kxy : chkI R M T G (x + y) = 0 := chk_ok.2 ⟨hm, exy⟩
    obtain ⟨_, _, _, _, _, _, r0, r1, t0, t1⟩ := within_law k
    obtain ⟨h1, h2, h3, h4, h5, h6, h7, h8⟩ := mok_iff.1 hm
    have hm' : mokB (cntR R M T G x) M (cntT R M T G x) G = true := mok_iff.2 ⟨h1, h2, r0, r1, t0, t1, h7, h8⟩
    have k' : chkI (cntR R M T G x) M (cntT R M T G x) G y = 0 := chk_ok.2 ⟨hm', ey⟩
    refine ⟨by rw [k, k'], by rw [k, kxy], ?_, ?_⟩
    · unfold cntR at *
      rw [if_pos k', if_pos k, if_pos kxy]
      unfold cntT msr
      rw [if_pos k]
      rw [Int.add_mul, Int.emod_add_emod]
      congr 1
      generalize x * (1000000 + G) = a
      generalize y * (1000000 + G) = b
      omega
    · unfold cntT at *
      rw [if_pos k', if_pos kxy]
      unfold msr
      rw [if_pos k, Int.add_mul]
      generalize x * (1000000 + G) = a
      generalize y * (1000000 + G) = b
      omega
  · have hm0 : mokB R M T G = false := by simpa using hm
    have k : chkI R M T G x = 1 := by unfold chkI; rw [hm0]; rfl
    have kxy : chkI R M T G (x + y) = 1 := by unfold chkI; rw [hm0]; rfl
    obtain ⟨eR, eT⟩ := stay_law (R := R) (M := M) (T := T) (G := G) (n := x) (by omega)
    obtain ⟨eR', eT'⟩ := stay_law (R := R) (M := M) (T := T) (G := G) (n := x + y) (by omega)
    have ky : chkI R M T G y = 1 := by unfold chkI; rw [hm0]; rfl
    obtain ⟨eR2, eT2⟩ := stay_law (R := R) (M := M) (T := T) (G := G) (n := y) (by omega)
    rw [eR, eT, eR', eT', eR2, eT2]
    exact ⟨by omega, by omega, rfl, rfl⟩

theorem turns_sym (a b M : Int) : dltE a b M = dltE b a M := by
  unfold dltE
  split
  · rfl
  · rw [show (a < 0 || M ≤ a || b < 0 || M ≤ b : Bool) = (b < 0 || M ≤ b || a < 0 || M ≤ a : Bool) by
      rw [Bool.eq_iff_iff]; simp; omega]

theorem turns_law {a b M : Int} (h : dltE a b M = 0) :
    chkI a M 0 0 (dltN a b M) = 0 ∧ cntR a M 0 0 (dltN a b M) = b ∧ cntT a M 0 0 (dltN a b M) = 0 ∧
      ((dltN a b M = 0 ∧ dltN b a M = 0 ∧ a = b) ∨ dltN a b M + dltN b a M = M) ∧ 0 ≤ dltN a b M ∧ dltN a b M ≤ 1099511627776 ∧ 0 ≤ dltN b a M ∧ dltN b a M ≤ 1099511627776 ∧ 1000 ≤ M := by
  have h' : dltE b a M = 0 := by rw [← turns_sym]; exact h
  have hb : 1000 ≤ M ∧ M ≤ 1099511627776 ∧ 0 ≤ a ∧ a < M ∧ 0 ≤ b ∧ b < M := by
    unfold dltE at h
    split at h
    · omega
    · split at h
      · omega
      · rename_i h1 h2
        simp at h1 h2
        omega
  obtain ⟨h1, h2, h3, h4, h5, h6⟩ := hb
  have eN : dltN a b M = (b - a + M) % M := by unfold dltN; rw [if_pos h]
  have eN' : dltN b a M = (a - b + M) % M := by unfold dltN; rw [if_pos h']
  have hN : dltN a b M = if a ≤ b then b - a else b - a + M := by
    rw [eN]
    split
    · rw [mod_hi (by omega) (by omega)]; omega
    · rw [mod_lo (by omega) (by omega)]
  have hN' : dltN b a M = if b ≤ a then a - b else a - b + M := by
    rw [eN']
    split
    · rw [mod_hi (by omega) (by omega)]; omega
    · rw [mod_lo (by omega) (by omega)]
  have hk : chkI a M 0 0 (dltN a b M) = 0 := chk_ok.2 ⟨mok_iff.2 ⟨h1, h2, h3, h4, by decide, by decide, by decide, by decide⟩, eok_iff.2 (by rw [hN]; split <;> omega)⟩
  have eR : cntR a M 0 0 (dltN a b M) = (a + dltN a b M) % M := by
    unfold cntR msr
    rw [if_pos hk]
    congr 1
    omega
  have eT : cntT a M 0 0 (dltN a b M) = 0 := by
    unfold cntT msr
    rw [if_pos hk]
    omega
  refine ⟨hk, ?_, eT, ?_, ?_⟩
  · rw [eR, hN]
    split
    · rw [mod_lo (by omega) (by omega)]; omega
    · rw [mod_hi (by omega) (by omega)]; omega
  · rw [hN, hN']
    (repeat' split) <;> omega
  · rw [hN, hN']
    (repeat' split) <;> omega
end Go.Proofs.Ytmkeigpbjdmghaa
