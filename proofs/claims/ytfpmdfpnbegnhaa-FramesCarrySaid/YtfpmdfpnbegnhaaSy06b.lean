/-
  The functions of layer 6: what they answer.
-/
import Derived.Test.YtfpmdfpnbegnhaaSy06a
import Derived.Test.YtfpmdfpnbegnhaaSy06p
import Derived.Test.YtfpmdfpnbegnhaaSy06x
import Derived.Test.YtfpmdfpnbegnhaaBytes
set_option maxRecDepth 100000
set_option linter.unusedSimpArgs false
set_option linter.unusedVariables false
namespace Go.Proofs.Ytfpmdfpnbegnhaa
open Go.Proofs.Ytfpmdfpnbegnhaa.Sy Go.RowKit Go.WideShapes Go.ChangeShapes Go.ChangeAt

theorem xor16 {x y : Int} (h0 : 0 ≤ x) (h1 : x ≤ 65535) (h2 : 0 ≤ y) (h3 : y ≤ 65535) : arI .xor .u16 x y = xorI x y := by
  have hr := xor_rng h0 h1 h2 h3
  unfold arI
  simp only [BitVec.toNat_xor, bv_toNat (n := IntKind.bits .u16) h0 (show x < 2 ^ 16 by omega), bv_toNat (n := IntKind.bits .u16) h2 (show y < 2 ^ 16 by omega)]
  exact wrap_u16 hr.1 hr.2
theorem xor64 {x y : Int} (h0 : 0 ≤ x) (h1 : x ≤ 65535) (h2 : 0 ≤ y) (h3 : y ≤ 65535) : arI .xor .i64 x y = xorI x y := by
  have hr := xor_rng h0 h1 h2 h3
  unfold arI
  simp only [BitVec.toNat_xor, bv_toNat (n := IntKind.bits .i64) h0 (show x < 2 ^ 64 by omega), bv_toNat (n := IntKind.bits .i64) h2 (show y < 2 ^ 64 by omega)]
  exact wrap_i64 (by unfold xorI at hr; omega) (by unfold xorI at hr; omega)
theorem xor8 {x y : Int} (h0 : 0 ≤ x) (h1 : x ≤ 255) (h2 : 0 ≤ y) (h3 : y ≤ 255) : arI .xor .u8 x y = xorI x y := by
  have hr := xor_rng8 h0 h1 h2 h3
  unfold arI
  simp only [BitVec.toNat_xor, bv_toNat (n := IntKind.bits .u8) h0 (show x < 2 ^ 8 by omega), bv_toNat (n := IntKind.bits .u8) h2 (show y < 2 ^ 8 by omega)]
  exact wrap_u8 hr.1 hr.2
theorem and_top {x : Int} (h0 : 0 ≤ x) (h1 : x ≤ 65535) : arI .and .u16 x 32768 = if 32768 ≤ x then 32768 else 0 := by
  unfold arI
  simp only [BitVec.toNat_and, bv_toNat (n := IntKind.bits .u16) h0 (show x < 2 ^ 16 by omega), bv_toNat (n := IntKind.bits .u16) (x := 32768) (by omega) (by decide)]
  have key : ∀ y : Nat, y < 65536 → y &&& 2 ^ 15 = if 32768 ≤ y then 32768 else 0 := by
    intro y hy
    apply Nat.eq_of_testBit_eq
    intro i
    rw [Nat.testBit_and, Nat.testBit_two_pow]
    by_cases hi : 15 = i
    · subst hi
      have h15 : y.testBit 15 = decide (32768 ≤ y) := by
        rw [Nat.testBit_eq_decide_div_mod_eq]
        by_cases hx : 32768 ≤ y
        · have : y / 2 ^ 15 % 2 = 1 := by omega
          simp [this, hx]
        · have : y / 2 ^ 15 % 2 = 0 := by omega
          simp [this, hx]
      rw [h15]
      split
      · rename_i h; simp [h]; decide
      · rename_i h; simp [h]
    · split
      · rw [show (32768 : Nat) = 2 ^ 15 by decide, Nat.testBit_two_pow]; simp [hi]
      · simp [hi]
  have e : (((x.toNat &&& (32768 : Int).toNat : Nat)) : Int) = if 32768 ≤ x then 32768 else 0 := by
    rw [show (32768 : Int).toNat = 2 ^ 15 by decide, key _ (by omega)]
    split <;> split <;> omega
  rw [e]
  split
  · exact wrap_u16 (by omega) (by omega)
  · exact wrap_u16 (by omega) (by omega)
theorem shl_u16 {x : Int} (h0 : 0 ≤ x) (h1 : x ≤ 65535) : shI .shl .u16 x 1 = if 32768 ≤ x then 2 * x - 65536 else 2 * x := by
  rw [shI_shl, wrap_u16_mod, show (2 : Int) ^ (min (1 : Int).toNat (IntKind.bits .u16)) = 2 by decide]
  split <;> omega
theorem shl8_u16 {x : Int} (h0 : 0 ≤ x) (h1 : x ≤ 255) : shI .shl .u16 x 8 = x * 256 := by
  rw [shI_shl, show (2 : Int) ^ (min (8 : Int).toNat (IntKind.bits .u16)) = 256 by decide]
  exact wrap_u16 (by omega) (by omega)
theorem shl8_i64 {x : Int} (h0 : 0 ≤ x) (h1 : x ≤ 255) : shI .shl .i64 x 8 = x * 256 := by
  rw [shI_shl, show (2 : Int) ^ (min (8 : Int).toNat (IntKind.bits .i64)) = 256 by decide]
  exact wrap_i64 (by omega) (by omega)
theorem shr8_i64 (x : Int) : shI .shr .i64 x 8 = x / 256 := by
  rw [shI_shr, show (2 : Int) ^ (min (8 : Int).toNat (IntKind.bits .i64)) = 256 by decide]
  exact Int.fdiv_eq_ediv_of_nonneg _ (by decide)
theorem or_hi {x y : Int} (h0 : 0 ≤ x) (h1 : x ≤ 255) (h2 : 0 ≤ y) (h3 : y ≤ 255) : arI .or .i64 (x * 256) y = x * 256 + y := by
  unfold arI
  simp only [BitVec.toNat_or, bv_toNat (n := IntKind.bits .i64) (x := x * 256) (by omega) (show x * 256 < 2 ^ 64 by omega), bv_toNat (n := IntKind.bits .i64) h2 (show y < 2 ^ 64 by omega)]
  have e : (x * 256).toNat ||| y.toNat = (x * 256 + y).toNat := by
    have h := Nat.two_pow_add_eq_or_of_lt (i := 8) (b := y.toNat) (by omega) x.toNat
    rw [show (x * 256).toNat = 2 ^ 8 * x.toNat by omega, ← h]
    omega
  rw [e, show (((x * 256 + y).toNat : Nat) : Int) = x * 256 + y by omega]
  exact wrap_i64 (by omega) (by omega)
def sumI (b : List Int) (xs : List D) : Prop := ∃ (r : Int) (i : Nat), xs = [.int .u16 r, I64d i] ∧ i ≤ b.length ∧ 0 ≤ r ∧ r ≤ 65535 ∧ (b.drop i).foldl byteS r = sumS b
def sumM (b : List Int) (xs : List D) : Nat := b.length - (xs.getD 1 default).toI.toNat
def sumJ (c r0 : Int) (xs : List D) : Prop := ∃ (r : Int) (k : Nat), xs = [.int .u16 r, I64d k] ∧ k ≤ 8 ∧ 0 ≤ r ∧ r ≤ 65535 ∧ stepN (8 - k) r = byteS r0 c
def sumN (xs : List D) : Nat := 8 - (xs.getD 1 default).toI.toNat
theorem sum_fn (b : List Int) (hb : inB b) (hl : b.length ≤ 4294967296) : Fun Try.prog [] 13 [tY] [bD b] [tI] (.ok [I64d (sumS b)]) := by
  refine sum_ent _ _ ?_
  show vcsum.den _ _ _ _ _
  unfold vcsum
  simp only [E.den, cmpB_eql, cmpB_neq, cmpB_lss, cmpB_leq, cmpB_gtr, cmpB_geq, arI_add, arI_sub, arI_mul, arI_quo, arI_rem, D.toI, D.toB, D.toL, D.toS, D.len, D.mapL, List.map_cons, List.map_nil, List.getD_cons_zero, List.getD_cons_succ, List.cons_append, List.nil_append, flatD, List.append_nil, List.length_map, List.length_append, List.length_cons, List.length_nil, decide_eq_true_eq, decide_eq_false_iff_not, beq_iff_eq, beq_eq_false_iff_ne, bne_iff_ne, bne_eq_false_iff_eq, ne_eq, Int.toNat_natCast, gt_iff_lt, ge_iff_le, Int.not_lt, Int.not_le, Bool.not_eq_true, Bool.not_eq_false, Bool.and_eq_true, Bool.true_eq_false, Bool.false_eq_true, Bool.not_eq_eq_eq_not, Bool.not_true, Bool.not_false]
  refine den_loop (sumI b) (sumM b) ⟨65535, 0, rfl, by omega, by omega, by omega, rfl⟩ ?_
  simp only [AllSh]
  intro r _ _ n _ _ ⟨r', i, he, hi, h0, h1, hs⟩
  simp only [List.cons.injEq, D.int.injEq, true_and, and_true] at he
  obtain ⟨rfl, rfl⟩ := he
  (try simp only [List.cons_append, List.nil_append])
  refine den_ite (fun h => ?_) (fun h => ?_)
  · simp only [E.den, cmpB_eql, cmpB_neq, cmpB_lss, cmpB_leq, cmpB_gtr, cmpB_geq, arI_add, arI_sub, arI_mul, arI_quo, arI_rem, D.toI, D.toB, D.toL, D.toS, D.len, D.mapL, List.map_cons, List.map_nil, List.getD_cons_zero, List.getD_cons_succ, List.cons_append, List.nil_append, flatD, List.append_nil, List.length_map, List.length_append, List.length_cons, List.length_nil, decide_eq_true_eq, decide_eq_false_iff_not, beq_iff_eq, beq_eq_false_iff_ne, bne_iff_ne, bne_eq_false_iff_eq, ne_eq, Int.toNat_natCast, gt_iff_lt, ge_iff_le, Int.not_lt, Int.not_le, Bool.not_eq_true, Bool.not_eq_false, Bool.and_eq_true, Bool.true_eq_false, Bool.false_eq_true, Bool.not_eq_eq_eq_not, Bool.not_true, Bool.not_false] at h
    have hi' : i < b.length := by omega
    have hg := get_U hi'
    have hc := hb.get hi'
    refine den_ev (evs_ob (by simp only [E.den, cmpB_eql, cmpB_neq, cmpB_lss, cmpB_leq, cmpB_gtr, cmpB_geq, arI_add, arI_sub, arI_mul, arI_quo, arI_rem, D.toI, D.toB, D.toL, D.toS, D.len, D.mapL, List.map_cons, List.map_nil, List.getD_cons_zero, List.getD_cons_succ, List.cons_append, List.nil_append, flatD, List.append_nil, List.length_map, List.length_append, List.length_cons, List.length_nil, decide_eq_true_eq, decide_eq_false_iff_not, beq_iff_eq, beq_eq_false_iff_ne, bne_iff_ne, bne_eq_false_iff_eq, ne_eq, Int.toNat_natCast, gt_iff_lt, ge_iff_le, Int.not_lt, Int.not_le, Bool.not_eq_true, Bool.not_eq_false, Bool.and_eq_true, Bool.true_eq_false, Bool.false_eq_true, Bool.not_eq_eq_eq_not, Bool.not_true, Bool.not_false]; omega) (evs_ob (by simp only [E.den, cmpB_eql, cmpB_neq, cmpB_lss, cmpB_leq, cmpB_gtr, cmpB_geq, arI_add, arI_sub, arI_mul, arI_quo, arI_rem, D.toI, D.toB, D.toL, D.toS, D.len, D.mapL, List.map_cons, List.map_nil, List.getD_cons_zero, List.getD_cons_succ, List.cons_append, List.nil_append, flatD, List.append_nil, List.length_map, List.length_append, List.length_cons, List.length_nil, decide_eq_true_eq, decide_eq_false_iff_not, beq_iff_eq, beq_eq_false_iff_ne, bne_iff_ne, bne_eq_false_iff_eq, ne_eq, Int.toNat_natCast, gt_iff_lt, ge_iff_le, Int.not_lt, Int.not_le, Bool.not_eq_true, Bool.not_eq_false, Bool.and_eq_true, Bool.true_eq_false, Bool.false_eq_true, Bool.not_eq_eq_eq_not, Bool.not_true, Bool.not_false]; omega) (evs_nil ?_)))
    have hx := xor_rng h0 h1 (y := b.getD i 0 * 256) (by omega) (by omega)
    refine den_loop (sumJ (b.getD i 0) r) sumN ⟨xorI r (b.getD i 0 * 256), 0, ?_, by omega, hx.1, hx.2, rfl⟩ ?_
    · simp only [E.den, cmpB_eql, cmpB_neq, cmpB_lss, cmpB_leq, cmpB_gtr, cmpB_geq, arI_add, arI_sub, arI_mul, arI_quo, arI_rem, D.toI, D.toB, D.toL, D.toS, D.len, D.mapL, List.map_cons, List.map_nil, List.getD_cons_zero, List.getD_cons_succ, List.cons_append, List.nil_append, flatD, List.append_nil, List.length_map, List.length_append, List.length_cons, List.length_nil, decide_eq_true_eq, decide_eq_false_iff_not, beq_iff_eq, beq_eq_false_iff_ne, bne_iff_ne, bne_eq_false_iff_eq, ne_eq, Int.toNat_natCast, gt_iff_lt, ge_iff_le, Int.not_lt, Int.not_le, Bool.not_eq_true, Bool.not_eq_false, Bool.and_eq_true, Bool.true_eq_false, Bool.false_eq_true, Bool.not_eq_eq_eq_not, Bool.not_true, Bool.not_false]
      rw [hg]
      simp only [E.den, cmpB_eql, cmpB_neq, cmpB_lss, cmpB_leq, cmpB_gtr, cmpB_geq, arI_add, arI_sub, arI_mul, arI_quo, arI_rem, D.toI, D.toB, D.toL, D.toS, D.len, D.mapL, List.map_cons, List.map_nil, List.getD_cons_zero, List.getD_cons_succ, List.cons_append, List.nil_append, flatD, List.append_nil, List.length_map, List.length_append, List.length_cons, List.length_nil, decide_eq_true_eq, decide_eq_false_iff_not, beq_iff_eq, beq_eq_false_iff_ne, bne_iff_ne, bne_eq_false_iff_eq, ne_eq, Int.toNat_natCast, gt_iff_lt, ge_iff_le, Int.not_lt, Int.not_le, Bool.not_eq_true, Bool.not_eq_false, Bool.and_eq_true, Bool.true_eq_false, Bool.false_eq_true, Bool.not_eq_eq_eq_not, Bool.not_true, Bool.not_false]
      rw [wrap_u16 hc.1 (by omega), shl8_u16 hc.1 hc.2, xor16 h0 h1 (by omega) (by omega)]
      simp
    simp only [AllSh]
    intro q _ _ m _ _ ⟨q', k, he, hk, g0, g1, hq⟩
    simp only [List.cons.injEq, D.int.injEq, true_and, and_true] at he
    obtain ⟨rfl, rfl⟩ := he
    (try simp only [List.cons_append, List.nil_append])
    refine den_ite (fun h2 => ?_) (fun h2 => ?_)
    · simp only [E.den, cmpB_eql, cmpB_neq, cmpB_lss, cmpB_leq, cmpB_gtr, cmpB_geq, arI_add, arI_sub, arI_mul, arI_quo, arI_rem, D.toI, D.toB, D.toL, D.toS, D.len, D.mapL, List.map_cons, List.map_nil, List.getD_cons_zero, List.getD_cons_succ, List.cons_append, List.nil_append, flatD, List.append_nil, List.length_map, List.length_append, List.length_cons, List.length_nil, decide_eq_true_eq, decide_eq_false_iff_not, beq_iff_eq, beq_eq_false_iff_ne, bne_iff_ne, bne_eq_false_iff_eq, ne_eq, Int.toNat_natCast, gt_iff_lt, ge_iff_le, Int.not_lt, Int.not_le, Bool.not_eq_true, Bool.not_eq_false, Bool.and_eq_true, Bool.true_eq_false, Bool.false_eq_true, Bool.not_eq_eq_eq_not, Bool.not_true, Bool.not_false] at h2
      have hk' : k < 8 := by omega
      have hst : stepN (8 - (k + 1)) (step1 q) = byteS r (b.getD i 0) := by
        rw [← hq, show 8 - k = 8 - (k + 1) + 1 by omega]; rfl
      have hr := step1_rng g0 g1
      have hw : IntKind.wrap .i64 ((k : Int) + 1) = ((k + 1 : Nat) : Int) := by rw [wrap_i64 (by omega) (by omega)]; omega
      refine den_ite (fun h3 => ?_) (fun h3 => ?_)
      · simp only [E.den, cmpB_eql, cmpB_neq, cmpB_lss, cmpB_leq, cmpB_gtr, cmpB_geq, arI_add, arI_sub, arI_mul, arI_quo, arI_rem, D.toI, D.toB, D.toL, D.toS, D.len, D.mapL, List.map_cons, List.map_nil, List.getD_cons_zero, List.getD_cons_succ, List.cons_append, List.nil_append, flatD, List.append_nil, List.length_map, List.length_append, List.length_cons, List.length_nil, decide_eq_true_eq, decide_eq_false_iff_not, beq_iff_eq, beq_eq_false_iff_ne, bne_iff_ne, bne_eq_false_iff_eq, ne_eq, Int.toNat_natCast, gt_iff_lt, ge_iff_le, Int.not_lt, Int.not_le, Bool.not_eq_true, Bool.not_eq_false, Bool.and_eq_true, Bool.true_eq_false, Bool.false_eq_true, Bool.not_eq_eq_eq_not, Bool.not_true, Bool.not_false] at h3
        rw [and_top g0 g1] at h3
        have h4 : 32768 ≤ q := by
          rcases Int.lt_or_le q 32768 with h | h
          · rw [if_neg (by omega)] at h3; exact absurd rfl h3
          · exact h
        refine den_back rfl ⟨step1 q, k + 1, ?_, by omega, hr.1, hr.2, hst⟩ ?_
        · simp only [E.den, cmpB_eql, cmpB_neq, cmpB_lss, cmpB_leq, cmpB_gtr, cmpB_geq, arI_add, arI_sub, arI_mul, arI_quo, arI_rem, D.toI, D.toB, D.toL, D.toS, D.len, D.mapL, List.map_cons, List.map_nil, List.getD_cons_zero, List.getD_cons_succ, List.cons_append, List.nil_append, flatD, List.append_nil, List.length_map, List.length_append, List.length_cons, List.length_nil, decide_eq_true_eq, decide_eq_false_iff_not, beq_iff_eq, beq_eq_false_iff_ne, bne_iff_ne, bne_eq_false_iff_eq, ne_eq, Int.toNat_natCast, gt_iff_lt, ge_iff_le, Int.not_lt, Int.not_le, Bool.not_eq_true, Bool.not_eq_false, Bool.and_eq_true, Bool.true_eq_false, Bool.false_eq_true, Bool.not_eq_eq_eq_not, Bool.not_true, Bool.not_false]
          rw [shl_u16 g0 g1, if_pos h4, xor16 (by omega) (by omega) (by omega) (by omega), hw]
          simp [step1, h4]
        · simp only [sumN]; simp only [E.den, cmpB_eql, cmpB_neq, cmpB_lss, cmpB_leq, cmpB_gtr, cmpB_geq, arI_add, arI_sub, arI_mul, arI_quo, arI_rem, D.toI, D.toB, D.toL, D.toS, D.len, D.mapL, List.map_cons, List.map_nil, List.getD_cons_zero, List.getD_cons_succ, List.cons_append, List.nil_append, flatD, List.append_nil, List.length_map, List.length_append, List.length_cons, List.length_nil, decide_eq_true_eq, decide_eq_false_iff_not, beq_iff_eq, beq_eq_false_iff_ne, bne_iff_ne, bne_eq_false_iff_eq, ne_eq, Int.toNat_natCast, gt_iff_lt, ge_iff_le, Int.not_lt, Int.not_le, Bool.not_eq_true, Bool.not_eq_false, Bool.and_eq_true, Bool.true_eq_false, Bool.false_eq_true, Bool.not_eq_eq_eq_not, Bool.not_true, Bool.not_false]; rw [hw]; omega
      · simp only [E.den, cmpB_eql, cmpB_neq, cmpB_lss, cmpB_leq, cmpB_gtr, cmpB_geq, arI_add, arI_sub, arI_mul, arI_quo, arI_rem, D.toI, D.toB, D.toL, D.toS, D.len, D.mapL, List.map_cons, List.map_nil, List.getD_cons_zero, List.getD_cons_succ, List.cons_append, List.nil_append, flatD, List.append_nil, List.length_map, List.length_append, List.length_cons, List.length_nil, decide_eq_true_eq, decide_eq_false_iff_not, beq_iff_eq, beq_eq_false_iff_ne, bne_iff_ne, bne_eq_false_iff_eq, ne_eq, Int.toNat_natCast, gt_iff_lt, ge_iff_le, Int.not_lt, Int.not_le, Bool.not_eq_true, Bool.not_eq_false, Bool.and_eq_true, Bool.true_eq_false, Bool.false_eq_true, Bool.not_eq_eq_eq_not, Bool.not_true, Bool.not_false] at h3
        rw [and_top g0 g1] at h3
        have h4 : ¬ 32768 ≤ q := by
          intro h
          rw [if_pos h] at h3
          omega
        refine den_back rfl ⟨step1 q, k + 1, ?_, by omega, hr.1, hr.2, hst⟩ ?_
        · simp only [E.den, cmpB_eql, cmpB_neq, cmpB_lss, cmpB_leq, cmpB_gtr, cmpB_geq, arI_add, arI_sub, arI_mul, arI_quo, arI_rem, D.toI, D.toB, D.toL, D.toS, D.len, D.mapL, List.map_cons, List.map_nil, List.getD_cons_zero, List.getD_cons_succ, List.cons_append, List.nil_append, flatD, List.append_nil, List.length_map, List.length_append, List.length_cons, List.length_nil, decide_eq_true_eq, decide_eq_false_iff_not, beq_iff_eq, beq_eq_false_iff_ne, bne_iff_ne, bne_eq_false_iff_eq, ne_eq, Int.toNat_natCast, gt_iff_lt, ge_iff_le, Int.not_lt, Int.not_le, Bool.not_eq_true, Bool.not_eq_false, Bool.and_eq_true, Bool.true_eq_false, Bool.false_eq_true, Bool.not_eq_eq_eq_not, Bool.not_true, Bool.not_false]
          rw [shl_u16 g0 g1, if_neg h4, hw]
          simp [step1, h4]
        · simp only [sumN]; simp only [E.den, cmpB_eql, cmpB_neq, cmpB_lss, cmpB_leq, cmpB_gtr, cmpB_geq, arI_add, arI_sub, arI_mul, arI_quo, arI_rem, D.toI, D.toB, D.toL, D.toS, D.len, D.mapL, List.map_cons, List.map_nil, List.getD_cons_zero, List.getD_cons_succ, List.cons_append, List.nil_append, flatD, List.append_nil, List.length_map, List.length_append, List.length_cons, List.length_nil, decide_eq_true_eq, decide_eq_false_iff_not, beq_iff_eq, beq_eq_false_iff_ne, bne_iff_ne, bne_eq_false_iff_eq, ne_eq, Int.toNat_natCast, gt_iff_lt, ge_iff_le, Int.not_lt, Int.not_le, Bool.not_eq_true, Bool.not_eq_false, Bool.and_eq_true, Bool.true_eq_false, Bool.false_eq_true, Bool.not_eq_eq_eq_not, Bool.not_true, Bool.not_false]; rw [hw]; omega
    · simp only [E.den, cmpB_eql, cmpB_neq, cmpB_lss, cmpB_leq, cmpB_gtr, cmpB_geq, arI_add, arI_sub, arI_mul, arI_quo, arI_rem, D.toI, D.toB, D.toL, D.toS, D.len, D.mapL, List.map_cons, List.map_nil, List.getD_cons_zero, List.getD_cons_succ, List.cons_append, List.nil_append, flatD, List.append_nil, List.length_map, List.length_append, List.length_cons, List.length_nil, decide_eq_true_eq, decide_eq_false_iff_not, beq_iff_eq, beq_eq_false_iff_ne, bne_iff_ne, bne_eq_false_iff_eq, ne_eq, Int.toNat_natCast, gt_iff_lt, ge_iff_le, Int.not_lt, Int.not_le, Bool.not_eq_true, Bool.not_eq_false, Bool.and_eq_true, Bool.true_eq_false, Bool.false_eq_true, Bool.not_eq_eq_eq_not, Bool.not_true, Bool.not_false] at h2
      have hk8 : k = 8 := by omega
      subst hk8
      have hq' : q = byteS r (b.getD i 0) := hq
      have hw : IntKind.wrap .i64 ((i : Int) + 1) = ((i + 1 : Nat) : Int) := by rw [wrap_i64 (by omega) (by omega)]; omega
      refine den_back rfl ⟨q, i + 1, ?_, by omega, g0, g1, ?_⟩ ?_
      · simp only [E.den, cmpB_eql, cmpB_neq, cmpB_lss, cmpB_leq, cmpB_gtr, cmpB_geq, arI_add, arI_sub, arI_mul, arI_quo, arI_rem, D.toI, D.toB, D.toL, D.toS, D.len, D.mapL, List.map_cons, List.map_nil, List.getD_cons_zero, List.getD_cons_succ, List.cons_append, List.nil_append, flatD, List.append_nil, List.length_map, List.length_append, List.length_cons, List.length_nil, decide_eq_true_eq, decide_eq_false_iff_not, beq_iff_eq, beq_eq_false_iff_ne, bne_iff_ne, bne_eq_false_iff_eq, ne_eq, Int.toNat_natCast, gt_iff_lt, ge_iff_le, Int.not_lt, Int.not_le, Bool.not_eq_true, Bool.not_eq_false, Bool.and_eq_true, Bool.true_eq_false, Bool.false_eq_true, Bool.not_eq_eq_eq_not, Bool.not_true, Bool.not_false]; rw [hw]
      · rw [← hs, drop_get 0 hi', List.foldl_cons, hq']
      · simp only [sumM]; simp only [E.den, cmpB_eql, cmpB_neq, cmpB_lss, cmpB_leq, cmpB_gtr, cmpB_geq, arI_add, arI_sub, arI_mul, arI_quo, arI_rem, D.toI, D.toB, D.toL, D.toS, D.len, D.mapL, List.map_cons, List.map_nil, List.getD_cons_zero, List.getD_cons_succ, List.cons_append, List.nil_append, flatD, List.append_nil, List.length_map, List.length_append, List.length_cons, List.length_nil, decide_eq_true_eq, decide_eq_false_iff_not, beq_iff_eq, beq_eq_false_iff_ne, bne_iff_ne, bne_eq_false_iff_eq, ne_eq, Int.toNat_natCast, gt_iff_lt, ge_iff_le, Int.not_lt, Int.not_le, Bool.not_eq_true, Bool.not_eq_false, Bool.and_eq_true, Bool.true_eq_false, Bool.false_eq_true, Bool.not_eq_eq_eq_not, Bool.not_true, Bool.not_false]; rw [hw]; omega
  · simp only [E.den, cmpB_eql, cmpB_neq, cmpB_lss, cmpB_leq, cmpB_gtr, cmpB_geq, arI_add, arI_sub, arI_mul, arI_quo, arI_rem, D.toI, D.toB, D.toL, D.toS, D.len, D.mapL, List.map_cons, List.map_nil, List.getD_cons_zero, List.getD_cons_succ, List.cons_append, List.nil_append, flatD, List.append_nil, List.length_map, List.length_append, List.length_cons, List.length_nil, decide_eq_true_eq, decide_eq_false_iff_not, beq_iff_eq, beq_eq_false_iff_ne, bne_iff_ne, bne_eq_false_iff_eq, ne_eq, Int.toNat_natCast, gt_iff_lt, ge_iff_le, Int.not_lt, Int.not_le, Bool.not_eq_true, Bool.not_eq_false, Bool.and_eq_true, Bool.true_eq_false, Bool.false_eq_true, Bool.not_eq_eq_eq_not, Bool.not_true, Bool.not_false] at h
    refine den_ret ?_
    have : i = b.length := by omega
    subst this
    simp only [E.den, cmpB_eql, cmpB_neq, cmpB_lss, cmpB_leq, cmpB_gtr, cmpB_geq, arI_add, arI_sub, arI_mul, arI_quo, arI_rem, D.toI, D.toB, D.toL, D.toS, D.len, D.mapL, List.map_cons, List.map_nil, List.getD_cons_zero, List.getD_cons_succ, List.cons_append, List.nil_append, flatD, List.append_nil, List.length_map, List.length_append, List.length_cons, List.length_nil, decide_eq_true_eq, decide_eq_false_iff_not, beq_iff_eq, beq_eq_false_iff_ne, bne_iff_ne, bne_eq_false_iff_eq, ne_eq, Int.toNat_natCast, gt_iff_lt, ge_iff_le, Int.not_lt, Int.not_le, Bool.not_eq_true, Bool.not_eq_false, Bool.and_eq_true, Bool.true_eq_false, Bool.false_eq_true, Bool.not_eq_eq_eq_not, Bool.not_true, Bool.not_false]
    rw [List.drop_length] at hs
    simp only [List.foldl_nil] at hs
    rw [wrap_i64 (by omega) (by omega), hs]
def rsumI (b : List Int) (xs : List D) : Prop := ∃ (r : Int) (i : Nat), xs = [I64d r, I64d i] ∧ i ≤ b.length ∧ 0 ≤ r ∧ r ≤ 65535 ∧ (b.drop i).foldl byteS r = sumS b
def rsumJ (c r0 : Int) (xs : List D) : Prop := ∃ (r : Int) (k : Nat), xs = [I64d r, I64d k] ∧ k ≤ 8 ∧ 0 ≤ r ∧ r ≤ 65535 ∧ stepN (8 - k) r = byteS r0 c
theorem rsum_fn (b : List Int) (hb : inB b) (hl : b.length ≤ 4294967296) : Fun Try.prog [] 14 [tY] [bD b] [tI] (.ok [I64d (sumS b)]) := by
  refine rsum_ent _ _ ?_
  show vcrsum.den _ _ _ _ _
  unfold vcrsum
  simp only [E.den, cmpB_eql, cmpB_neq, cmpB_lss, cmpB_leq, cmpB_gtr, cmpB_geq, arI_add, arI_sub, arI_mul, arI_quo, arI_rem, D.toI, D.toB, D.toL, D.toS, D.len, D.mapL, List.map_cons, List.map_nil, List.getD_cons_zero, List.getD_cons_succ, List.cons_append, List.nil_append, flatD, List.append_nil, List.length_map, List.length_append, List.length_cons, List.length_nil, decide_eq_true_eq, decide_eq_false_iff_not, beq_iff_eq, beq_eq_false_iff_ne, bne_iff_ne, bne_eq_false_iff_eq, ne_eq, Int.toNat_natCast, gt_iff_lt, ge_iff_le, Int.not_lt, Int.not_le, Bool.not_eq_true, Bool.not_eq_false, Bool.and_eq_true, Bool.true_eq_false, Bool.false_eq_true, Bool.not_eq_eq_eq_not, Bool.not_true, Bool.not_false]
  refine den_loop (rsumI b) (sumM b) ⟨65535, 0, rfl, by omega, by omega, by omega, rfl⟩ ?_
  simp only [AllSh]
  intro r _ _ n _ _ ⟨r', i, he, hi, h0, h1, hs⟩
  simp only [List.cons.injEq, D.int.injEq, true_and, and_true] at he
  obtain ⟨rfl, rfl⟩ := he
  (try simp only [List.cons_append, List.nil_append])
  refine den_ite (fun h => ?_) (fun h => ?_)
  · simp only [E.den, cmpB_eql, cmpB_neq, cmpB_lss, cmpB_leq, cmpB_gtr, cmpB_geq, arI_add, arI_sub, arI_mul, arI_quo, arI_rem, D.toI, D.toB, D.toL, D.toS, D.len, D.mapL, List.map_cons, List.map_nil, List.getD_cons_zero, List.getD_cons_succ, List.cons_append, List.nil_append, flatD, List.append_nil, List.length_map, List.length_append, List.length_cons, List.length_nil, decide_eq_true_eq, decide_eq_false_iff_not, beq_iff_eq, beq_eq_false_iff_ne, bne_iff_ne, bne_eq_false_iff_eq, ne_eq, Int.toNat_natCast, gt_iff_lt, ge_iff_le, Int.not_lt, Int.not_le, Bool.not_eq_true, Bool.not_eq_false, Bool.and_eq_true, Bool.true_eq_false, Bool.false_eq_true, Bool.not_eq_eq_eq_not, Bool.not_true, Bool.not_false] at h
    have hi' : i < b.length := by omega
    have hg := get_U hi'
    have hc := hb.get hi'
    refine den_ev (evs_ob (by simp only [E.den, cmpB_eql, cmpB_neq, cmpB_lss, cmpB_leq, cmpB_gtr, cmpB_geq, arI_add, arI_sub, arI_mul, arI_quo, arI_rem, D.toI, D.toB, D.toL, D.toS, D.len, D.mapL, List.map_cons, List.map_nil, List.getD_cons_zero, List.getD_cons_succ, List.cons_append, List.nil_append, flatD, List.append_nil, List.length_map, List.length_append, List.length_cons, List.length_nil, decide_eq_true_eq, decide_eq_false_iff_not, beq_iff_eq, beq_eq_false_iff_ne, bne_iff_ne, bne_eq_false_iff_eq, ne_eq, Int.toNat_natCast, gt_iff_lt, ge_iff_le, Int.not_lt, Int.not_le, Bool.not_eq_true, Bool.not_eq_false, Bool.and_eq_true, Bool.true_eq_false, Bool.false_eq_true, Bool.not_eq_eq_eq_not, Bool.not_true, Bool.not_false]; omega) (evs_ob (by simp only [E.den, cmpB_eql, cmpB_neq, cmpB_lss, cmpB_leq, cmpB_gtr, cmpB_geq, arI_add, arI_sub, arI_mul, arI_quo, arI_rem, D.toI, D.toB, D.toL, D.toS, D.len, D.mapL, List.map_cons, List.map_nil, List.getD_cons_zero, List.getD_cons_succ, List.cons_append, List.nil_append, flatD, List.append_nil, List.length_map, List.length_append, List.length_cons, List.length_nil, decide_eq_true_eq, decide_eq_false_iff_not, beq_iff_eq, beq_eq_false_iff_ne, bne_iff_ne, bne_eq_false_iff_eq, ne_eq, Int.toNat_natCast, gt_iff_lt, ge_iff_le, Int.not_lt, Int.not_le, Bool.not_eq_true, Bool.not_eq_false, Bool.and_eq_true, Bool.true_eq_false, Bool.false_eq_true, Bool.not_eq_eq_eq_not, Bool.not_true, Bool.not_false]; omega) (evs_nil ?_)))
    have hx := xor_rng h0 h1 (y := b.getD i 0 * 256) (by omega) (by omega)
    refine den_loop (rsumJ (b.getD i 0) r) sumN ⟨xorI r (b.getD i 0 * 256), 0, ?_, by omega, hx.1, hx.2, rfl⟩ ?_
    · simp only [E.den, cmpB_eql, cmpB_neq, cmpB_lss, cmpB_leq, cmpB_gtr, cmpB_geq, arI_add, arI_sub, arI_mul, arI_quo, arI_rem, D.toI, D.toB, D.toL, D.toS, D.len, D.mapL, List.map_cons, List.map_nil, List.getD_cons_zero, List.getD_cons_succ, List.cons_append, List.nil_append, flatD, List.append_nil, List.length_map, List.length_append, List.length_cons, List.length_nil, decide_eq_true_eq, decide_eq_false_iff_not, beq_iff_eq, beq_eq_false_iff_ne, bne_iff_ne, bne_eq_false_iff_eq, ne_eq, Int.toNat_natCast, gt_iff_lt, ge_iff_le, Int.not_lt, Int.not_le, Bool.not_eq_true, Bool.not_eq_false, Bool.and_eq_true, Bool.true_eq_false, Bool.false_eq_true, Bool.not_eq_eq_eq_not, Bool.not_true, Bool.not_false]
      rw [hg]
      simp only [E.den, cmpB_eql, cmpB_neq, cmpB_lss, cmpB_leq, cmpB_gtr, cmpB_geq, arI_add, arI_sub, arI_mul, arI_quo, arI_rem, D.toI, D.toB, D.toL, D.toS, D.len, D.mapL, List.map_cons, List.map_nil, List.getD_cons_zero, List.getD_cons_succ, List.cons_append, List.nil_append, flatD, List.append_nil, List.length_map, List.length_append, List.length_cons, List.length_nil, decide_eq_true_eq, decide_eq_false_iff_not, beq_iff_eq, beq_eq_false_iff_ne, bne_iff_ne, bne_eq_false_iff_eq, ne_eq, Int.toNat_natCast, gt_iff_lt, ge_iff_le, Int.not_lt, Int.not_le, Bool.not_eq_true, Bool.not_eq_false, Bool.and_eq_true, Bool.true_eq_false, Bool.false_eq_true, Bool.not_eq_eq_eq_not, Bool.not_true, Bool.not_false]
      rw [wrap_i64 (n := b.getD i 0) (by omega) (by omega), wrap_i64 (by omega) (by omega), xor64 h0 h1 (by omega) (by omega)]
      simp
    simp only [AllSh]
    intro q _ _ m _ _ ⟨q', k, he, hk, g0, g1, hq⟩
    simp only [List.cons.injEq, D.int.injEq, true_and, and_true] at he
    obtain ⟨rfl, rfl⟩ := he
    (try simp only [List.cons_append, List.nil_append])
    refine den_ite (fun h2 => ?_) (fun h2 => ?_)
    · simp only [E.den, cmpB_eql, cmpB_neq, cmpB_lss, cmpB_leq, cmpB_gtr, cmpB_geq, arI_add, arI_sub, arI_mul, arI_quo, arI_rem, D.toI, D.toB, D.toL, D.toS, D.len, D.mapL, List.map_cons, List.map_nil, List.getD_cons_zero, List.getD_cons_succ, List.cons_append, List.nil_append, flatD, List.append_nil, List.length_map, List.length_append, List.length_cons, List.length_nil, decide_eq_true_eq, decide_eq_false_iff_not, beq_iff_eq, beq_eq_false_iff_ne, bne_iff_ne, bne_eq_false_iff_eq, ne_eq, Int.toNat_natCast, gt_iff_lt, ge_iff_le, Int.not_lt, Int.not_le, Bool.not_eq_true, Bool.not_eq_false, Bool.and_eq_true, Bool.true_eq_false, Bool.false_eq_true, Bool.not_eq_eq_eq_not, Bool.not_true, Bool.not_false] at h2
      have hk' : k < 8 := by omega
      have hst : stepN (8 - (k + 1)) (step1 q) = byteS r (b.getD i 0) := by
        rw [← hq, show 8 - k = 8 - (k + 1) + 1 by omega]; rfl
      have hr := step1_rng g0 g1
      have hw : IntKind.wrap .i64 ((k : Int) + 1) = ((k + 1 : Nat) : Int) := by rw [wrap_i64 (by omega) (by omega)]; omega
      have hw2 : IntKind.wrap .i64 (q * 2) = q * 2 := wrap_i64 (by omega) (by omega)
      refine den_ite (fun h3 => ?_) (fun h3 => ?_)
      · simp only [E.den, cmpB_eql, cmpB_neq, cmpB_lss, cmpB_leq, cmpB_gtr, cmpB_geq, arI_add, arI_sub, arI_mul, arI_quo, arI_rem, D.toI, D.toB, D.toL, D.toS, D.len, D.mapL, List.map_cons, List.map_nil, List.getD_cons_zero, List.getD_cons_succ, List.cons_append, List.nil_append, flatD, List.append_nil, List.length_map, List.length_append, List.length_cons, List.length_nil, decide_eq_true_eq, decide_eq_false_iff_not, beq_iff_eq, beq_eq_false_iff_ne, bne_iff_ne, bne_eq_false_iff_eq, ne_eq, Int.toNat_natCast, gt_iff_lt, ge_iff_le, Int.not_lt, Int.not_le, Bool.not_eq_true, Bool.not_eq_false, Bool.and_eq_true, Bool.true_eq_false, Bool.false_eq_true, Bool.not_eq_eq_eq_not, Bool.not_true, Bool.not_false] at h3
        rw [hw2] at h3
        have h4 : 32768 ≤ q := by omega
        refine den_back rfl ⟨step1 q, k + 1, ?_, by omega, hr.1, hr.2, hst⟩ ?_
        · simp only [E.den, cmpB_eql, cmpB_neq, cmpB_lss, cmpB_leq, cmpB_gtr, cmpB_geq, arI_add, arI_sub, arI_mul, arI_quo, arI_rem, D.toI, D.toB, D.toL, D.toS, D.len, D.mapL, List.map_cons, List.map_nil, List.getD_cons_zero, List.getD_cons_succ, List.cons_append, List.nil_append, flatD, List.append_nil, List.length_map, List.length_append, List.length_cons, List.length_nil, decide_eq_true_eq, decide_eq_false_iff_not, beq_iff_eq, beq_eq_false_iff_ne, bne_iff_ne, bne_eq_false_iff_eq, ne_eq, Int.toNat_natCast, gt_iff_lt, ge_iff_le, Int.not_lt, Int.not_le, Bool.not_eq_true, Bool.not_eq_false, Bool.and_eq_true, Bool.true_eq_false, Bool.false_eq_true, Bool.not_eq_eq_eq_not, Bool.not_true, Bool.not_false]
          rw [hw2, wrap_i64 (by omega) (by omega), xor64 (by omega) (by omega) (by omega) (by omega), hw, show q * 2 - 65536 = 2 * q - 65536 by omega]
          simp [step1, h4]
        · simp only [sumN]; simp only [E.den, cmpB_eql, cmpB_neq, cmpB_lss, cmpB_leq, cmpB_gtr, cmpB_geq, arI_add, arI_sub, arI_mul, arI_quo, arI_rem, D.toI, D.toB, D.toL, D.toS, D.len, D.mapL, List.map_cons, List.map_nil, List.getD_cons_zero, List.getD_cons_succ, List.cons_append, List.nil_append, flatD, List.append_nil, List.length_map, List.length_append, List.length_cons, List.length_nil, decide_eq_true_eq, decide_eq_false_iff_not, beq_iff_eq, beq_eq_false_iff_ne, bne_iff_ne, bne_eq_false_iff_eq, ne_eq, Int.toNat_natCast, gt_iff_lt, ge_iff_le, Int.not_lt, Int.not_le, Bool.not_eq_true, Bool.not_eq_false, Bool.and_eq_true, Bool.true_eq_false, Bool.false_eq_true, Bool.not_eq_eq_eq_not, Bool.not_true, Bool.not_false]; rw [hw]; omega
      · simp only [E.den, cmpB_eql, cmpB_neq, cmpB_lss, cmpB_leq, cmpB_gtr, cmpB_geq, arI_add, arI_sub, arI_mul, arI_quo, arI_rem, D.toI, D.toB, D.toL, D.toS, D.len, D.mapL, List.map_cons, List.map_nil, List.getD_cons_zero, List.getD_cons_succ, List.cons_append, List.nil_append, flatD, List.append_nil, List.length_map, List.length_append, List.length_cons, List.length_nil, decide_eq_true_eq, decide_eq_false_iff_not, beq_iff_eq, beq_eq_false_iff_ne, bne_iff_ne, bne_eq_false_iff_eq, ne_eq, Int.toNat_natCast, gt_iff_lt, ge_iff_le, Int.not_lt, Int.not_le, Bool.not_eq_true, Bool.not_eq_false, Bool.and_eq_true, Bool.true_eq_false, Bool.false_eq_true, Bool.not_eq_eq_eq_not, Bool.not_true, Bool.not_false] at h3
        rw [hw2] at h3
        have h4 : ¬ 32768 ≤ q := by omega
        refine den_back rfl ⟨step1 q, k + 1, ?_, by omega, hr.1, hr.2, hst⟩ ?_
        · simp only [E.den, cmpB_eql, cmpB_neq, cmpB_lss, cmpB_leq, cmpB_gtr, cmpB_geq, arI_add, arI_sub, arI_mul, arI_quo, arI_rem, D.toI, D.toB, D.toL, D.toS, D.len, D.mapL, List.map_cons, List.map_nil, List.getD_cons_zero, List.getD_cons_succ, List.cons_append, List.nil_append, flatD, List.append_nil, List.length_map, List.length_append, List.length_cons, List.length_nil, decide_eq_true_eq, decide_eq_false_iff_not, beq_iff_eq, beq_eq_false_iff_ne, bne_iff_ne, bne_eq_false_iff_eq, ne_eq, Int.toNat_natCast, gt_iff_lt, ge_iff_le, Int.not_lt, Int.not_le, Bool.not_eq_true, Bool.not_eq_false, Bool.and_eq_true, Bool.true_eq_false, Bool.false_eq_true, Bool.not_eq_eq_eq_not, Bool.not_true, Bool.not_false]
          rw [hw2, hw, show q * 2 = 2 * q by omega]
          simp [step1, h4]
        · simp only [sumN]; simp only [E.den, cmpB_eql, cmpB_neq, cmpB_lss, cmpB_leq, cmpB_gtr, cmpB_geq, arI_add, arI_sub, arI_mul, arI_quo, arI_rem, D.toI, D.toB, D.toL, D.toS, D.len, D.mapL, List.map_cons, List.map_nil, List.getD_cons_zero, List.getD_cons_succ, List.cons_append, List.nil_append, flatD, List.append_nil, List.length_map, List.length_append, List.length_cons, List.length_nil, decide_eq_true_eq, decide_eq_false_iff_not, beq_iff_eq, beq_eq_false_iff_ne, bne_iff_ne, bne_eq_false_iff_eq, ne_eq, Int.toNat_natCast, gt_iff_lt, ge_iff_le, Int.not_lt, Int.not_le, Bool.not_eq_true, Bool.not_eq_false, Bool.and_eq_true, Bool.true_eq_false, Bool.false_eq_true, Bool.not_eq_eq_eq_not, Bool.not_true, Bool.not_false]; rw [hw]; omega
    · simp only [E.den, cmpB_eql, cmpB_neq, cmpB_lss, cmpB_leq, cmpB_gtr, cmpB_geq, arI_add, arI_sub, arI_mul, arI_quo, arI_rem, D.toI, D.toB, D.toL, D.toS, D.len, D.mapL, List.map_cons, List.map_nil, List.getD_cons_zero, List.getD_cons_succ, List.cons_append, List.nil_append, flatD, List.append_nil, List.length_map, List.length_append, List.length_cons, List.length_nil, decide_eq_true_eq, decide_eq_false_iff_not, beq_iff_eq, beq_eq_false_iff_ne, bne_iff_ne, bne_eq_false_iff_eq, ne_eq, Int.toNat_natCast, gt_iff_lt, ge_iff_le, Int.not_lt, Int.not_le, Bool.not_eq_true, Bool.not_eq_false, Bool.and_eq_true, Bool.true_eq_false, Bool.false_eq_true, Bool.not_eq_eq_eq_not, Bool.not_true, Bool.not_false] at h2
      have hk8 : k = 8 := by omega
      subst hk8
      have hq' : q = byteS r (b.getD i 0) := hq
      have hw : IntKind.wrap .i64 ((i : Int) + 1) = ((i + 1 : Nat) : Int) := by rw [wrap_i64 (by omega) (by omega)]; omega
      refine den_back rfl ⟨q, i + 1, ?_, by omega, g0, g1, ?_⟩ ?_
      · simp only [E.den, cmpB_eql, cmpB_neq, cmpB_lss, cmpB_leq, cmpB_gtr, cmpB_geq, arI_add, arI_sub, arI_mul, arI_quo, arI_rem, D.toI, D.toB, D.toL, D.toS, D.len, D.mapL, List.map_cons, List.map_nil, List.getD_cons_zero, List.getD_cons_succ, List.cons_append, List.nil_append, flatD, List.append_nil, List.length_map, List.length_append, List.length_cons, List.length_nil, decide_eq_true_eq, decide_eq_false_iff_not, beq_iff_eq, beq_eq_false_iff_ne, bne_iff_ne, bne_eq_false_iff_eq, ne_eq, Int.toNat_natCast, gt_iff_lt, ge_iff_le, Int.not_lt, Int.not_le, Bool.not_eq_true, Bool.not_eq_false, Bool.and_eq_true, Bool.true_eq_false, Bool.false_eq_true, Bool.not_eq_eq_eq_not, Bool.not_true, Bool.not_false]; rw [hw]
      · rw [← hs, drop_get 0 hi', List.foldl_cons, hq']
      · simp only [sumM]; simp only [E.den, cmpB_eql, cmpB_neq, cmpB_lss, cmpB_leq, cmpB_gtr, cmpB_geq, arI_add, arI_sub, arI_mul, arI_quo, arI_rem, D.toI, D.toB, D.toL, D.toS, D.len, D.mapL, List.map_cons, List.map_nil, List.getD_cons_zero, List.getD_cons_succ, List.cons_append, List.nil_append, flatD, List.append_nil, List.length_map, List.length_append, List.length_cons, List.length_nil, decide_eq_true_eq, decide_eq_false_iff_not, beq_iff_eq, beq_eq_false_iff_ne, bne_iff_ne, bne_eq_false_iff_eq, ne_eq, Int.toNat_natCast, gt_iff_lt, ge_iff_le, Int.not_lt, Int.not_le, Bool.not_eq_true, Bool.not_eq_false, Bool.and_eq_true, Bool.true_eq_false, Bool.false_eq_true, Bool.not_eq_eq_eq_not, Bool.not_true, Bool.not_false]; rw [hw]; omega
  · simp only [E.den, cmpB_eql, cmpB_neq, cmpB_lss, cmpB_leq, cmpB_gtr, cmpB_geq, arI_add, arI_sub, arI_mul, arI_quo, arI_rem, D.toI, D.toB, D.toL, D.toS, D.len, D.mapL, List.map_cons, List.map_nil, List.getD_cons_zero, List.getD_cons_succ, List.cons_append, List.nil_append, flatD, List.append_nil, List.length_map, List.length_append, List.length_cons, List.length_nil, decide_eq_true_eq, decide_eq_false_iff_not, beq_iff_eq, beq_eq_false_iff_ne, bne_iff_ne, bne_eq_false_iff_eq, ne_eq, Int.toNat_natCast, gt_iff_lt, ge_iff_le, Int.not_lt, Int.not_le, Bool.not_eq_true, Bool.not_eq_false, Bool.and_eq_true, Bool.true_eq_false, Bool.false_eq_true, Bool.not_eq_eq_eq_not, Bool.not_true, Bool.not_false] at h
    refine den_ret ?_
    have : i = b.length := by omega
    subst this
    simp only [E.den, cmpB_eql, cmpB_neq, cmpB_lss, cmpB_leq, cmpB_gtr, cmpB_geq, arI_add, arI_sub, arI_mul, arI_quo, arI_rem, D.toI, D.toB, D.toL, D.toS, D.len, D.mapL, List.map_cons, List.map_nil, List.getD_cons_zero, List.getD_cons_succ, List.cons_append, List.nil_append, flatD, List.append_nil, List.length_map, List.length_append, List.length_cons, List.length_nil, decide_eq_true_eq, decide_eq_false_iff_not, beq_iff_eq, beq_eq_false_iff_ne, bne_iff_ne, bne_eq_false_iff_eq, ne_eq, Int.toNat_natCast, gt_iff_lt, ge_iff_le, Int.not_lt, Int.not_le, Bool.not_eq_true, Bool.not_eq_false, Bool.and_eq_true, Bool.true_eq_false, Bool.false_eq_true, Bool.not_eq_eq_eq_not, Bool.not_true, Bool.not_false]
    rw [List.drop_length] at hs
    simp only [List.foldl_nil] at hs
    rw [hs]
theorem same_fn (a b : List Int) (ha : inB a) (hb : inB b) : Fun Try.prog [] 17 [tY, tY] [bD a, bD b] [tB] (.ok [.bool (decide (a = b))]) := by
  refine same_ent _ _ ?_
  show vcsame.den _ _ _ _ _
  unfold vcsame
  refine den_ret ?_
  simp only [E.den, cmpB_eql, cmpB_neq, cmpB_lss, cmpB_leq, cmpB_gtr, cmpB_geq, arI_add, arI_sub, arI_mul, arI_quo, arI_rem, D.toI, D.toB, D.toL, D.toS, D.len, D.mapL, List.map_cons, List.map_nil, List.getD_cons_zero, List.getD_cons_succ, List.cons_append, List.nil_append, flatD, List.append_nil, List.length_map, List.length_append, List.length_cons, List.length_nil, decide_eq_true_eq, decide_eq_false_iff_not, beq_iff_eq, beq_eq_false_iff_ne, bne_iff_ne, bne_eq_false_iff_eq, ne_eq, Int.toNat_natCast, gt_iff_lt, ge_iff_le, Int.not_lt, Int.not_le, Bool.not_eq_true, Bool.not_eq_false, Bool.and_eq_true, Bool.true_eq_false, Bool.false_eq_true, Bool.not_eq_eq_eq_not, Bool.not_true, Bool.not_false]
  rw [strD_eq ha hb]
theorem put_fn (f : List Int) (c : Int) (hf : f.length ≤ 1000000000) : Fun Try.prog [] 31 [.r [.int .u8], .c (.int .u8)] [bD f, U8d c] [.r [.int .u8]] (.ok [bD (f ++ esc c)]) := by
  refine put_ent _ _ ?_
  show vcput.den _ _ _ _ _
  unfold vcput
  refine den_ite (fun h => ?_) (fun h => den_ite (fun h2 => ?_) (fun h2 => ?_))
  · simp only [E.den, cmpB_eql, cmpB_neq, cmpB_lss, cmpB_leq, cmpB_gtr, cmpB_geq, arI_add, arI_sub, arI_mul, arI_quo, arI_rem, D.toI, D.toB, D.toL, D.toS, D.len, D.mapL, List.map_cons, List.map_nil, List.getD_cons_zero, List.getD_cons_succ, List.cons_append, List.nil_append, flatD, List.append_nil, List.length_map, List.length_append, List.length_cons, List.length_nil, decide_eq_true_eq, decide_eq_false_iff_not, beq_iff_eq, beq_eq_false_iff_ne, bne_iff_ne, bne_eq_false_iff_eq, ne_eq, Int.toNat_natCast, gt_iff_lt, ge_iff_le, Int.not_lt, Int.not_le, Bool.not_eq_true, Bool.not_eq_false, Bool.and_eq_true, Bool.true_eq_false, Bool.false_eq_true, Bool.not_eq_eq_eq_not, Bool.not_true, Bool.not_false] at h
    refine den_ev (evs_ob (by simp only [E.den, cmpB_eql, cmpB_neq, cmpB_lss, cmpB_leq, cmpB_gtr, cmpB_geq, arI_add, arI_sub, arI_mul, arI_quo, arI_rem, D.toI, D.toB, D.toL, D.toS, D.len, D.mapL, List.map_cons, List.map_nil, List.getD_cons_zero, List.getD_cons_succ, List.cons_append, List.nil_append, flatD, List.append_nil, List.length_map, List.length_append, List.length_cons, List.length_nil, decide_eq_true_eq, decide_eq_false_iff_not, beq_iff_eq, beq_eq_false_iff_ne, bne_iff_ne, bne_eq_false_iff_eq, ne_eq, Int.toNat_natCast, gt_iff_lt, ge_iff_le, Int.not_lt, Int.not_le, Bool.not_eq_true, Bool.not_eq_false, Bool.and_eq_true, Bool.true_eq_false, Bool.false_eq_true, Bool.not_eq_eq_eq_not, Bool.not_true, Bool.not_false]; omega) (evs_nil (den_ret ?_)))
    simp only [E.den, cmpB_eql, cmpB_neq, cmpB_lss, cmpB_leq, cmpB_gtr, cmpB_geq, arI_add, arI_sub, arI_mul, arI_quo, arI_rem, D.toI, D.toB, D.toL, D.toS, D.len, D.mapL, List.map_cons, List.map_nil, List.getD_cons_zero, List.getD_cons_succ, List.cons_append, List.nil_append, flatD, List.append_nil, List.length_map, List.length_append, List.length_cons, List.length_nil, decide_eq_true_eq, decide_eq_false_iff_not, beq_iff_eq, beq_eq_false_iff_ne, bne_iff_ne, bne_eq_false_iff_eq, ne_eq, Int.toNat_natCast, gt_iff_lt, ge_iff_le, Int.not_lt, Int.not_le, Bool.not_eq_true, Bool.not_eq_false, Bool.and_eq_true, Bool.true_eq_false, Bool.false_eq_true, Bool.not_eq_eq_eq_not, Bool.not_true, Bool.not_false]
    rw [esc_mark h]; simp
  · simp only [E.den, cmpB_eql, cmpB_neq, cmpB_lss, cmpB_leq, cmpB_gtr, cmpB_geq, arI_add, arI_sub, arI_mul, arI_quo, arI_rem, D.toI, D.toB, D.toL, D.toS, D.len, D.mapL, List.map_cons, List.map_nil, List.getD_cons_zero, List.getD_cons_succ, List.cons_append, List.nil_append, flatD, List.append_nil, List.length_map, List.length_append, List.length_cons, List.length_nil, decide_eq_true_eq, decide_eq_false_iff_not, beq_iff_eq, beq_eq_false_iff_ne, bne_iff_ne, bne_eq_false_iff_eq, ne_eq, Int.toNat_natCast, gt_iff_lt, ge_iff_le, Int.not_lt, Int.not_le, Bool.not_eq_true, Bool.not_eq_false, Bool.and_eq_true, Bool.true_eq_false, Bool.false_eq_true, Bool.not_eq_eq_eq_not, Bool.not_true, Bool.not_false] at h h2
    refine den_ev (evs_ob (by simp only [E.den, cmpB_eql, cmpB_neq, cmpB_lss, cmpB_leq, cmpB_gtr, cmpB_geq, arI_add, arI_sub, arI_mul, arI_quo, arI_rem, D.toI, D.toB, D.toL, D.toS, D.len, D.mapL, List.map_cons, List.map_nil, List.getD_cons_zero, List.getD_cons_succ, List.cons_append, List.nil_append, flatD, List.append_nil, List.length_map, List.length_append, List.length_cons, List.length_nil, decide_eq_true_eq, decide_eq_false_iff_not, beq_iff_eq, beq_eq_false_iff_ne, bne_iff_ne, bne_eq_false_iff_eq, ne_eq, Int.toNat_natCast, gt_iff_lt, ge_iff_le, Int.not_lt, Int.not_le, Bool.not_eq_true, Bool.not_eq_false, Bool.and_eq_true, Bool.true_eq_false, Bool.false_eq_true, Bool.not_eq_eq_eq_not, Bool.not_true, Bool.not_false]; omega) (evs_nil (den_ret ?_)))
    simp only [E.den, cmpB_eql, cmpB_neq, cmpB_lss, cmpB_leq, cmpB_gtr, cmpB_geq, arI_add, arI_sub, arI_mul, arI_quo, arI_rem, D.toI, D.toB, D.toL, D.toS, D.len, D.mapL, List.map_cons, List.map_nil, List.getD_cons_zero, List.getD_cons_succ, List.cons_append, List.nil_append, flatD, List.append_nil, List.length_map, List.length_append, List.length_cons, List.length_nil, decide_eq_true_eq, decide_eq_false_iff_not, beq_iff_eq, beq_eq_false_iff_ne, bne_iff_ne, bne_eq_false_iff_eq, ne_eq, Int.toNat_natCast, gt_iff_lt, ge_iff_le, Int.not_lt, Int.not_le, Bool.not_eq_true, Bool.not_eq_false, Bool.and_eq_true, Bool.true_eq_false, Bool.false_eq_true, Bool.not_eq_eq_eq_not, Bool.not_true, Bool.not_false]
    rw [esc_self h2]; simp
  · simp only [E.den, cmpB_eql, cmpB_neq, cmpB_lss, cmpB_leq, cmpB_gtr, cmpB_geq, arI_add, arI_sub, arI_mul, arI_quo, arI_rem, D.toI, D.toB, D.toL, D.toS, D.len, D.mapL, List.map_cons, List.map_nil, List.getD_cons_zero, List.getD_cons_succ, List.cons_append, List.nil_append, flatD, List.append_nil, List.length_map, List.length_append, List.length_cons, List.length_nil, decide_eq_true_eq, decide_eq_false_iff_not, beq_iff_eq, beq_eq_false_iff_ne, bne_iff_ne, bne_eq_false_iff_eq, ne_eq, Int.toNat_natCast, gt_iff_lt, ge_iff_le, Int.not_lt, Int.not_le, Bool.not_eq_true, Bool.not_eq_false, Bool.and_eq_true, Bool.true_eq_false, Bool.false_eq_true, Bool.not_eq_eq_eq_not, Bool.not_true, Bool.not_false] at h h2
    refine den_ev (evs_ob (by simp only [E.den, cmpB_eql, cmpB_neq, cmpB_lss, cmpB_leq, cmpB_gtr, cmpB_geq, arI_add, arI_sub, arI_mul, arI_quo, arI_rem, D.toI, D.toB, D.toL, D.toS, D.len, D.mapL, List.map_cons, List.map_nil, List.getD_cons_zero, List.getD_cons_succ, List.cons_append, List.nil_append, flatD, List.append_nil, List.length_map, List.length_append, List.length_cons, List.length_nil, decide_eq_true_eq, decide_eq_false_iff_not, beq_iff_eq, beq_eq_false_iff_ne, bne_iff_ne, bne_eq_false_iff_eq, ne_eq, Int.toNat_natCast, gt_iff_lt, ge_iff_le, Int.not_lt, Int.not_le, Bool.not_eq_true, Bool.not_eq_false, Bool.and_eq_true, Bool.true_eq_false, Bool.false_eq_true, Bool.not_eq_eq_eq_not, Bool.not_true, Bool.not_false]; omega) (evs_nil (den_ret ?_)))
    simp only [E.den, cmpB_eql, cmpB_neq, cmpB_lss, cmpB_leq, cmpB_gtr, cmpB_geq, arI_add, arI_sub, arI_mul, arI_quo, arI_rem, D.toI, D.toB, D.toL, D.toS, D.len, D.mapL, List.map_cons, List.map_nil, List.getD_cons_zero, List.getD_cons_succ, List.cons_append, List.nil_append, flatD, List.append_nil, List.length_map, List.length_append, List.length_cons, List.length_nil, decide_eq_true_eq, decide_eq_false_iff_not, beq_iff_eq, beq_eq_false_iff_ne, bne_iff_ne, bne_eq_false_iff_eq, ne_eq, Int.toNat_natCast, gt_iff_lt, ge_iff_le, Int.not_lt, Int.not_le, Bool.not_eq_true, Bool.not_eq_false, Bool.and_eq_true, Bool.true_eq_false, Bool.false_eq_true, Bool.not_eq_eq_eq_not, Bool.not_true, Bool.not_false]
    rw [esc_other h h2]; simp
theorem content_fn (b : List Int) (n : Int) (hb : b.length ≤ 1000000000) (h0 : 0 ≤ n) (h1 : n ≤ 65535) : Fun Try.prog [] 25 [tY, tI] [bD b, I64d n] [.r [.int .u8]] (.ok [bD (withSum b n)]) := by
  refine content_ent _ _ ?_
  show vccontent.den _ _ _ _ _
  unfold vccontent
  refine den_ev (evs_ob (by simp only [E.den, cmpB_eql, cmpB_neq, cmpB_lss, cmpB_leq, cmpB_gtr, cmpB_geq, arI_add, arI_sub, arI_mul, arI_quo, arI_rem, D.toI, D.toB, D.toL, D.toS, D.len, D.mapL, List.map_cons, List.map_nil, List.getD_cons_zero, List.getD_cons_succ, List.cons_append, List.nil_append, flatD, List.append_nil, List.length_map, List.length_append, List.length_cons, List.length_nil, decide_eq_true_eq, decide_eq_false_iff_not, beq_iff_eq, beq_eq_false_iff_ne, bne_iff_ne, bne_eq_false_iff_eq, ne_eq, Int.toNat_natCast, gt_iff_lt, ge_iff_le, Int.not_lt, Int.not_le, Bool.not_eq_true, Bool.not_eq_false, Bool.and_eq_true, Bool.true_eq_false, Bool.false_eq_true, Bool.not_eq_eq_eq_not, Bool.not_true, Bool.not_false]; omega) (evs_nil ?_))
  refine den_ev (evs_ob (by simp only [E.den, cmpB_eql, cmpB_neq, cmpB_lss, cmpB_leq, cmpB_gtr, cmpB_geq, arI_add, arI_sub, arI_mul, arI_quo, arI_rem, D.toI, D.toB, D.toL, D.toS, D.len, D.mapL, List.map_cons, List.map_nil, List.getD_cons_zero, List.getD_cons_succ, List.cons_append, List.nil_append, flatD, List.append_nil, List.length_map, List.length_append, List.length_cons, List.length_nil, decide_eq_true_eq, decide_eq_false_iff_not, beq_iff_eq, beq_eq_false_iff_ne, bne_iff_ne, bne_eq_false_iff_eq, ne_eq, Int.toNat_natCast, gt_iff_lt, ge_iff_le, Int.not_lt, Int.not_le, Bool.not_eq_true, Bool.not_eq_false, Bool.and_eq_true, Bool.true_eq_false, Bool.false_eq_true, Bool.not_eq_eq_eq_not, Bool.not_true, Bool.not_false]; omega) (evs_nil (den_ret ?_)))
  simp only [E.den, cmpB_eql, cmpB_neq, cmpB_lss, cmpB_leq, cmpB_gtr, cmpB_geq, arI_add, arI_sub, arI_mul, arI_quo, arI_rem, D.toI, D.toB, D.toL, D.toS, D.len, D.mapL, List.map_cons, List.map_nil, List.getD_cons_zero, List.getD_cons_succ, List.cons_append, List.nil_append, flatD, List.append_nil, List.length_map, List.length_append, List.length_cons, List.length_nil, decide_eq_true_eq, decide_eq_false_iff_not, beq_iff_eq, beq_eq_false_iff_ne, bne_iff_ne, bne_eq_false_iff_eq, ne_eq, Int.toNat_natCast, gt_iff_lt, ge_iff_le, Int.not_lt, Int.not_le, Bool.not_eq_true, Bool.not_eq_false, Bool.and_eq_true, Bool.true_eq_false, Bool.false_eq_true, Bool.not_eq_eq_eq_not, Bool.not_true, Bool.not_false]
  have e1 : IntKind.wrap .u8 (IntKind.wrap .i64 (n.tdiv 256)) = n / 256 := by
    rw [Int.tdiv_eq_ediv_of_nonneg h0, wrap_i64 (by omega) (by omega), wrap_u8 (by omega) (by omega)]
  have e2 : IntKind.wrap .u8 (n.tmod 256) = n % 256 := by
    rw [Int.tmod_eq_emod_of_nonneg h0, wrap_u8 (by omega) (by omega)]
  rw [e1, e2]
  simp [withSum]
end Go.Proofs.Ytfpmdfpnbegnhaa
