/-
  The functions of layer 7: integers.
-/
import Derived.Test.YtmdjbmpongggnaaSy07a
import Derived.Test.YtmdjbmpongggnaaSy07p
import Derived.Test.YtmdjbmpongggnaaBytes
set_option maxRecDepth 100000
set_option linter.unusedSimpArgs false
set_option linter.unusedVariables false
namespace Go.Proofs.Ytmdjbmpongggnaa
open Go.Proofs.Ytmdjbmpongggnaa.Sy Go.RowKit Go.WideShapes Go.ChangeShapes Go.ChangeAt

/-! what the operations on bits are -/
theorem and127 {x : Int} (h0 : 0 ≤ x) (h1 : x ≤ 255) : arI .and .u8 x 127 = x % 128 := by
  unfold arI
  simp only [BitVec.toNat_and, bv_toNat (n := IntKind.bits .u8) h0 (show x < 2 ^ 8 by omega), bv_toNat (n := IntKind.bits .u8) (x := 127) (by omega) (by decide)]
  have e : x.toNat &&& (127 : Int).toNat = (x % 128).toNat := by
    rw [show (127 : Int).toNat = 2 ^ 7 - 1 by decide, Nat.and_two_pow_sub_one_eq_mod]
    omega
  rw [e, show (((x % 128).toNat : Nat) : Int) = x % 128 by omega]
  exact wrap_u8 (by omega) (by omega)
theorem and127_64 {x : Int} (h0 : 0 ≤ x) (h1 : x ≤ 18446744073709551615) : arI .and .u64 x 127 = x % 128 := by
  unfold arI
  simp only [BitVec.toNat_and, bv_toNat (n := IntKind.bits .u64) h0 (show x < 2 ^ 64 by omega), bv_toNat (n := IntKind.bits .u64) (x := 127) (by omega) (by decide)]
  have e : x.toNat &&& (127 : Int).toNat = (x % 128).toNat := by
    rw [show (127 : Int).toNat = 2 ^ 7 - 1 by decide, Nat.and_two_pow_sub_one_eq_mod]
    omega
  rw [e, show (((x % 128).toNat : Nat) : Int) = x % 128 by omega]
  exact wrap_u64 (by omega) (by omega)
theorem and1_64 {x : Int} (h0 : 0 ≤ x) (h1 : x ≤ 18446744073709551615) : arI .and .u64 x 1 = x % 2 := by
  unfold arI
  simp only [BitVec.toNat_and, bv_toNat (n := IntKind.bits .u64) h0 (show x < 2 ^ 64 by omega), bv_toNat (n := IntKind.bits .u64) (x := 1) (by omega) (by decide)]
  have e : x.toNat &&& (1 : Int).toNat = (x % 2).toNat := by
    rw [show (1 : Int).toNat = 2 ^ 1 - 1 by decide, Nat.and_two_pow_sub_one_eq_mod]
    omega
  rw [e, show (((x % 2).toNat : Nat) : Int) = x % 2 by omega]
  exact wrap_u64 (by omega) (by omega)
theorem or128 {x : Int} (h0 : 0 ≤ x) (h1 : x < 128) : arI .or .u8 x 128 = x + 128 := by
  unfold arI
  simp only [BitVec.toNat_or, bv_toNat (n := IntKind.bits .u8) h0 (show x < 2 ^ 8 by omega), bv_toNat (n := IntKind.bits .u8) (x := 128) (by omega) (by decide)]
  have e : x.toNat ||| (128 : Int).toNat = (x + 128).toNat := by
    have h := Nat.two_pow_add_eq_or_of_lt (i := 7) (b := x.toNat) (by omega) 1
    rw [Nat.or_comm, show (128 : Int).toNat = 2 ^ 7 * 1 by decide, ← h]
    omega
  rw [e, show (((x + 128).toNat : Nat) : Int) = x + 128 by omega]
  exact wrap_u8 (by omega) (by omega)
/-- A group of bits above those that stand. -/
theorem or_group {u c : Int} {i : Nat} (h0 : 0 ≤ u) (h1 : u < 2 ^ i) (h2 : 0 ≤ c) (h3 : u + c * 2 ^ i ≤ 18446744073709551615) : arI .or .u64 u (c * 2 ^ i) = u + c * 2 ^ i := by
  have hp : (0 : Int) ≤ c * 2 ^ i := Int.mul_nonneg h2 (Int.pow_nonneg (by omega))
  unfold arI
  simp only [BitVec.toNat_or, bv_toNat (n := IntKind.bits .u64) h0 (show u < 2 ^ 64 by omega), bv_toNat (n := IntKind.bits .u64) (x := c * 2 ^ i) hp (show c * 2 ^ i < 2 ^ 64 by omega)]
  have e : u.toNat ||| (c * 2 ^ i).toNat = (u + c * 2 ^ i).toNat := by
    have hu : u.toNat < 2 ^ i := by
      have : ((2 ^ i : Nat) : Int) = 2 ^ i := by simp
      omega
    have h := Nat.two_pow_add_eq_or_of_lt hu c.toNat
    have hc : (c * 2 ^ i).toNat = 2 ^ i * c.toNat := by
      have h5 : ((2 ^ i : Nat) : Int) = 2 ^ i := by simp
      have : ((2 ^ i * c.toNat : Nat) : Int) = c * 2 ^ i := by
        rw [Int.natCast_mul, h5, Int.toNat_of_nonneg h2, Int.mul_comm]
      omega
    rw [Nat.or_comm, hc, ← h, ← hc]
    omega
  rw [e, Int.toNat_of_nonneg (by omega)]
  exact wrap_u64 (by omega) (by omega)
theorem shl_group {c : Int} {i : Nat} (h : i ≤ 63) (h0 : 0 ≤ c * 2 ^ i) (h1 : c * 2 ^ i ≤ 18446744073709551615) : shI .shl .u64 c (i : Int) = c * 2 ^ i := by
  rw [shI_shl, Int.toNat_natCast, show min i (IntKind.bits .u64) = i from Nat.min_eq_left (show i ≤ 64 by omega)]
  exact wrap_u64 h0 h1
theorem shr1_u64 (x : Int) : shI .shr .u64 x 1 = x / 2 := by
  rw [shI_shr, show (2 : Int) ^ (min (1 : Int).toNat (IntKind.bits .u64)) = 2 by decide]
  exact Int.fdiv_eq_ediv_of_nonneg _ (by decide)
theorem shr7_u64 (x : Int) : shI .shr .u64 x 7 = x / 128 := by
  rw [shI_shr, show (2 : Int) ^ (min (7 : Int).toNat (IntKind.bits .u64)) = 128 by decide]
  exact Int.fdiv_eq_ediv_of_nonneg _ (by decide)
theorem shr63_i64 {x : Int} (h : in64 x) : shI .shr .i64 x 63 = if 0 ≤ x then 0 else -1 := by
  rw [shI_shr, show (2 : Int) ^ (min (63 : Int).toNat (IntKind.bits .i64)) = 9223372036854775808 by decide, Int.fdiv_eq_ediv_of_nonneg _ (by decide)]
  unfold in64 at h
  split <;> omega
theorem wrap_i64_hi {n : Int} (h0 : 9223372036854775808 ≤ n) (h1 : n ≤ 18446744073709551615) : IntKind.wrap .i64 n = n - 18446744073709551616 := by
  simp [IntKind.wrap, IntKind.bits, IntKind.signed]; omega
theorem bv_allOnes : BitVec.ofInt 64 (-1) = BitVec.allOnes 64 := by decide
theorem arI_xori (x y : Int) : arI .xor .i64 x y = IntKind.wrap .i64 (((BitVec.ofInt 64 x ^^^ BitVec.ofInt 64 y).toNat : Nat) : Int) := rfl
theorem arI_xoru (x y : Int) : arI .xor .u64 x y = IntKind.wrap .u64 (((BitVec.ofInt 64 x ^^^ BitVec.ofInt 64 y).toNat : Nat) : Int) := rfl
/-- The sign taken back. -/
theorem xor_sign {u : Int} (h0 : 0 ≤ u) (h1 : u ≤ 18446744073709551615) : arI .xor .i64 (u / 2) (-(u % 2)) = unzig u := by
  rw [arI_xori]
  unfold unzig
  have hx := bv_toNat (n := 64) (x := u / 2) (by omega) (show u / 2 < 2 ^ 64 by omega)
  split
  · rename_i h
    rw [h, show (-(0 : Int)) = 0 from rfl, show BitVec.ofInt 64 0 = 0#64 from rfl]
    simp only [BitVec.xor_zero, hx]
    rw [Int.toNat_of_nonneg (by omega)]
    exact wrap_i64 (by omega) (by omega)
  · rename_i h
    rw [show u % 2 = 1 by omega, bv_allOnes]
    simp only [BitVec.xor_allOnes, BitVec.toNat_not, hx]
    have e : ((2 ^ 64 - 1 - (u / 2).toNat : Nat) : Int) = 18446744073709551615 - u / 2 := by omega
    rw [e, wrap_i64_hi (by omega) (by omega)]
    omega
theorem zig_xor {n : Int} (h : in64 n) : arI .xor .u64 (shI .shl .u64 (IntKind.wrap .u64 n) 1) (IntKind.wrap .u64 (shI .shr .i64 n 63)) = zig n := by
  rw [shr63_i64 h, shI_shl, wrap_u64_mod, wrap_u64_mod, wrap_u64_mod, show (2 : Int) ^ (min (1 : Int).toNat (IntKind.bits .u64)) = 2 by decide]
  rw [arI_xoru]
  unfold zig
  unfold in64 at h
  split
  · rename_i h0
    rw [show (0 : Int) % 18446744073709551616 = 0 by decide, show BitVec.ofInt 64 0 = 0#64 from rfl]
    simp only [BitVec.xor_zero]
    rw [bv_toNat (n := 64) (by omega) (show _ < (2 : Int) ^ 64 by omega), Int.toNat_of_nonneg (by omega), wrap_u64 (by omega) (by omega)]
    omega
  · rename_i h0
    rw [show BitVec.ofInt 64 ((-1 : Int) % 18446744073709551616) = BitVec.allOnes 64 by decide]
    simp only [BitVec.xor_allOnes, BitVec.toNat_not]
    rw [bv_toNat (n := 64) (by omega) (show _ < (2 : Int) ^ 64 by omega)]
    have e : ((2 ^ 64 - 1 - (n % 18446744073709551616 * 2 % 18446744073709551616).toNat : Nat) : Int) = 18446744073709551615 - (2 * n + 18446744073709551616) := by omega
    rw [e, wrap_u64 (by omega) (by omega)]
    omega
/-! check -/
theorem check_t (e : Int) : Fun Try.prog [] 36 [tB, tI] [.bool true, I64d e] [] (.ok []) := by
  refine check_ent _ _ ?_
  show vccheck.den _ _ _ _ _
  unfold vccheck
  exact den_ite (fun _ => den_ret rfl) (fun h => by cases h)
theorem check_f (e : Int) : Fun Try.prog [] 36 [tB, tI] [.bool false, I64d e] [] (.pan 66 (.rc [I64d e])) := by
  refine check_ent _ _ ?_
  show vccheck.den _ _ _ _ _
  unfold vccheck
  exact den_ite (fun h => by cases h) (fun _ => den_pan rfl)
theorem den_chk {K : FR → Prop} {Λ : List Lp} {ρ : List D} {c : E} {e : Int} {n : Nat} {k : VC} {b : Bool} (hc : c.den ρ = .bool b) (ht : b = true → k.den Try.prog [] K Λ ρ) (hf : b = false → K (.pan 66 (.rc [I64d e]))) :
    (VC.cal 36 [tB, tI] [c, .ki .i64 e] [] n k).den Try.prog [] K Λ ρ := by
  cases b with
  | true => exact den_cal [] rfl (check_t e) (by simp only [List.map_cons, List.map_nil, hc]; rfl) rfl (by rw [List.append_nil]; exact ht rfl)
  | false => exact den_calP (check_f e) (by simp only [List.map_cons, List.map_nil, hc]; rfl) (hf rfl)
/-! put an integer -/
def appI (a : List Int) (n : Int) (xs : List D) : Prop := ∃ (r : List Int) (u : Int) (f : Nat), xs = [bD r, .int .u64 u] ∧ 0 ≤ u ∧ u < 2 * 128 ^ f ∧ f ≤ 9 ∧ r ++ encF f u = a ++ putS n ∧ r.length + (f + 1) ≤ a.length + 10
def appM (xs : List D) : Nat := (xs.getD 1 default).toI.toNat
theorem encF_big {f : Nat} {u : Int} (h : 128 ≤ u) (hu : u < 2 * 128 ^ f) : ∃ g, f = g + 1 ∧ encF f u = (u % 128 + 128) :: encF g (u / 128) ∧ u / 128 < 2 * 128 ^ g := by
  cases f with
  | zero => simp at hu; omega
  | succ g =>
    have hpow : (128 : Int) ^ (g + 1) = 128 ^ g * 128 := Int.pow_succ _ _
    refine ⟨g, rfl, ?_, by omega⟩
    simp only [encF]
    rw [if_neg (by omega)]
theorem encF_small {f : Nat} {u : Int} (h : u < 128) : encF f u = [u] := by
  cases f with
  | zero => rfl
  | succ g => simp only [encF]; rw [if_pos h]
theorem top9 {u : Int} {f : Nat} (h : u < 2 * 128 ^ f) (hf : f ≤ 9) : u ≤ 18446744073709551615 := by
  have : (128 : Int) ^ f ≤ 128 ^ 9 := by
    have : f = 0 ∨ f = 1 ∨ f = 2 ∨ f = 3 ∨ f = 4 ∨ f = 5 ∨ f = 6 ∨ f = 7 ∨ f = 8 ∨ f = 9 := by omega
    rcases this with rfl | rfl | rfl | rfl | rfl | rfl | rfl | rfl | rfl | rfl <;> decide
  rw [show (128 : Int) ^ 9 = 9223372036854775808 by decide] at this
  omega
theorem app_fn (a : List Int) (n : Int) (hn : in64 n) (hl : a.length + 10 ≤ 4294967296) : Fun Try.prog [] 32 [.r [.int .u8], tI] [bD a, I64d n] [.r [.int .u8]] (.ok [bD (a ++ putS n)]) := by
  refine app_ent _ _ ?_
  show vcapp.den _ _ _ _ _
  unfold vcapp
  have hz := zig_rng hn
  refine den_loop (appI a n) appM ⟨a, zig n, 9, ?_, hz.1, hz.2, by omega, rfl, by omega⟩ ?_
  · simp only [E.den, cmpB_eql, cmpB_neq, cmpB_lss, cmpB_leq, cmpB_gtr, cmpB_geq, arI_add, arI_sub, arI_mul, arI_quo, arI_rem, D.toI, D.toB, D.toL, D.toS, D.len, D.mapL, List.map_cons, List.map_nil, List.getD_cons_zero, List.getD_cons_succ, List.cons_append, List.nil_append, flatD, List.append_nil, List.length_map, List.length_append, List.length_cons, List.length_nil, decide_eq_true_eq, decide_eq_false_iff_not, beq_iff_eq, beq_eq_false_iff_ne, bne_iff_ne, bne_eq_false_iff_eq, ne_eq, Int.toNat_natCast, gt_iff_lt, ge_iff_le, Int.not_lt, Int.not_le, Bool.not_eq_true, Bool.not_eq_false, Bool.and_eq_true, Bool.true_eq_false, Bool.false_eq_true, Bool.not_eq_eq_eq_not, Bool.not_true, Bool.not_false]
    rw [zig_xor hn]
  simp only [AllSh]
  intro _ _ m _ _ ⟨r, u, f, he, h0, h1, hf, hr, hlen⟩
  simp only [List.cons.injEq, D.int.injEq, D.lst.injEq, true_and, and_true] at he
  obtain ⟨rfl, rfl⟩ := he
  have ht := top9 h1 hf
  (try simp only [List.cons_append, List.nil_append])
  refine den_ite (fun h => ?_) (fun h => ?_)
  · simp only [E.den, cmpB_eql, cmpB_neq, cmpB_lss, cmpB_leq, cmpB_gtr, cmpB_geq, arI_add, arI_sub, arI_mul, arI_quo, arI_rem, D.toI, D.toB, D.toL, D.toS, D.len, D.mapL, List.map_cons, List.map_nil, List.getD_cons_zero, List.getD_cons_succ, List.cons_append, List.nil_append, flatD, List.append_nil, List.length_map, List.length_append, List.length_cons, List.length_nil, decide_eq_true_eq, decide_eq_false_iff_not, beq_iff_eq, beq_eq_false_iff_ne, bne_iff_ne, bne_eq_false_iff_eq, ne_eq, Int.toNat_natCast, gt_iff_lt, ge_iff_le, Int.not_lt, Int.not_le, Bool.not_eq_true, Bool.not_eq_false, Bool.and_eq_true, Bool.true_eq_false, Bool.false_eq_true, Bool.not_eq_eq_eq_not, Bool.not_true, Bool.not_false] at h
    obtain ⟨g, rfl, hg, hu⟩ := encF_big h h1
    have e : arI .or .u8 (IntKind.wrap .u8 (arI .and .u64 m 127)) 128 = m % 128 + 128 := by
      rw [and127_64 h0 ht, wrap_u8 (by omega) (by omega), or128 (by omega) (by omega)]
    refine den_ev (evs_ob (by simp only [E.den, cmpB_eql, cmpB_neq, cmpB_lss, cmpB_leq, cmpB_gtr, cmpB_geq, arI_add, arI_sub, arI_mul, arI_quo, arI_rem, D.toI, D.toB, D.toL, D.toS, D.len, D.mapL, List.map_cons, List.map_nil, List.getD_cons_zero, List.getD_cons_succ, List.cons_append, List.nil_append, flatD, List.append_nil, List.length_map, List.length_append, List.length_cons, List.length_nil, decide_eq_true_eq, decide_eq_false_iff_not, beq_iff_eq, beq_eq_false_iff_ne, bne_iff_ne, bne_eq_false_iff_eq, ne_eq, Int.toNat_natCast, gt_iff_lt, ge_iff_le, Int.not_lt, Int.not_le, Bool.not_eq_true, Bool.not_eq_false, Bool.and_eq_true, Bool.true_eq_false, Bool.false_eq_true, Bool.not_eq_eq_eq_not, Bool.not_true, Bool.not_false]; omega) (evs_nil ?_))
    refine den_back rfl ⟨r ++ [m % 128 + 128], m / 128, g, ?_, by omega, hu, by omega, by rw [← hr, hg]; simp, by simp only [List.length_append, List.length_cons, List.length_nil]; omega⟩ ?_
    · simp only [E.den, cmpB_eql, cmpB_neq, cmpB_lss, cmpB_leq, cmpB_gtr, cmpB_geq, arI_add, arI_sub, arI_mul, arI_quo, arI_rem, D.toI, D.toB, D.toL, D.toS, D.len, D.mapL, List.map_cons, List.map_nil, List.getD_cons_zero, List.getD_cons_succ, List.cons_append, List.nil_append, flatD, List.append_nil, List.length_map, List.length_append, List.length_cons, List.length_nil, decide_eq_true_eq, decide_eq_false_iff_not, beq_iff_eq, beq_eq_false_iff_ne, bne_iff_ne, bne_eq_false_iff_eq, ne_eq, Int.toNat_natCast, gt_iff_lt, ge_iff_le, Int.not_lt, Int.not_le, Bool.not_eq_true, Bool.not_eq_false, Bool.and_eq_true, Bool.true_eq_false, Bool.false_eq_true, Bool.not_eq_eq_eq_not, Bool.not_true, Bool.not_false]; rw [e, shr7_u64]; simp
    · simp only [appM]; simp only [E.den, cmpB_eql, cmpB_neq, cmpB_lss, cmpB_leq, cmpB_gtr, cmpB_geq, arI_add, arI_sub, arI_mul, arI_quo, arI_rem, D.toI, D.toB, D.toL, D.toS, D.len, D.mapL, List.map_cons, List.map_nil, List.getD_cons_zero, List.getD_cons_succ, List.cons_append, List.nil_append, flatD, List.append_nil, List.length_map, List.length_append, List.length_cons, List.length_nil, decide_eq_true_eq, decide_eq_false_iff_not, beq_iff_eq, beq_eq_false_iff_ne, bne_iff_ne, bne_eq_false_iff_eq, ne_eq, Int.toNat_natCast, gt_iff_lt, ge_iff_le, Int.not_lt, Int.not_le, Bool.not_eq_true, Bool.not_eq_false, Bool.and_eq_true, Bool.true_eq_false, Bool.false_eq_true, Bool.not_eq_eq_eq_not, Bool.not_true, Bool.not_false]; rw [shr7_u64]; omega
  · simp only [E.den, cmpB_eql, cmpB_neq, cmpB_lss, cmpB_leq, cmpB_gtr, cmpB_geq, arI_add, arI_sub, arI_mul, arI_quo, arI_rem, D.toI, D.toB, D.toL, D.toS, D.len, D.mapL, List.map_cons, List.map_nil, List.getD_cons_zero, List.getD_cons_succ, List.cons_append, List.nil_append, flatD, List.append_nil, List.length_map, List.length_append, List.length_cons, List.length_nil, decide_eq_true_eq, decide_eq_false_iff_not, beq_iff_eq, beq_eq_false_iff_ne, bne_iff_ne, bne_eq_false_iff_eq, ne_eq, Int.toNat_natCast, gt_iff_lt, ge_iff_le, Int.not_lt, Int.not_le, Bool.not_eq_true, Bool.not_eq_false, Bool.and_eq_true, Bool.true_eq_false, Bool.false_eq_true, Bool.not_eq_eq_eq_not, Bool.not_true, Bool.not_false] at h
    refine den_ev (evs_ob (by simp only [E.den, cmpB_eql, cmpB_neq, cmpB_lss, cmpB_leq, cmpB_gtr, cmpB_geq, arI_add, arI_sub, arI_mul, arI_quo, arI_rem, D.toI, D.toB, D.toL, D.toS, D.len, D.mapL, List.map_cons, List.map_nil, List.getD_cons_zero, List.getD_cons_succ, List.cons_append, List.nil_append, flatD, List.append_nil, List.length_map, List.length_append, List.length_cons, List.length_nil, decide_eq_true_eq, decide_eq_false_iff_not, beq_iff_eq, beq_eq_false_iff_ne, bne_iff_ne, bne_eq_false_iff_eq, ne_eq, Int.toNat_natCast, gt_iff_lt, ge_iff_le, Int.not_lt, Int.not_le, Bool.not_eq_true, Bool.not_eq_false, Bool.and_eq_true, Bool.true_eq_false, Bool.false_eq_true, Bool.not_eq_eq_eq_not, Bool.not_true, Bool.not_false]; omega) (evs_nil (den_ret ?_)))
    simp only [E.den, cmpB_eql, cmpB_neq, cmpB_lss, cmpB_leq, cmpB_gtr, cmpB_geq, arI_add, arI_sub, arI_mul, arI_quo, arI_rem, D.toI, D.toB, D.toL, D.toS, D.len, D.mapL, List.map_cons, List.map_nil, List.getD_cons_zero, List.getD_cons_succ, List.cons_append, List.nil_append, flatD, List.append_nil, List.length_map, List.length_append, List.length_cons, List.length_nil, decide_eq_true_eq, decide_eq_false_iff_not, beq_iff_eq, beq_eq_false_iff_ne, bne_iff_ne, bne_eq_false_iff_eq, ne_eq, Int.toNat_natCast, gt_iff_lt, ge_iff_le, Int.not_lt, Int.not_le, Bool.not_eq_true, Bool.not_eq_false, Bool.and_eq_true, Bool.true_eq_false, Bool.false_eq_true, Bool.not_eq_eq_eq_not, Bool.not_true, Bool.not_false]
    rw [wrap_u8 h0 (by omega), ← hr, encF_small h]
    simp
theorem putint_fn (n : Int) (hn : in64 n) : Fun Try.prog [] 12 [tI] [I64d n] [tY] (.ok [bD (putS n)]) := by
  refine putint_ent _ _ ?_
  show vcputint.den _ _ _ _ _
  unfold vcputint
  refine den_cal [bD (putS n)] rfl (app_fn [] n hn (by simp)) rfl rfl ?_
  exact den_ret rfl
theorem rputint_fn (n : Int) (hn : in64 n) : Fun Try.prog [] 15 [tI] [I64d n] [.r [.int .u8]] (.ok [bD (putS n)]) := by
  refine rputint_ent _ _ ?_
  show vcrputint.den _ _ _ _ _
  unfold vcrputint
  have hz := zig_rng hn
  have h64 := hn
  unfold in64 at h64
  refine den_ite (fun hs => ?_) (fun hs => ?_)
  all_goals
    simp only [E.den, cmpB_eql, cmpB_neq, cmpB_lss, cmpB_leq, cmpB_gtr, cmpB_geq, arI_add, arI_sub, arI_mul, arI_quo, arI_rem, D.toI, D.toB, D.toL, D.toS, D.len, D.mapL, List.map_cons, List.map_nil, List.getD_cons_zero, List.getD_cons_succ, List.cons_append, List.nil_append, flatD, List.append_nil, List.length_map, List.length_append, List.length_cons, List.length_nil, decide_eq_true_eq, decide_eq_false_iff_not, beq_iff_eq, beq_eq_false_iff_ne, bne_iff_ne, bne_eq_false_iff_eq, ne_eq, Int.toNat_natCast, gt_iff_lt, ge_iff_le, Int.not_lt, Int.not_le, Bool.not_eq_true, Bool.not_eq_false, Bool.and_eq_true, Bool.true_eq_false, Bool.false_eq_true, Bool.not_eq_eq_eq_not, Bool.not_true, Bool.not_false] at hs
    refine den_loop (appI [] n) appM ⟨[], zig n, 9, ?_, hz.1, hz.2, by omega, rfl, by simp⟩ ?_
    · simp only [E.den, cmpB_eql, cmpB_neq, cmpB_lss, cmpB_leq, cmpB_gtr, cmpB_geq, arI_add, arI_sub, arI_mul, arI_quo, arI_rem, D.toI, D.toB, D.toL, D.toS, D.len, D.mapL, List.map_cons, List.map_nil, List.getD_cons_zero, List.getD_cons_succ, List.cons_append, List.nil_append, flatD, List.append_nil, List.length_map, List.length_append, List.length_cons, List.length_nil, decide_eq_true_eq, decide_eq_false_iff_not, beq_iff_eq, beq_eq_false_iff_ne, bne_iff_ne, bne_eq_false_iff_eq, ne_eq, Int.toNat_natCast, gt_iff_lt, ge_iff_le, Int.not_lt, Int.not_le, Bool.not_eq_true, Bool.not_eq_false, Bool.and_eq_true, Bool.true_eq_false, Bool.false_eq_true, Bool.not_eq_eq_eq_not, Bool.not_true, Bool.not_false]
      unfold zig
      simp only [wrap_u64_mod]
      rcases Int.lt_or_le n 0 with hs0 | hs0
      · first | (exfalso; omega) | rw [if_neg (by omega), wrap_i64 (n := n + 1) (by omega) (by omega), wrap_i64 (n := 0 - (n + 1)) (by omega) (by omega)]
        try (simp; omega)
      · first | (exfalso; omega) | (rw [if_pos (by omega)]; simp; omega)
    simp only [AllSh]
    intro _ _ m _ _ ⟨r, u, f, he, h0, h1, hf, hr, hlen⟩
    simp only [List.cons.injEq, D.int.injEq, D.lst.injEq, true_and, and_true] at he
    obtain ⟨rfl, rfl⟩ := he
    have ht := top9 h1 hf
    simp only [List.length_nil] at hlen
    (try simp only [List.cons_append, List.nil_append])
    refine den_ite (fun h => ?_) (fun h => ?_)
    · simp only [E.den, cmpB_eql, cmpB_neq, cmpB_lss, cmpB_leq, cmpB_gtr, cmpB_geq, arI_add, arI_sub, arI_mul, arI_quo, arI_rem, D.toI, D.toB, D.toL, D.toS, D.len, D.mapL, List.map_cons, List.map_nil, List.getD_cons_zero, List.getD_cons_succ, List.cons_append, List.nil_append, flatD, List.append_nil, List.length_map, List.length_append, List.length_cons, List.length_nil, decide_eq_true_eq, decide_eq_false_iff_not, beq_iff_eq, beq_eq_false_iff_ne, bne_iff_ne, bne_eq_false_iff_eq, ne_eq, Int.toNat_natCast, gt_iff_lt, ge_iff_le, Int.not_lt, Int.not_le, Bool.not_eq_true, Bool.not_eq_false, Bool.and_eq_true, Bool.true_eq_false, Bool.false_eq_true, Bool.not_eq_eq_eq_not, Bool.not_true, Bool.not_false] at h
      obtain ⟨g, rfl, hg, hu⟩ := encF_big h h1
      have e : IntKind.wrap .u8 (IntKind.wrap .u8 (m.tmod 128) + 128) = m % 128 + 128 := by
        rw [Int.tmod_eq_emod_of_nonneg h0, wrap_u8 (n := m % 128) (by omega) (by omega), wrap_u8 (by omega) (by omega)]
      have e2 : IntKind.wrap .u64 (m.tdiv 128) = m / 128 := by
        rw [Int.tdiv_eq_ediv_of_nonneg h0, wrap_u64 (by omega) (by omega)]
      refine den_ev (evs_ob (by simp only [E.den, cmpB_eql, cmpB_neq, cmpB_lss, cmpB_leq, cmpB_gtr, cmpB_geq, arI_add, arI_sub, arI_mul, arI_quo, arI_rem, D.toI, D.toB, D.toL, D.toS, D.len, D.mapL, List.map_cons, List.map_nil, List.getD_cons_zero, List.getD_cons_succ, List.cons_append, List.nil_append, flatD, List.append_nil, List.length_map, List.length_append, List.length_cons, List.length_nil, decide_eq_true_eq, decide_eq_false_iff_not, beq_iff_eq, beq_eq_false_iff_ne, bne_iff_ne, bne_eq_false_iff_eq, ne_eq, Int.toNat_natCast, gt_iff_lt, ge_iff_le, Int.not_lt, Int.not_le, Bool.not_eq_true, Bool.not_eq_false, Bool.and_eq_true, Bool.true_eq_false, Bool.false_eq_true, Bool.not_eq_eq_eq_not, Bool.not_true, Bool.not_false]; omega) (evs_nil ?_))
      refine den_back rfl ⟨r ++ [m % 128 + 128], m / 128, g, ?_, by omega, hu, by omega, by rw [← hr, hg]; simp, by simp only [List.length_append, List.length_cons, List.length_nil]; omega⟩ ?_
      · simp only [E.den, cmpB_eql, cmpB_neq, cmpB_lss, cmpB_leq, cmpB_gtr, cmpB_geq, arI_add, arI_sub, arI_mul, arI_quo, arI_rem, D.toI, D.toB, D.toL, D.toS, D.len, D.mapL, List.map_cons, List.map_nil, List.getD_cons_zero, List.getD_cons_succ, List.cons_append, List.nil_append, flatD, List.append_nil, List.length_map, List.length_append, List.length_cons, List.length_nil, decide_eq_true_eq, decide_eq_false_iff_not, beq_iff_eq, beq_eq_false_iff_ne, bne_iff_ne, bne_eq_false_iff_eq, ne_eq, Int.toNat_natCast, gt_iff_lt, ge_iff_le, Int.not_lt, Int.not_le, Bool.not_eq_true, Bool.not_eq_false, Bool.and_eq_true, Bool.true_eq_false, Bool.false_eq_true, Bool.not_eq_eq_eq_not, Bool.not_true, Bool.not_false]; rw [e, e2]; simp
      · simp only [appM]; simp only [E.den, cmpB_eql, cmpB_neq, cmpB_lss, cmpB_leq, cmpB_gtr, cmpB_geq, arI_add, arI_sub, arI_mul, arI_quo, arI_rem, D.toI, D.toB, D.toL, D.toS, D.len, D.mapL, List.map_cons, List.map_nil, List.getD_cons_zero, List.getD_cons_succ, List.cons_append, List.nil_append, flatD, List.append_nil, List.length_map, List.length_append, List.length_cons, List.length_nil, decide_eq_true_eq, decide_eq_false_iff_not, beq_iff_eq, beq_eq_false_iff_ne, bne_iff_ne, bne_eq_false_iff_eq, ne_eq, Int.toNat_natCast, gt_iff_lt, ge_iff_le, Int.not_lt, Int.not_le, Bool.not_eq_true, Bool.not_eq_false, Bool.and_eq_true, Bool.true_eq_false, Bool.false_eq_true, Bool.not_eq_eq_eq_not, Bool.not_true, Bool.not_false]; rw [e2]; omega
    · simp only [E.den, cmpB_eql, cmpB_neq, cmpB_lss, cmpB_leq, cmpB_gtr, cmpB_geq, arI_add, arI_sub, arI_mul, arI_quo, arI_rem, D.toI, D.toB, D.toL, D.toS, D.len, D.mapL, List.map_cons, List.map_nil, List.getD_cons_zero, List.getD_cons_succ, List.cons_append, List.nil_append, flatD, List.append_nil, List.length_map, List.length_append, List.length_cons, List.length_nil, decide_eq_true_eq, decide_eq_false_iff_not, beq_iff_eq, beq_eq_false_iff_ne, bne_iff_ne, bne_eq_false_iff_eq, ne_eq, Int.toNat_natCast, gt_iff_lt, ge_iff_le, Int.not_lt, Int.not_le, Bool.not_eq_true, Bool.not_eq_false, Bool.and_eq_true, Bool.true_eq_false, Bool.false_eq_true, Bool.not_eq_eq_eq_not, Bool.not_true, Bool.not_false] at h
      refine den_ev (evs_ob (by simp only [E.den, cmpB_eql, cmpB_neq, cmpB_lss, cmpB_leq, cmpB_gtr, cmpB_geq, arI_add, arI_sub, arI_mul, arI_quo, arI_rem, D.toI, D.toB, D.toL, D.toS, D.len, D.mapL, List.map_cons, List.map_nil, List.getD_cons_zero, List.getD_cons_succ, List.cons_append, List.nil_append, flatD, List.append_nil, List.length_map, List.length_append, List.length_cons, List.length_nil, decide_eq_true_eq, decide_eq_false_iff_not, beq_iff_eq, beq_eq_false_iff_ne, bne_iff_ne, bne_eq_false_iff_eq, ne_eq, Int.toNat_natCast, gt_iff_lt, ge_iff_le, Int.not_lt, Int.not_le, Bool.not_eq_true, Bool.not_eq_false, Bool.and_eq_true, Bool.true_eq_false, Bool.false_eq_true, Bool.not_eq_eq_eq_not, Bool.not_true, Bool.not_false]; omega) (evs_nil (den_ret ?_)))
      simp only [E.den, cmpB_eql, cmpB_neq, cmpB_lss, cmpB_leq, cmpB_gtr, cmpB_geq, arI_add, arI_sub, arI_mul, arI_quo, arI_rem, D.toI, D.toB, D.toL, D.toS, D.len, D.mapL, List.map_cons, List.map_nil, List.getD_cons_zero, List.getD_cons_succ, List.cons_append, List.nil_append, flatD, List.append_nil, List.length_map, List.length_append, List.length_cons, List.length_nil, decide_eq_true_eq, decide_eq_false_iff_not, beq_iff_eq, beq_eq_false_iff_ne, bne_iff_ne, bne_eq_false_iff_eq, ne_eq, Int.toNat_natCast, gt_iff_lt, ge_iff_le, Int.not_lt, Int.not_le, Bool.not_eq_true, Bool.not_eq_false, Bool.and_eq_true, Bool.true_eq_false, Bool.false_eq_true, Bool.not_eq_eq_eq_not, Bool.not_true, Bool.not_false]
      rw [wrap_u8 h0 (by omega), show putS n = r ++ [m] by rw [← encF_small (f := f) h, hr]; rfl]
      simp
end Go.Proofs.Ytmdjbmpongggnaa
