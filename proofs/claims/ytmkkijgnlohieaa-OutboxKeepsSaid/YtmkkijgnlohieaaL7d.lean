/-
  Layer 7's functions: what they answer. No conditions stand ahead of what is proved.
-/
import Derived.Test.YtmkkijgnlohieaaFrame
import Derived.Test.YtmkkijgnlohieaaL7c
import Derived.Test.YtmkkijgnlohieaaSyXd
import Derived.Tactics
import Derived.Recover
import Derived.Tactics2
set_option maxRecDepth 100000
set_option linter.unusedSimpArgs false
set_option linter.unusedVariables false
namespace Go.Proofs.Ytmkkijgnlohieaa.L7
open Go.Proofs.Ytmkkijgnlohieaa.Sy Go.RowKit Go.WideShapes Go.ChangeShapes Go.ChangeAt
/-! what the operations on bits are -/
theorem and127 {x : Int} (h0 : 0 ≤ x) (h1 : x ≤ 255) : arI .and .u8 x 127 = x % 128 := by
  unfold arI
  simp only [BitVec.toNat_and, bv_toNat (n := IntKind.bits .u8) h0 (show x < 2 ^ 8 by omega), bv_toNat (n := IntKind.bits .u8) (x := 127) (by omega) (by decide)]
  have e : x.toNat &&& (127 : Int).toNat = (x % 128).toNat := by
    rw [show (127 : Int).toNat = 2 ^ 7 - 1 by decide, Nat.and_two_pow_sub_one_eq_mod]
    omega
  rw [e, show (((x % 128).toNat : Nat) : Int) = x % 128 by omega]
  exact wrap_u8 (by omega) (by omega)
theorem and127_64 {x : Int} (h0 : 0 ≤ x) (h1 : x ≤ 18446744073709551615) : arI .and .u64 x 127 = x % 128 := by
  unfold arI
  simp only [BitVec.toNat_and, bv_toNat (n := IntKind.bits .u64) h0 (show x < 2 ^ 64 by omega), bv_toNat (n := IntKind.bits .u64) (x := 127) (by omega) (by decide)]
  have e : x.toNat &&& (127 : Int).toNat = (x % 128).toNat := by
    rw [show (127 : Int).toNat = 2 ^ 7 - 1 by decide, Nat.and_two_pow_sub_one_eq_mod]
    omega
  rw [e, show (((x % 128).toNat : Nat) : Int) = x % 128 by omega]
  exact wrap_u64 (by omega) (by omega)
theorem and1_64 {x : Int} (h0 : 0 ≤ x) (h1 : x ≤ 18446744073709551615) : arI .and .u64 x 1 = x % 2 := by
  unfold arI
  simp only [BitVec.toNat_and, bv_toNat (n := IntKind.bits .u64) h0 (show x < 2 ^ 64 by omega), bv_toNat (n := IntKind.bits .u64) (x := 1) (by omega) (by decide)]
  have e : x.toNat &&& (1 : Int).toNat = (x % 2).toNat := by
    rw [show (1 : Int).toNat = 2 ^ 1 - 1 by decide, Nat.and_two_pow_sub_one_eq_mod]
    omega
  rw [e, show (((x % 2).toNat : Nat) : Int) = x % 2 by omega]
  exact wrap_u64 (by omega) (by omega)
theorem or128 {x : Int} (h0 : 0 ≤ x) (h1 : x < 128) : arI .or .u8 x 128 = x + 128 := by
  unfold arI
  simp only [BitVec.toNat_or, bv_toNat (n := IntKind.bits .u8) h0 (show x < 2 ^ 8 by omega), bv_toNat (n := IntKind.bits .u8) (x := 128) (by omega) (by decide)]
  have e : x.toNat ||| (128 : Int).toNat = (x + 128).toNat := by
    have h := Nat.two_pow_add_eq_or_of_lt (i := 7) (b := x.toNat) (by omega) 1
    rw [Nat.or_comm, show (128 : Int).toNat = 2 ^ 7 * 1 by decide, ← h]
    omega
  rw [e, show (((x + 128).toNat : Nat) : Int) = x + 128 by omega]
  exact wrap_u8 (by omega) (by omega)
/-- A group of bits above those that stand. -/
theorem or_group {u c : Int} {i : Nat} (h0 : 0 ≤ u) (h1 : u < 2 ^ i) (h2 : 0 ≤ c) (h3 : u + c * 2 ^ i ≤ 18446744073709551615) : arI .or .u64 u (c * 2 ^ i) = u + c * 2 ^ i := by
  have hp : (0 : Int) ≤ c * 2 ^ i := Int.mul_nonneg h2 (Int.pow_nonneg (by omega))
  unfold arI
  simp only [BitVec.toNat_or, bv_toNat (n := IntKind.bits .u64) h0 (show u < 2 ^ 64 by omega), bv_toNat (n := IntKind.bits .u64) (x := c * 2 ^ i) hp (show c * 2 ^ i < 2 ^ 64 by omega)]
  have e : u.toNat ||| (c * 2 ^ i).toNat = (u + c * 2 ^ i).toNat := by
    have hu : u.toNat < 2 ^ i := by
      have : ((2 ^ i : Nat) : Int) = 2 ^ i := by simp
      omega
    have h := Nat.two_pow_add_eq_or_of_lt hu c.toNat
    have hc : (c * 2 ^ i).toNat = 2 ^ i * c.toNat := by
      have h5 : ((2 ^ i : Nat) : Int) = 2 ^ i := by simp
      have : ((2 ^ i * c.toNat : Nat) : Int) = c * 2 ^ i := by
        rw [Int.natCast_mul, h5, Int.toNat_of_nonneg h2, Int.mul_comm]
      omega
    rw [Nat.or_comm, hc, ← h, ← hc]
    omega
  rw [e, Int.toNat_of_nonneg (by omega)]
  exact wrap_u64 (by omega) (by omega)
theorem shl_group {c : Int} {i : Nat} (h : i ≤ 63) (h0 : 0 ≤ c * 2 ^ i) (h1 : c * 2 ^ i ≤ 18446744073709551615) : shI .shl .u64 c (i : Int) = c * 2 ^ i := by
  rw [shI_shl, Int.toNat_natCast, show min i (IntKind.bits .u64) = i from Nat.min_eq_left (show i ≤ 64 by omega)]
  exact wrap_u64 h0 h1
theorem shr1_u64 (x : Int) : shI .shr .u64 x 1 = x / 2 := by
  rw [shI_shr, show (2 : Int) ^ (min (1 : Int).toNat (IntKind.bits .u64)) = 2 by decide]
  exact Int.fdiv_eq_ediv_of_nonneg _ (by decide)
theorem shr7_u64 (x : Int) : shI .shr .u64 x 7 = x / 128 := by
  rw [shI_shr, show (2 : Int) ^ (min (7 : Int).toNat (IntKind.bits .u64)) = 128 by decide]
  exact Int.fdiv_eq_ediv_of_nonneg _ (by decide)
theorem shr63_i64 {x : Int} (h : in64 x) : shI .shr .i64 x 63 = if 0 ≤ x then 0 else -1 := by
  rw [shI_shr, show (2 : Int) ^ (min (63 : Int).toNat (IntKind.bits .i64)) = 9223372036854775808 by decide, Int.fdiv_eq_ediv_of_nonneg _ (by decide)]
  unfold in64 at h
  split <;> omega
theorem wrap_i64_hi {n : Int} (h0 : 9223372036854775808 ≤ n) (h1 : n ≤ 18446744073709551615) : IntKind.wrap .i64 n = n - 18446744073709551616 := by
  simp [IntKind.wrap, IntKind.bits, IntKind.signed]; omega
theorem bv_allOnes : BitVec.ofInt 64 (-1) = BitVec.allOnes 64 := by decide
theorem arI_xori (x y : Int) : arI .xor .i64 x y = IntKind.wrap .i64 (((BitVec.ofInt 64 x ^^^ BitVec.ofInt 64 y).toNat : Nat) : Int) := rfl
theorem arI_xoru (x y : Int) : arI .xor .u64 x y = IntKind.wrap .u64 (((BitVec.ofInt 64 x ^^^ BitVec.ofInt 64 y).toNat : Nat) : Int) := rfl
/-- The sign taken back. -/
theorem xor_sign {u : Int} (h0 : 0 ≤ u) (h1 : u ≤ 18446744073709551615) : arI .xor .i64 (u / 2) (-(u % 2)) = unzig u := by
  rw [arI_xori]
  unfold unzig
  have hx := bv_toNat (n := 64) (x := u / 2) (by omega) (show u / 2 < 2 ^ 64 by omega)
  split
  · rename_i h
    rw [h, show (-(0 : Int)) = 0 from rfl, show BitVec.ofInt 64 0 = 0#64 from rfl]
    simp only [BitVec.xor_zero, hx]
    rw [Int.toNat_of_nonneg (by omega)]
    exact wrap_i64 (by omega) (by omega)
  · rename_i h
    rw [show u % 2 = 1 by omega, bv_allOnes]
    simp only [BitVec.xor_allOnes, BitVec.toNat_not, hx]
    have e : ((2 ^ 64 - 1 - (u / 2).toNat : Nat) : Int) = 18446744073709551615 - u / 2 := by omega
    rw [e, wrap_i64_hi (by omega) (by omega)]
    omega
theorem zig_xor {n : Int} (h : in64 n) : arI .xor .u64 (shI .shl .u64 (IntKind.wrap .u64 n) 1) (IntKind.wrap .u64 (shI .shr .i64 n 63)) = zig n := by
  rw [shr63_i64 h, shI_shl, wrap_u64_mod, wrap_u64_mod, wrap_u64_mod, show (2 : Int) ^ (min (1 : Int).toNat (IntKind.bits .u64)) = 2 by decide]
  rw [arI_xoru]
  unfold zig
  unfold in64 at h
  split
  · rename_i h0
    rw [show (0 : Int) % 18446744073709551616 = 0 by decide, show BitVec.ofInt 64 0 = 0#64 from rfl]
    simp only [BitVec.xor_zero]
    rw [bv_toNat (n := 64) (by omega) (show _ < (2 : Int) ^ 64 by omega), Int.toNat_of_nonneg (by omega), wrap_u64 (by omega) (by omega)]
    omega
  · rename_i h0
    rw [show BitVec.ofInt 64 ((-1 : Int) % 18446744073709551616) = BitVec.allOnes 64 by decide]
    simp only [BitVec.xor_allOnes, BitVec.toNat_not]
    rw [bv_toNat (n := 64) (by omega) (show _ < (2 : Int) ^ 64 by omega)]
    have e : ((2 ^ 64 - 1 - (n % 18446744073709551616 * 2 % 18446744073709551616).toNat : Nat) : Int) = 18446744073709551615 - (2 * n + 18446744073709551616) := by omega
    rw [e, wrap_u64 (by omega) (by omega)]
    omega
/-! check -/
theorem check_t (e : Int) : Fun Try.prog [] 67 [tB, tI] [.bool true, I64d e] [] (.ok []) := by
  refine check_ent _ _ ?_
  show vccheck.den _ _ _ _ _
  unfold vccheck
  exact den_ite (fun _ => den_ret rfl) (fun h => by cases h)
theorem check_f (e : Int) : Fun Try.prog [] 67 [tB, tI] [.bool false, I64d e] [] (.pan 114 (.rc [I64d e])) := by
  refine check_ent _ _ ?_
  show vccheck.den _ _ _ _ _
  unfold vccheck
  exact den_ite (fun h => by cases h) (fun _ => den_pan rfl)
theorem den_chk {K : FR → Prop} {Λ : List Lp} {ρ : List D} {c : E} {e : Int} {n : Nat} {k : VC} {b : Bool} (hc : c.den ρ = .bool b) (ht : b = true → k.den Try.prog [] K Λ ρ) (hf : b = false → K (.pan 114 (.rc [I64d e]))) :
    (VC.cal 67 [tB, tI] [c, .ki .i64 e] [] n k).den Try.prog [] K Λ ρ := by
  cases b with
  | true => exact den_cal [] rfl (check_t e) (by simp only [List.map_cons, List.map_nil, hc]; rfl) rfl (by rw [List.append_nil]; exact ht rfl)
  | false => exact den_calP (check_f e) (by simp only [List.map_cons, List.map_nil, hc]; rfl) (hf rfl)
/-! put an integer -/
def appI (a : List Int) (n : Int) (xs : List D) : Prop := ∃ (r : List Int) (u : Int) (f : Nat), xs = [bD r, .int .u64 u] ∧ 0 ≤ u ∧ u < 2 * 128 ^ f ∧ f ≤ 9 ∧ r ++ encF f u = a ++ putS n ∧ r.length + (f + 1) ≤ a.length + 10
def appM (xs : List D) : Nat := (xs.getD 1 default).toI.toNat
theorem encF_big {f : Nat} {u : Int} (h : 128 ≤ u) (hu : u < 2 * 128 ^ f) : ∃ g, f = g + 1 ∧ encF f u = (u % 128 + 128) :: encF g (u / 128) ∧ u / 128 < 2 * 128 ^ g := by
  cases f with
  | zero => simp at hu; omega
  | succ g =>
    have hpow : (128 : Int) ^ (g + 1) = 128 ^ g * 128 := Int.pow_succ _ _
    refine ⟨g, rfl, ?_, by omega⟩
    simp only [encF]
    rw [if_neg (by omega)]
theorem encF_small {f : Nat} {u : Int} (h : u < 128) : encF f u = [u] := by
  cases f with
  | zero => rfl
  | succ g => simp only [encF]; rw [if_pos h]
theorem top9 {u : Int} {f : Nat} (h : u < 2 * 128 ^ f) (hf : f ≤ 9) : u ≤ 18446744073709551615 := by
  have : (128 : Int) ^ f ≤ 128 ^ 9 := by
    have : f = 0 ∨ f = 1 ∨ f = 2 ∨ f = 3 ∨ f = 4 ∨ f = 5 ∨ f = 6 ∨ f = 7 ∨ f = 8 ∨ f = 9 := by omega
    rcases this with rfl | rfl | rfl | rfl | rfl | rfl | rfl | rfl | rfl | rfl <;> decide
  rw [show (128 : Int) ^ 9 = 9223372036854775808 by decide] at this
  omega
theorem app_fn (a : List Int) (n : Int) (hn : in64 n) (hl : a.length + 10 ≤ 4294967296) : Fun Try.prog [] 63 [.r [.int .u8], tI] [bD a, I64d n] [.r [.int .u8]] (.ok [bD (a ++ putS n)]) := by
  refine app_ent _ _ ?_
  show vcapp.den _ _ _ _ _
  unfold vcapp
  have hz := zig_rng hn
  refine den_loop (appI a n) appM ⟨a, zig n, 9, ?_, hz.1, hz.2, by omega, rfl, by omega⟩ ?_
  · simp only [E.den, D.toI, D.toB, D.toL, D.toS, D.len, D.mapL, flatD, dE]
    rw [zig_xor hn]
  simp only [AllSh]
  intro _ _ m _ _ ⟨r, u, f, he, h0, h1, hf, hr, hlen⟩
  simp only [List.cons.injEq, D.int.injEq, D.lst.injEq, true_and, and_true] at he
  obtain ⟨rfl, rfl⟩ := he
  have ht := top9 h1 hf
  (try simp only [List.cons_append, List.nil_append])
  refine den_ite (fun h => ?_) (fun h => ?_)
  · simp only [E.den, D.toI, D.toB, D.toL, D.toS, D.len, D.mapL, flatD, dE] at h
    obtain ⟨g, rfl, hg, hu⟩ := encF_big h h1
    have e : arI .or .u8 (IntKind.wrap .u8 (arI .and .u64 m 127)) 128 = m % 128 + 128 := by
      rw [and127_64 h0 ht, wrap_u8 (by omega) (by omega), or128 (by omega) (by omega)]
    refine den_ev (evs_ob (by simp only [E.den, D.toI, D.toB, D.toL, D.toS, D.len, D.mapL, flatD, dE]; omega) (evs_nil ?_))
    refine den_back rfl ⟨r ++ [m % 128 + 128], m / 128, g, ?_, by omega, hu, by omega, by rw [← hr, hg]; simp, by simp only [List.length_append, List.length_cons, List.length_nil]; omega⟩ ?_
    · simp only [E.den, D.toI, D.toB, D.toL, D.toS, D.len, D.mapL, flatD, dE]; rw [e, shr7_u64]; simp
    · simp only [appM]; simp only [E.den, D.toI, D.toB, D.toL, D.toS, D.len, D.mapL, flatD, dE]; rw [shr7_u64]; omega
  · simp only [E.den, D.toI, D.toB, D.toL, D.toS, D.len, D.mapL, flatD, dE] at h
    refine den_ev (evs_ob (by simp only [E.den, D.toI, D.toB, D.toL, D.toS, D.len, D.mapL, flatD, dE]; omega) (evs_nil (den_ret ?_)))
    simp only [E.den, D.toI, D.toB, D.toL, D.toS, D.len, D.mapL, flatD, dE]
    rw [wrap_u8 h0 (by omega), ← hr, encF_small h]
    simp
theorem putint_fn (n : Int) (hn : in64 n) : Fun Try.prog [] 39 [tI] [I64d n] [tY] (.ok [bD (putS n)]) := by
  refine putint_ent _ _ ?_
  show vcputint.den _ _ _ _ _
  unfold vcputint
  refine den_cal [bD (putS n)] rfl (app_fn [] n hn (by simp)) rfl rfl ?_
  exact den_ret rfl
theorem rputint_fn (n : Int) (hn : in64 n) : Fun Try.prog [] 42 [tI] [I64d n] [.r [.int .u8]] (.ok [bD (putS n)]) := by
  refine rputint_ent _ _ ?_
  show vcrputint.den _ _ _ _ _
  unfold vcrputint
  have hz := zig_rng hn
  have h64 := hn
  unfold in64 at h64
  refine den_ite (fun hs => ?_) (fun hs => ?_)
  all_goals
    simp only [E.den, D.toI, D.toB, D.toL, D.toS, D.len, D.mapL, flatD, dE] at hs
    refine den_loop (appI [] n) appM ⟨[], zig n, 9, ?_, hz.1, hz.2, by omega, rfl, by simp⟩ ?_
    · simp only [E.den, D.toI, D.toB, D.toL, D.toS, D.len, D.mapL, flatD, dE]
      unfold zig
      simp only [wrap_u64_mod]
      rcases Int.lt_or_le n 0 with hs0 | hs0
      · first | (exfalso; omega) | rw [if_neg (by omega), wrap_i64 (n := n + 1) (by omega) (by omega), wrap_i64 (n := 0 - (n + 1)) (by omega) (by omega)]
        try (simp; omega)
      · first | (exfalso; omega) | (rw [if_pos (by omega)]; simp; omega)
    simp only [AllSh]
    intro _ _ m _ _ ⟨r, u, f, he, h0, h1, hf, hr, hlen⟩
    simp only [List.cons.injEq, D.int.injEq, D.lst.injEq, true_and, and_true] at he
    obtain ⟨rfl, rfl⟩ := he
    have ht := top9 h1 hf
    simp only [List.length_nil] at hlen
    (try simp only [List.cons_append, List.nil_append])
    refine den_ite (fun h => ?_) (fun h => ?_)
    · simp only [E.den, D.toI, D.toB, D.toL, D.toS, D.len, D.mapL, flatD, dE] at h
      obtain ⟨g, rfl, hg, hu⟩ := encF_big h h1
      have e : IntKind.wrap .u8 (IntKind.wrap .u8 (m.tmod 128) + 128) = m % 128 + 128 := by
        rw [Int.tmod_eq_emod_of_nonneg h0, wrap_u8 (n := m % 128) (by omega) (by omega), wrap_u8 (by omega) (by omega)]
      have e2 : IntKind.wrap .u64 (m.tdiv 128) = m / 128 := by
        rw [Int.tdiv_eq_ediv_of_nonneg h0, wrap_u64 (by omega) (by omega)]
      refine den_ev (evs_ob (by simp only [E.den, D.toI, D.toB, D.toL, D.toS, D.len, D.mapL, flatD, dE]; omega) (evs_nil ?_))
      refine den_back rfl ⟨r ++ [m % 128 + 128], m / 128, g, ?_, by omega, hu, by omega, by rw [← hr, hg]; simp, by simp only [List.length_append, List.length_cons, List.length_nil]; omega⟩ ?_
      · simp only [E.den, D.toI, D.toB, D.toL, D.toS, D.len, D.mapL, flatD, dE]; rw [e, e2]; simp
      · simp only [appM]; simp only [E.den, D.toI, D.toB, D.toL, D.toS, D.len, D.mapL, flatD, dE]; rw [e2]; omega
    · simp only [E.den, D.toI, D.toB, D.toL, D.toS, D.len, D.mapL, flatD, dE] at h
      refine den_ev (evs_ob (by simp only [E.den, D.toI, D.toB, D.toL, D.toS, D.len, D.mapL, flatD, dE]; omega) (evs_nil (den_ret ?_)))
      simp only [E.den, D.toI, D.toB, D.toL, D.toS, D.len, D.mapL, flatD, dE]
      rw [wrap_u8 h0 (by omega), show putS n = r ++ [m] by rw [← encF_small (f := f) h, hr]; rfl]
      simp

theorem pow7 : ∀ i : Nat, (2 : Int) ^ (7 * i) = 128 ^ i
  | 0 => rfl
  | i + 1 => by
    rw [show 7 * (i + 1) = 7 * i + 7 by omega, Int.pow_add, pow7 i, Int.pow_succ]
    rfl
theorem sv_take_le (b : List Int) {i j : Nat} (h : i ≤ j) : sv (b.take i) ≤ sv (b.take j) := by
  have e : b.take j = b.take i ++ (b.take j).drop i := by
    have := List.take_append_drop i (b.take j)
    rw [List.take_take, Nat.min_eq_left h] at this
    exact this.symm
  rw [e, sv_app]
  have h1 := (sv_rng ((b.take j).drop i)).1
  have h2 : (0 : Int) ≤ 128 ^ (b.take i).length := Int.pow_nonneg (by omega)
  have := Int.mul_nonneg h2 h1
  omega
theorem sv_drop_le (y : List Int) (j : Nat) : sv (y.drop j) ≤ sv y := by
  conv => rhs; rw [← List.take_append_drop j y, sv_app]
  have h1 := (sv_rng (y.drop j)).1
  have h2 := (sv_rng (y.take j)).1
  have h3 := pow_ge (y.take j).length
  have := Int.mul_le_mul_of_nonneg_right h3 h1
  omega
theorem sv_next (b : List Int) {i : Nat} (h : i < b.length) : sv (b.take (i + 1)) = sv (b.take i) + b.getD i 0 % 128 * 128 ^ i := by
  rw [take_get 0 h, sv_app, List.length_take, Nat.min_eq_left (by omega), Int.mul_comm]
  simp [sv]
def intR (b : List Int) : FR := match readS b with
  | .ok (n, r) => .ok [I64d n, .rc [bD r]]
  | .error e => .pan 114 (.rc [I64d e])
theorem intR_ok {b r : List Int} {u : Int} (h : parse 0 b = .ok (u, r)) : intR b = .ok [I64d (unzig u), .rc [bD r]] := by simp [intR, readS, h]
theorem intR_err {b : List Int} {e : Int} (h : parse 0 b = .error e) : intR b = .pan 114 (.rc [I64d e]) := by simp [intR, readS, h]
def endI (b : List Int) (k : Nat) (xs : List D) : Prop := ∃ i : Nat, xs = [.int .u64 (sv (b.take i)), I64d i] ∧ i ≤ k + 1
theorem sub_row (b : List Int) (m n : Nat) : ((b.map U8d).take n).drop m = ((b.take n).drop m).map U8d := by simp
theorem int_end (b : List Int) (hb : isB b) (hl : b.length ≤ 4294967296) {k : Nat} (hk : k < b.length) (h10 : k < 10) (hp : parse 0 b = .ok (sv (b.take (k + 1)), b.drop (k + 1))) (L : Lp) :
    vcint_0.den Try.prog [] (fun r' => r' = intR b) [L] [bD b, I64d k] := by
  obtain ⟨_, g0, g1, _⟩ := parse_enc 9 0 b _ _ rfl hb hp
  rw [show (128 : Int) ^ 9 = 9223372036854775808 by decide] at g1
  have hw : IntKind.wrap .i64 ((k : Int) + 1) = ((k + 1 : Nat) : Int) := by rw [wrap_i64 (by omega) (by omega)]; omega
  unfold vcint_0
  refine den_ev (evs_ob (by simp only [E.den, D.toI, D.toB, D.toL, D.toS, D.len, D.mapL, flatD, dE]; rw [hw]; omega) (evs_ob (by simp only [E.den, D.toI, D.toB, D.toL, D.toS, D.len, D.mapL, flatD, dE]; rw [hw]; omega) (evs_nil ?_)))
  refine den_loop (endI b k) (fun xs => k + 1 - (xs.getD 1 default).toI.toNat) ⟨0, by simp [E.den, sv], by omega⟩ ?_
  simp only [AllSh]
  intro u _ _ n _ _ ⟨i, he, hi⟩
  simp only [List.cons.injEq, D.int.injEq, true_and, and_true] at he
  obtain ⟨rfl, rfl⟩ := he
  have hlen : (E.len (.sub (.v 0) (.ki .i64 0) (.ar .add .i64 (.v 1) (.ki .i64 1)))).den ([bD b, I64d k] ++ [.int .u64 (sv (b.take i)), I64d i]) = I64d (k + 1 : Nat) := by
    simp only [E.den, D.toI, D.toB, D.toL, D.toS, D.len, D.mapL, flatD, dE]
    rw [hw, Int.toNat_natCast, show (0 : Int).toNat = 0 from rfl, sub_row]
    simp only [List.length_map, List.length_drop, List.length_take, D.int.injEq, true_and]
    omega
  refine den_ite (fun h => ?_) (fun h => ?_)
  · simp only [E.den] at h hlen
    simp only [hlen] at h
    simp only [E.den, D.toI, D.toB, D.toL, D.toS, D.len, D.mapL, flatD, dE] at h
    have hi' : i < k + 1 := by omega
    have hc : 0 ≤ b.getD i 0 ∧ b.getD i 0 ≤ 255 := hb _ (by simp [List.getD_eq_getElem?_getD, show i < b.length by omega])
    have hn := sv_next b (show i < b.length by omega)
    have hle := sv_take_le b (show i + 1 ≤ k + 1 by omega)
    have hr := sv_rng (b.take i)
    rw [List.length_take, Nat.min_eq_left (by omega)] at hr
    have hp0 : (0 : Int) ≤ b.getD i 0 % 128 * 128 ^ i := Int.mul_nonneg (by omega) (Int.pow_nonneg (by omega))
    have hm : IntKind.wrap .i64 (7 * (i : Int)) = ((7 * i : Nat) : Int) := by rw [wrap_i64 (by omega) (by omega)]; omega
    have hwi : IntKind.wrap .i64 ((i : Int) + 1) = ((i + 1 : Nat) : Int) := by rw [wrap_i64 (by omega) (by omega)]; omega
    refine den_ev (evs_ob (by simp only [E.den, D.toI, D.toB, D.toL, D.toS, D.len, D.mapL, flatD, dE]; omega) (evs_ob ?_ (evs_nil ?_)))
    · simp only [E.den]
      simp only [hlen]
      simp only [E.den, D.toI, D.toB, D.toL, D.toS, D.len, D.mapL, flatD, dE]
      omega
    refine den_ev (evs_ob (by simp only [E.den, D.toI, D.toB, D.toL, D.toS, D.len, D.mapL, flatD, dE]; rw [hm]; omega) (evs_nil ?_))
    refine den_back rfl ⟨i + 1, ?_, by omega⟩ ?_
    · simp only [E.den, D.toI, D.toB, D.toL, D.toS, D.len, D.mapL, flatD, dE]
      rw [hw, Int.toNat_natCast, show (0 : Int).toNat = 0 from rfl, sub_row, get_U (by simp; omega), hwi]
      have hg : ((b.take (k + 1)).drop 0).getD i 0 = b.getD i 0 := by simp [List.getD_eq_getElem?_getD, List.getElem?_take, hi']
      simp only [D.toI, hg]
      rw [and127 hc.1 hc.2, wrap_u64 (by omega) (by omega), hm]
      rw [← pow7] at hp0 hr hn
      rw [shl_group (by omega) hp0 (by omega), or_group hr.1 hr.2 (by omega) (by omega), hn]
    · simp only []
      simp only [E.den, D.toI, D.toB, D.toL, D.toS, D.len, D.mapL, flatD, dE]
      rw [hwi]
      omega
  · simp only [E.den] at h hlen
    simp only [hlen] at h
    simp only [E.den, D.toI, D.toB, D.toL, D.toS, D.len, D.mapL, flatD, dE] at h
    have : i = k + 1 := by omega
    subst this
    refine den_ev (evs_ob (by simp only [E.den, D.toI, D.toB, D.toL, D.toS, D.len, D.mapL, flatD, dE]; rw [hw]; omega) (evs_ob (by simp only [E.den, D.toI, D.toB, D.toL, D.toS, D.len, D.mapL, flatD, dE]; rw [hw]; omega) (evs_nil (den_ret ?_))))
    rw [intR_ok hp]
    simp only [E.den, D.toI, D.toB, D.toL, D.toS, D.len, D.mapL, flatD, dE]
    rw [shr1_u64, and1_64 g0 (by omega), wrap_i64 (n := sv (b.take (k + 1)) / 2) (by omega) (by omega), wrap_i64 (n := sv (b.take (k + 1)) % 2) (by omega) (by omega), wrap_i64 (n := 0 - sv (b.take (k + 1)) % 2) (by omega) (by omega), Int.zero_sub, xor_sign g0 (by omega), hw, Int.toNat_natCast, sub_row, List.take_of_length_le (Nat.le_refl _)]
theorem int_mid (b : List Int) (hb : isB b) (hl : b.length ≤ 4294967296) {k : Nat} (hk : k < b.length) (h10 : k < 10) (h0 : ¬ (b.getD k 0 = 0 ∧ k ≠ 0))
    (hp : parse 0 b = if 9 ≤ k ∧ 1 < b.getD k 0 then .error 5 else .ok (sv (b.take (k + 1)), b.drop (k + 1))) (L : Lp) : vcint_1.den Try.prog [] (fun r' => r' = intR b) [L] [bD b, I64d k] := by
  have hg := get_U hk
  unfold vcint_1
  refine den_ite (fun h => ?_) (fun h => ?_)
  · simp only [E.den, D.toI, D.toB, D.toL, D.toS, D.len, D.mapL, flatD, dE] at h
    rw [if_neg (by omega)] at hp
    exact den_chk (b := true) rfl (fun _ => int_end b hb hl hk h10 hp L) (fun h => by cases h)
  · simp only [E.den, D.toI, D.toB, D.toL, D.toS, D.len, D.mapL, flatD, dE] at h
    refine den_chk rfl (fun h2 => ?_) (fun h2 => ?_)
    · simp only [E.den, D.toI, D.toB, D.toL, D.toS, D.len, D.mapL, flatD, dE] at h2
      rw [hg] at h2
      simp only [E.den, D.toI, D.toB, D.toL, D.toS, D.len, D.mapL, flatD, dE] at h2
      rw [if_neg (by omega)] at hp
      exact int_end b hb hl hk h10 hp L
    · simp only [E.den, D.toI, D.toB, D.toL, D.toS, D.len, D.mapL, flatD, dE] at h2
      rw [hg] at h2
      simp only [E.den, D.toI, D.toB, D.toL, D.toS, D.len, D.mapL, flatD, dE] at h2
      rw [if_pos (by omega)] at hp
      exact (intR_err hp).symm
theorem int_tail (b : List Int) (hb : isB b) (hl : b.length ≤ 4294967296) {k : Nat} (hk : k ≤ b.length) (hx : ∀ c ∈ b.take k, 128 ≤ c) (hend : k < 10 → k < b.length → b.getD k 0 < 128) (L : Lp) :
    vcint_2.den Try.prog [] (fun r' => r' = intR b) [L] [bD b, I64d k] := by
  obtain ⟨p1, p2, p3⟩ := read_places hb hk hx
  unfold vcint_2
  refine den_chk rfl (fun h1 => ?_) (fun h1 => ?_)
  rotate_left
  · simp only [E.den, D.toI, D.toB, D.toL, D.toS, D.len, D.mapL, flatD, dE] at h1
    exact (intR_err (p1 (by omega))).symm
  simp only [E.den, D.toI, D.toB, D.toL, D.toS, D.len, D.mapL, flatD, dE] at h1
  refine den_chk rfl (fun h2 => ?_) (fun h2 => ?_)
  rotate_left
  · simp only [E.den, D.toI, D.toB, D.toL, D.toS, D.len, D.mapL, flatD, dE] at h2
    exact (intR_err (p2 (by omega) (by omega))).symm
  simp only [E.den, D.toI, D.toB, D.toL, D.toS, D.len, D.mapL, flatD, dE] at h2
  have hk' : k < b.length := by omega
  have hp := p3 (by omega) hk' (hend (by omega) hk')
  have hg := get_U hk'
  refine den_ev (evs_ob (by simp only [E.den, D.toI, D.toB, D.toL, D.toS, D.len, D.mapL, flatD, dE]; omega) (evs_ob (by simp only [E.den, D.toI, D.toB, D.toL, D.toS, D.len, D.mapL, flatD, dE]; omega) (evs_nil ?_)))
  refine den_ite (fun h3 => ?_) (fun h3 => ?_)
  · simp only [E.den, D.toI, D.toB, D.toL, D.toS, D.len, D.mapL, flatD, dE] at h3
    rw [hg] at h3
    simp only [E.den, D.toI, D.toB, D.toL, D.toS, D.len, D.mapL, flatD, dE] at h3
    rw [if_neg (fun h => h3 h.1)] at hp
    exact den_chk (b := true) rfl (fun _ => int_mid b hb hl hk' (by omega) (fun h => h3 h.1) hp L) (fun h => by cases h)
  · simp only [E.den, D.toI, D.toB, D.toL, D.toS, D.len, D.mapL, flatD, dE] at h3
    rw [hg] at h3
    simp only [E.den, D.toI, D.toB, D.toL, D.toS, D.len, D.mapL, flatD, dE] at h3
    refine den_chk rfl (fun h4 => ?_) (fun h4 => ?_)
    · simp only [E.den, D.toI, D.toB, D.toL, D.toS, D.len, D.mapL, flatD, dE] at h4
      rw [if_neg (fun h => h.2 (by omega))] at hp
      exact int_mid b hb hl hk' (by omega) (fun h => h.2 (by omega)) hp L
    · simp only [E.den, D.toI, D.toB, D.toL, D.toS, D.len, D.mapL, flatD, dE] at h4
      rw [if_pos ⟨h3, by omega⟩] at hp
      exact (intR_err hp).symm
def leadI (b : List Int) (xs : List D) : Prop := ∃ k : Nat, xs = [I64d k] ∧ k ≤ b.length ∧ k ≤ 10 ∧ ∀ c ∈ b.take k, 128 ≤ c
theorem int_fn (b : List Int) (hb : isB b) (hl : b.length ≤ 4294967296) : Fun Try.prog [] 68 [.p [.s (.lst [.int .u8])]] [.rc [bD b]] [tI] (intR b) := by
  refine int_ent _ _ ?_
  show vcint.den _ _ _ _ _
  unfold vcint
  refine den_loop (leadI b) (fun xs => b.length - (xs.getD 0 default).toI.toNat) ⟨0, rfl, by omega, by omega, by simp⟩ ?_
  simp only [AllSh]
  intro n _ _ ⟨k, he, hk, hk10, hx⟩
  simp only [List.cons.injEq, D.int.injEq, true_and, and_true] at he
  subst he
  refine den_ite (fun h => den_ite (fun h2 => ?_) (fun h2 => ?_)) (fun h => ?_)
  · simp only [E.den, D.toI, D.toB, D.toL, D.toS, D.len, D.mapL, flatD, dE] at h
    simp only [E.den, D.toI, D.toB, D.toL, D.toS, D.len, D.mapL, flatD, dE] at h2
    have hk' : k < b.length := by simpa using h
    have hg := get_U hk'
    refine den_ev (evs_ob (by simp only [E.den, D.toI, D.toB, D.toL, D.toS, D.len, D.mapL, flatD, dE]; omega) (evs_ob (by simp only [E.den, D.toI, D.toB, D.toL, D.toS, D.len, D.mapL, flatD, dE]; simp; omega) (evs_nil ?_)))
    refine den_ite (fun h3 => ?_) (fun h3 => ?_)
    · simp only [E.den, D.toI, D.toB, D.toL, D.toS, D.len, D.mapL, flatD, dE] at h3
      rw [hg] at h3
      simp only [E.den, D.toI, D.toB, D.toL, D.toS, D.len, D.mapL, flatD, dE] at h3
      have hw : IntKind.wrap .i64 ((k : Int) + 1) = ((k + 1 : Nat) : Int) := by rw [wrap_i64 (by omega) (by omega)]; omega
      refine den_back rfl ⟨k + 1, ?_, by omega, by omega, ?_⟩ ?_
      · simp only [E.den, D.toI, D.toB, D.toL, D.toS, D.len, D.mapL, flatD, dE]; rw [hw]
      · rw [take_get 0 hk']
        intro c hc
        rcases List.mem_append.1 hc with h | h
        · exact hx c h
        · simp only [List.mem_singleton] at h; omega
      · simp only []; simp only [E.den, D.toI, D.toB, D.toL, D.toS, D.len, D.mapL, flatD, dE]; rw [hw]; omega
    · simp only [E.den, D.toI, D.toB, D.toL, D.toS, D.len, D.mapL, flatD, dE] at h3
      rw [hg] at h3
      simp only [E.den, D.toI, D.toB, D.toL, D.toS, D.len, D.mapL, flatD, dE] at h3
      exact int_tail b hb hl hk hx (fun _ _ => by omega) _
  · simp only [E.den, D.toI, D.toB, D.toL, D.toS, D.len, D.mapL, flatD, dE] at h2
    exact int_tail b hb hl hk hx (fun _ _ => by omega) _
  · simp only [E.den, D.toI, D.toB, D.toL, D.toS, D.len, D.mapL, flatD, dE] at h
    have : ¬ k < b.length := by simpa using h
    exact int_tail b hb hl hk hx (fun _ _ => by omega) _
theorem int_ok {b r : List Int} {n : Int} (hb : isB b) (hl : b.length ≤ 4294967296) (h : readS b = .ok (n, r)) : Fun Try.prog [] 68 [.p [.s (.lst [.int .u8])]] [.rc [bD b]] [tI] (.ok [I64d n, .rc [bD r]]) := by
  have := int_fn b hb hl
  simpa only [intR, h] using this
theorem int_pan {b : List Int} {e : Int} (hb : isB b) (hl : b.length ≤ 4294967296) (h : readS b = .error e) : Fun Try.prog [] 68 [.p [.s (.lst [.int .u8])]] [.rc [bD b]] [tI] (.pan 114 (.rc [I64d e])) := by
  have := int_fn b hb hl
  simpa only [intR, h] using this
/-! the reference's reader -/
def rdR (n : Nat) : Except Int (Int × List Int) → List D
  | .ok (v, r) => [I64d v, I64d ((n : Int) - r.length), I64d 0]
  | .error e => [I64d 0, I64d 0, I64d e]
theorem rd_err (n : Nat) {x : List Int} {e : Int} (h : parse 0 x = .error e) : rdR n (readS x) = [I64d 0, I64d 0, I64d e] := by simp [readS, h, rdR]
def rendI (x : List Int) (k : Nat) (xs : List D) : Prop := ∃ j : Nat, xs = [.int .u64 (sv ((x.take (k + 1)).drop j)), I64d ((j : Int) - 1)] ∧ j ≤ k + 1
theorem getD_drop (b : List Int) (a k : Nat) : (b.drop a).getD k 0 = b.getD (a + k) 0 := by simp [List.getD_eq_getElem?_getD, List.getElem?_drop]
theorem rread_end (b : List Int) (hb : isB b) (hl : b.length ≤ 4294967296) {a k : Nat} (hk : a + k < b.length) (h10 : k < 10) (hp : parse 0 (b.drop a) = .ok (sv ((b.drop a).take (k + 1)), (b.drop a).drop (k + 1))) (L : Lp) :
    vcrread_0.den Try.prog [] (fun r' => r' = .ok (rdR b.length (readS (b.drop a)))) [L] [bD b, I64d a, I64d k] := by
  have hB : isB (b.drop a) := fun x hx => hb x (List.mem_of_mem_drop hx)
  obtain ⟨_, g0, g1, _⟩ := parse_enc 9 0 (b.drop a) _ _ rfl hB hp
  rw [show (128 : Int) ^ 9 = 9223372036854775808 by decide] at g1
  unfold vcrread_0
  refine den_loop (rendI (b.drop a) k) (fun xs => ((xs.getD 1 default).toI + 1).toNat) ⟨k + 1, ?_, by omega⟩ ?_
  · have : ((b.drop a).take (k + 1)).drop (k + 1) = [] := List.drop_eq_nil_of_le (by simp; omega)
    simp only [E.den, D.toI, D.toB, D.toL, D.toS, D.len, D.mapL, flatD, dE]
    rw [this]
    simp [sv]
  simp only [AllSh]
  intro u _ _ n _ _ ⟨j, he, hj⟩
  simp only [List.cons.injEq, D.int.injEq, true_and, and_true] at he
  obtain ⟨rfl, rfl⟩ := he
  refine den_ite (fun h => ?_) (fun h => ?_)
  · simp only [E.den, D.toI, D.toB, D.toL, D.toS, D.len, D.mapL, flatD, dE] at h
    obtain ⟨i, rfl⟩ : ∃ i, j = i + 1 := ⟨j - 1, by omega⟩
    have hai : a + i < b.length := by omega
    have hg := get_U hai
    have hc : 0 ≤ b.getD (a + i) 0 ∧ b.getD (a + i) 0 ≤ 255 := hb _ (by simp [List.getD_eq_getElem?_getD, hai])
    have hw : IntKind.wrap .i64 ((a : Int) + (((i + 1 : Nat) : Int) - 1)) = ((a + i : Nat) : Int) := by rw [wrap_i64 (by omega) (by omega)]; omega
    have hn : sv (((b.drop a).take (k + 1)).drop i) = b.getD (a + i) 0 % 128 + 128 * sv (((b.drop a).take (k + 1)).drop (i + 1)) := by
      have hi2 : i < ((b.drop a).take (k + 1)).length := by simp; omega
      rw [drop_get 0 hi2, sv]
      have : ((b.drop a).take (k + 1)).getD i 0 = b.getD (a + i) 0 := by simp [List.getD_eq_getElem?_getD, List.getElem?_take, List.getElem?_drop, show i < k + 1 by omega]
      rw [this]
    have hle := sv_drop_le ((b.drop a).take (k + 1)) i
    have h0 := (sv_rng (((b.drop a).take (k + 1)).drop (i + 1))).1
    refine den_ev (evs_ob (by simp only [E.den, D.toI, D.toB, D.toL, D.toS, D.len, D.mapL, flatD, dE]; rw [hw]; omega) (evs_ob (by simp only [E.den, D.toI, D.toB, D.toL, D.toS, D.len, D.mapL, flatD, dE]; rw [hw]; omega) (evs_nil ?_)))
    refine den_back rfl ⟨i, ?_, by omega⟩ ?_
    · simp only [E.den, D.toI, D.toB, D.toL, D.toS, D.len, D.mapL, flatD, dE]
      rw [hw, Int.toNat_natCast, hg]
      simp only [E.den, D.toI, D.toB, D.toL, D.toS, D.len, D.mapL, flatD, dE]
      rw [Int.tmod_eq_emod_of_nonneg hc.1, wrap_u64 (n := b.getD (a + i) 0 % 128) (by omega) (by omega), wrap_u64 (n := sv (((b.drop a).take (k + 1)).drop (i + 1)) * 128) (by omega) (by omega), wrap_u64 (by omega) (by omega), wrap_i64 (by omega) (by omega), hn]
      simp only [List.cons.injEq, D.int.injEq, true_and, and_true]
      omega
    · simp only []
      simp only [E.den, D.toI, D.toB, D.toL, D.toS, D.len, D.mapL, flatD, dE]
      rw [wrap_i64 (by omega) (by omega)]
      omega
  · simp only [E.den, D.toI, D.toB, D.toL, D.toS, D.len, D.mapL, flatD, dE] at h
    have : j = 0 := by omega
    subst this
    rw [List.drop_zero]
    have hrd : rdR b.length (readS (b.drop a)) = [I64d (unzig (sv ((b.drop a).take (k + 1)))), I64d ((a + k + 1 : Nat) : Int), I64d 0] := by
      simp only [readS, hp, rdR, List.length_drop, List.cons.injEq, D.int.injEq, true_and, and_true]
      omega
    have e1 : IntKind.wrap .i64 (IntKind.wrap .i64 ((a : Int) + k) + 1) = ((a + k + 1 : Nat) : Int) := by rw [wrap_i64 (n := (a : Int) + k) (by omega) (by omega), wrap_i64 (by omega) (by omega)]; omega
    generalize hs : sv ((b.drop a).take (k + 1)) = s at *
    refine den_ite (fun h2 => den_ret ?_) (fun h2 => den_ret ?_)
    · simp only [E.den, D.toI, D.toB, D.toL, D.toS, D.len, D.mapL, flatD, dE] at h2
      rw [Int.tmod_eq_emod_of_nonneg g0] at h2
      simp only [E.den, D.toI, D.toB, D.toL, D.toS, D.len, D.mapL, flatD, dE]
      rw [hrd, e1, Int.tdiv_eq_ediv_of_nonneg g0, wrap_u64 (n := s / 2) (by omega) (by omega), wrap_i64 (n := s / 2) (by omega) (by omega), wrap_i64 (n := 0 - s / 2) (by omega) (by omega), Int.zero_sub, wrap_i64 (n := -(s / 2) - 1) (by omega) (by omega)]
      unfold unzig
      rw [if_neg (by omega)]
    · simp only [E.den, D.toI, D.toB, D.toL, D.toS, D.len, D.mapL, flatD, dE] at h2
      rw [Int.tmod_eq_emod_of_nonneg g0] at h2
      simp only [E.den, D.toI, D.toB, D.toL, D.toS, D.len, D.mapL, flatD, dE]
      rw [hrd, e1, Int.tdiv_eq_ediv_of_nonneg g0, wrap_u64 (n := s / 2) (by omega) (by omega), wrap_i64 (n := s / 2) (by omega) (by omega)]
      unfold unzig
      rw [if_pos (by omega)]
def rleadI (x : List Int) (xs : List D) : Prop := ∃ k : Nat, xs = [I64d k] ∧ k ≤ x.length ∧ ∀ c ∈ x.take k, 128 ≤ c
theorem rread_fn (b : List Int) (a : Nat) (hb : isB b) (hl : b.length ≤ 4294967296) (ha : a ≤ b.length) : Fun Try.prog [] 73 [tY, tI] [bD b, I64d a] [tI, tI, tI] (.ok (rdR b.length (readS (b.drop a)))) := by
  have hB : isB (b.drop a) := fun x hx => hb x (List.mem_of_mem_drop hx)
  refine rread_ent _ _ ?_
  show vcrread.den _ _ _ _ _
  unfold vcrread
  refine den_loop (rleadI (b.drop a)) (fun xs => b.length - (xs.getD 0 default).toI.toNat) ⟨0, rfl, by omega, by simp⟩ ?_
  simp only [AllSh]
  intro n _ _ ⟨k, he, hk, hx⟩
  simp only [List.cons.injEq, D.int.injEq, true_and, and_true] at he
  subst he
  have hkl : a + k ≤ b.length := by rw [List.length_drop] at hk; omega
  have hlx : (b.drop a).length = b.length - a := List.length_drop
  obtain ⟨p1, p2, p3⟩ := read_places hB hk hx
  rw [getD_drop] at p3
  have hwa : IntKind.wrap .i64 ((a : Int) + k) = ((a + k : Nat) : Int) := by rw [wrap_i64 (by omega) (by omega)]; omega
  refine den_ite (fun h => ?_) (fun h => ?_)
  rotate_left
  · simp only [E.den, D.toI, D.toB, D.toL, D.toS, D.len, D.mapL, flatD, dE] at h
    rw [hwa] at h
    refine den_ite (fun h2 => den_ret ?_) (fun h2 => den_ret ?_)
    · simp only [E.den, D.toI, D.toB, D.toL, D.toS, D.len, D.mapL, flatD, dE] at h2
      rw [rd_err _ (p1 (by omega))]
      simp only [E.den, D.toI, D.toB, D.toL, D.toS, D.len, D.mapL, flatD, dE]
    · simp only [E.den, D.toI, D.toB, D.toL, D.toS, D.len, D.mapL, flatD, dE] at h2
      rw [rd_err _ (p2 (by omega) (by omega))]
      simp only [E.den, D.toI, D.toB, D.toL, D.toS, D.len, D.mapL, flatD, dE]
  simp only [E.den, D.toI, D.toB, D.toL, D.toS, D.len, D.mapL, flatD, dE] at h
  rw [hwa] at h
  have hk' : a + k < b.length := by omega
  have hg := get_U hk'
  have hc : 0 ≤ b.getD (a + k) 0 ∧ b.getD (a + k) 0 ≤ 255 := hb _ (by simp [List.getD_eq_getElem?_getD, hk'])
  have G : (E.get (.v 0) (.ar .add .i64 (.v 1) (.v 2))).den ([bD b, I64d a] ++ [I64d k]) = U8d (b.getD (a + k) 0) := by
    simp only [E.den, D.toI, D.toB, D.toL, D.toS, D.len, D.mapL, flatD, dE]
    rw [hwa, Int.toNat_natCast, hg]
  refine den_ev (evs_ob (by simp only [E.den, D.toI, D.toB, D.toL, D.toS, D.len, D.mapL, flatD, dE]; rw [hwa]; omega) (evs_ob (by simp only [E.den, D.toI, D.toB, D.toL, D.toS, D.len, D.mapL, flatD, dE]; rw [hwa]; omega) (evs_nil ?_)))
  refine den_ite (fun h3 => ?_) (fun h3 => ?_)
  · simp only [E.den, D.toI, D.toB, D.toL, D.toS, D.len, D.mapL, flatD, dE] at h3
    rw [hwa, Int.toNat_natCast, hg] at h3
    simp only [E.den, D.toI, D.toB, D.toL, D.toS, D.len, D.mapL, flatD, dE] at h3
    have hw : IntKind.wrap .i64 ((k : Int) + 1) = ((k + 1 : Nat) : Int) := by rw [wrap_i64 (by omega) (by omega)]; omega
    refine den_back rfl ⟨k + 1, ?_, by omega, ?_⟩ ?_
    · simp only [E.den, D.toI, D.toB, D.toL, D.toS, D.len, D.mapL, flatD, dE]; rw [hw]
    · rw [take_get 0 (by omega), getD_drop]
      intro c hc
      rcases List.mem_append.1 hc with h | h
      · exact hx c h
      · simp only [List.mem_singleton] at h; omega
    · simp only []; simp only [E.den, D.toI, D.toB, D.toL, D.toS, D.len, D.mapL, flatD, dE]; rw [hw]; omega
  simp only [E.den, D.toI, D.toB, D.toL, D.toS, D.len, D.mapL, flatD, dE] at h3
  rw [hwa, Int.toNat_natCast, hg] at h3
  simp only [E.den, D.toI, D.toB, D.toL, D.toS, D.len, D.mapL, flatD, dE] at h3
  refine den_ite (fun h2 => den_ret ?_) (fun h2 => ?_)
  · simp only [E.den, D.toI, D.toB, D.toL, D.toS, D.len, D.mapL, flatD, dE] at h2
    rw [rd_err _ (p1 (by omega))]
    simp only [E.den, D.toI, D.toB, D.toL, D.toS, D.len, D.mapL, flatD, dE]
  simp only [E.den, D.toI, D.toB, D.toL, D.toS, D.len, D.mapL, flatD, dE] at h2
  have hp := p3 (by omega) (by omega) (by omega)
  have top : ¬ (b.getD (a + k) 0 = 0 ∧ k ≠ 0) → ∀ L, (vcrread_1).den Try.prog [] (fun r' => r' = .ok (rdR b.length (readS (b.drop a)))) [L] [bD b, I64d a, I64d k] := by
    intro h0 L
    rw [if_neg h0] at hp
    unfold vcrread_1
    refine den_ite (fun h4 => den_ite (fun h5 => den_ret ?_) (fun h5 => ?_)) (fun h4 => ?_)
    · simp only [E.den, D.toI, D.toB, D.toL, D.toS, D.len, D.mapL, flatD, dE] at h4 h5
      rw [hwa, Int.toNat_natCast, hg] at h5
      simp only [E.den, D.toI, D.toB, D.toL, D.toS, D.len, D.mapL, flatD, dE] at h5
      rw [if_pos (by omega)] at hp
      rw [rd_err _ hp]
      simp only [E.den, D.toI, D.toB, D.toL, D.toS, D.len, D.mapL, flatD, dE]
    · simp only [E.den, D.toI, D.toB, D.toL, D.toS, D.len, D.mapL, flatD, dE] at h4 h5
      rw [hwa, Int.toNat_natCast, hg] at h5
      simp only [E.den, D.toI, D.toB, D.toL, D.toS, D.len, D.mapL, flatD, dE] at h5
      rw [if_neg (by omega)] at hp
      exact rread_end b hb hl hk' (by omega) hp L
    · simp only [E.den, D.toI, D.toB, D.toL, D.toS, D.len, D.mapL, flatD, dE] at h4
      rw [if_neg (by omega)] at hp
      exact rread_end b hb hl hk' (by omega) hp L
  refine den_ev (evs_ob (by simp only [E.den, D.toI, D.toB, D.toL, D.toS, D.len, D.mapL, flatD, dE]; rw [hwa]; omega) (evs_ob (by simp only [E.den, D.toI, D.toB, D.toL, D.toS, D.len, D.mapL, flatD, dE]; rw [hwa]; omega) (evs_nil ?_)))
  refine den_ite (fun h4 => den_ite (fun h5 => den_ret ?_) (fun h5 => ?_)) (fun h4 => ?_)
  · simp only [E.den, D.toI, D.toB, D.toL, D.toS, D.len, D.mapL, flatD, dE] at h4
    rw [hwa, Int.toNat_natCast, hg] at h4
    simp only [E.den, D.toI, D.toB, D.toL, D.toS, D.len, D.mapL, flatD, dE] at h4
    simp only [E.den, D.toI, D.toB, D.toL, D.toS, D.len, D.mapL, flatD, dE] at h5
    rw [if_pos (by omega)] at hp
    rw [rd_err _ hp]
    simp only [E.den, D.toI, D.toB, D.toL, D.toS, D.len, D.mapL, flatD, dE]
  · simp only [E.den, D.toI, D.toB, D.toL, D.toS, D.len, D.mapL, flatD, dE] at h5
    exact top (by omega) _
  · simp only [E.den, D.toI, D.toB, D.toL, D.toS, D.len, D.mapL, flatD, dE] at h4
    rw [hwa, Int.toNat_natCast, hg] at h4
    simp only [E.den, D.toI, D.toB, D.toL, D.toS, D.len, D.mapL, flatD, dE] at h4
    exact top (by omega) _

section
variable {P : Program} {G : Globs} {K : FR → Prop} {Λ : List Lp} {ρ : List D}
theorem den_t {e : E} {a b : VC} (h : (e.den ρ).toB = true) (k : a.den P G K Λ ρ) : (VC.ite e a b).den P G K Λ ρ := den_ite (fun _ => k) (fun h' => by rw [h] at h'; cases h')
theorem den_f {e : E} {a b : VC} (h : (e.den ρ).toB = false) (k : b.den P G K Λ ρ) : (VC.ite e a b).den P G K Λ ρ := den_ite (fun h' => by rw [h] at h'; cases h') (fun _ => k)
end
abbrev fD (x : Fld) : D := .rc [I64d x.1, bD x.2]
abbrev fsD (l : List Fld) : D := .lst (l.map fD)
abbrev tF : TS := .c (.lst [.int .i64, .lst [.int .u8]])
theorem get_F {l : List Fld} {i : Nat} (h : i < l.length) : (l.map fD).getD i default = fD (l.getD i (0, [])) := by simp [List.getD_eq_getElem?_getD, h]
theorem mem_getD {α : Type} (d : α) {l : List α} {i : Nat} (h : i < l.length) : l.getD i d ∈ l := by simp [List.getD_eq_getElem?_getD, h]
theorem clone_fn (b : List Int) (hl : b.length ≤ 4294967296) : Fun Try.prog [] 88 [tY] [bD b] [.r [.int .u8]] (.ok [bD b]) := by
  refine clone_ent _ _ ?_
  show vcclone.den _ _ _ _ _
  unfold vcclone
  simp only [E.den, D.toI, D.toB, D.toL, D.toS, D.len, D.mapL, flatD, dE]
  refine ⟨fun h => den_ret ?_, ?_⟩
  · simp only [E.den, D.toI, D.toB, D.toL, D.toS, D.len, D.mapL, flatD, dE] at h
    have : b = [] := by simpa using h
    subst this
    rfl
  · refine den_ev (evs_ob (by simp only [E.den, D.toI, D.toB, D.toL, D.toS, D.len, D.mapL, flatD, dE]; omega) (evs_nil (den_ret ?_)))
    simp only [E.den, D.toI, D.toB, D.toL, D.toS, D.len, D.mapL, flatD, dE]
def datR (b : List Int) : FR := match dataS b with
  | .ok (d, r) => .ok [bD d, .rc [bD r]]
  | .error e => .pan 114 (.rc [I64d e])
theorem dat_fn (b : List Int) (hb : isB b) (hl : b.length ≤ 4294967296) : Fun Try.prog [] 69 [.p [.s (.lst [.int .u8])]] [.rc [bD b]] [tY] (datR b) := by
  refine dat_ent _ _ ?_
  show vcdat.den _ _ _ _ _
  unfold vcdat
  cases hr : readS b with
  | error e => exact den_calP (int_pan hb hl hr) rfl (by simp [datR, dataS, hr])
  | ok p =>
    obtain ⟨n, r⟩ := p
    obtain ⟨hbe, hn, hrB, hrl⟩ := put_read hb hr
    refine den_cal [I64d n, bD r] rfl (int_ok hb hl hr) rfl rfl ?_
    refine den_chk rfl (fun h1 => ?_) (fun h1 => ?_)
    rotate_left
    · simp only [E.den, D.toI, D.toB, D.toL, D.toS, D.len, D.mapL, flatD, dE] at h1
      simp [datR, dataS, hr, h1]
    simp only [E.den, D.toI, D.toB, D.toL, D.toS, D.len, D.mapL, flatD, dE] at h1
    refine den_chk rfl (fun h2 => ?_) (fun h2 => ?_)
    rotate_left
    · simp only [E.den, D.toI, D.toB, D.toL, D.toS, D.len, D.mapL, flatD, dE] at h2
      simp [datR, dataS, hr, show ¬ n < 0 by omega, h2]
    simp only [E.den, D.toI, D.toB, D.toL, D.toS, D.len, D.mapL, flatD, dE] at h2
    have hR : datR b = .ok [bD (r.take n.toNat), .rc [bD (r.drop n.toNat)]] := by simp [datR, dataS, hr, show ¬ n < 0 by omega, show ¬ ((r.length : Int) < n) by omega]
    refine den_ev (evs_ob (by simp only [E.den, D.toI, D.toB, D.toL, D.toS, D.len, D.mapL, flatD, dE]; omega) (evs_ob (by simp only [E.den, D.toI, D.toB, D.toL, D.toS, D.len, D.mapL, flatD, dE]; omega) (evs_ob (by simp only [E.den, D.toI, D.toB, D.toL, D.toS, D.len, D.mapL, flatD, dE]; omega) (evs_ob (by simp only [E.den, D.toI, D.toB, D.toL, D.toS, D.len, D.mapL, flatD, dE]; omega) (evs_nil ?_)))))
    refine den_cal [bD (r.take n.toNat)] rfl (clone_fn (r.take n.toNat) (by rw [List.length_take]; omega)) ?_ rfl ?_
    · simp only [E.den, D.toI, D.toB, D.toL, D.toS, D.len, D.mapL, flatD, dE]
      rw [show (0 : Int).toNat = 0 from rfl, sub_row, List.drop_zero]
    refine den_ev (evs_ob (by simp only [E.den, D.toI, D.toB, D.toL, D.toS, D.len, D.mapL, flatD, dE]; omega) (evs_ob (by simp only [E.den, D.toI, D.toB, D.toL, D.toS, D.len, D.mapL, flatD, dE]; omega) (evs_nil ?_)))
    refine den_ret ?_
    rw [hR]
    simp only [E.den, D.toI, D.toB, D.toL, D.toS, D.len, D.mapL, flatD, dE]
    rw [sub_row, List.take_of_length_le (Nat.le_refl _)]
theorem dat_ok {b r d : List Int} (hb : isB b) (hl : b.length ≤ 4294967296) (h : dataS b = .ok (d, r)) : Fun Try.prog [] 69 [.p [.s (.lst [.int .u8])]] [.rc [bD b]] [tY] (.ok [bD d, .rc [bD r]]) := by
  have := dat_fn b hb hl
  simpa only [datR, h] using this
theorem dat_pan {b : List Int} {e : Int} (hb : isB b) (hl : b.length ≤ 4294967296) (h : dataS b = .error e) : Fun Try.prog [] 69 [.p [.s (.lst [.int .u8])]] [.rc [bD b]] [tY] (.pan 114 (.rc [I64d e])) := by
  have := dat_fn b hb hl
  simpa only [datR, h] using this
theorem rd_ok {n : Nat} {x r : List Int} {v : Int} (h : readS x = .ok (v, r)) : rdR n (readS x) = [I64d v, I64d ((n : Int) - r.length), I64d 0] := by simp [h, rdR]
theorem rd_er {n : Nat} {x : List Int} {e : Int} (h : readS x = .error e) : rdR n (readS x) = [I64d 0, I64d 0, I64d e] := by simp [h, rdR]
theorem rread_ok {b r : List Int} {a : Nat} {v : Int} (hb : isB b) (hl : b.length ≤ 4294967296) (ha : a ≤ b.length) (h : readS (b.drop a) = .ok (v, r)) :
    ∃ c : Nat, b.drop c = r ∧ a < c ∧ c ≤ b.length ∧ Fun Try.prog [] 73 [tY, tI] [bD b, I64d a] [tI, tI, tI] (.ok [I64d v, I64d c, I64d 0]) := by
  have hB : isB (b.drop a) := fun x hx => hb x (List.mem_of_mem_drop hx)
  obtain ⟨he, _, _, hlt⟩ := put_read hB h
  have hlen := congrArg List.length he
  rw [List.length_append, List.length_drop] at hlen
  rw [List.length_drop] at hlt
  refine ⟨b.length - r.length, ?_, by omega, by omega, ?_⟩
  · have h2 : (b.drop a).drop (b.length - r.length - a) = r := by
      rw [he, List.drop_left' (by omega)]
    rw [List.drop_drop, show a + (b.length - r.length - a) = b.length - r.length by omega] at h2
    exact h2
  · have := rread_fn b a hb hl ha
    rw [rd_ok h, show ((b.length : Int) - r.length) = ((b.length - r.length : Nat) : Int) by omega] at this
    exact this
theorem rread_er {b : List Int} {a : Nat} {e : Int} (hb : isB b) (hl : b.length ≤ 4294967296) (ha : a ≤ b.length) (h : readS (b.drop a) = .error e) : Fun Try.prog [] 73 [tY, tI] [bD b, I64d a] [tI, tI, tI] (.ok [I64d 0, I64d 0, I64d e]) := by
  have := rread_fn b a hb hl ha
  rw [rd_er h] at this
  exact this
def rbR (n : Nat) : Except Int (List Int × List Int) → List D
  | .ok (d, r) => [bD d, I64d ((n : Int) - r.length), I64d 0]
  | .error e => [bD [], I64d 0, I64d e]
theorem rbytes_fn (b : List Int) (a : Nat) (hb : isB b) (hl : b.length ≤ 4294967296) (ha : a ≤ b.length) : Fun Try.prog [] 74 [tY, tI] [bD b, I64d a] [tY, tI, tI] (.ok (rbR b.length (dataS (b.drop a)))) := by
  have hB : isB (b.drop a) := fun x hx => hb x (List.mem_of_mem_drop hx)
  refine rbytes_ent _ _ ?_
  show vcrbytes.den _ _ _ _ _
  unfold vcrbytes
  cases hr : readS (b.drop a) with
  | error e =>
    have he := read_err hr
    refine den_cal [I64d 0, I64d 0, I64d e] rfl (rread_er hb hl ha hr) rfl rfl ?_
    (try simp only [List.cons_append, List.nil_append])
    refine den_ite (fun h => den_ret ?_) (fun h => ?_)
    · simp only [E.den, D.toI, D.toB, D.toL, D.toS, D.len, D.mapL, flatD, dE]
      simp [dataS, hr, rbR]
    · simp only [E.den, D.toI, D.toB, D.toL, D.toS, D.len, D.mapL, flatD, dE] at h
      omega
  | ok p =>
    obtain ⟨n, r⟩ := p
    obtain ⟨c, hc, hac, hcl, hf⟩ := rread_ok hb hl ha hr
    obtain ⟨_, hn, _, _⟩ := put_read hB hr
    unfold in64 at hn
    refine den_cal [I64d n, I64d c, I64d 0] rfl hf rfl rfl ?_
    (try simp only [List.cons_append, List.nil_append])
    refine den_f rfl ?_
    have hrl : (r.length : Int) = b.length - c := by rw [← hc, List.length_drop]; omega
    refine den_ite (fun h => den_ret ?_) (fun h => ?_)
    · simp only [E.den, D.toI, D.toB, D.toL, D.toS, D.len, D.mapL, flatD, dE] at h
      simp only [E.den, D.toI, D.toB, D.toL, D.toS, D.len, D.mapL, flatD, dE]
      simp [dataS, hr, rbR, h]
    simp only [E.den, D.toI, D.toB, D.toL, D.toS, D.len, D.mapL, flatD, dE] at h
    have hw1 : IntKind.wrap .i64 ((b.length : Int) - c) = b.length - c := wrap_i64 (by omega) (by omega)
    refine den_ite (fun h2 => den_ret ?_) (fun h2 => ?_)
    · simp only [E.den, D.toI, D.toB, D.toL, D.toS, D.len, D.mapL, flatD, dE] at h2
      rw [hw1] at h2
      simp only [E.den, D.toI, D.toB, D.toL, D.toS, D.len, D.mapL, flatD, dE]
      simp [dataS, hr, rbR, show ¬ n < 0 by omega, show (r.length : Int) < n by omega]
    simp only [E.den, D.toI, D.toB, D.toL, D.toS, D.len, D.mapL, flatD, dE] at h2
    rw [hw1] at h2
    have hw : IntKind.wrap .i64 ((c : Int) + n) = ((c + n.toNat : Nat) : Int) := by rw [wrap_i64 (by omega) (by omega)]; omega
    have hD : dataS (b.drop a) = .ok (r.take n.toNat, r.drop n.toNat) := by simp [dataS, hr, show ¬ n < 0 by omega, show ¬ ((r.length : Int) < n) by omega]
    refine den_ev (evs_ob (by simp only [E.den, D.toI, D.toB, D.toL, D.toS, D.len, D.mapL, flatD, dE]; rw [hw]; omega) (evs_ob (by simp only [E.den, D.toI, D.toB, D.toL, D.toS, D.len, D.mapL, flatD, dE]; rw [hw]; omega) (evs_ob (by simp only [E.den, D.toI, D.toB, D.toL, D.toS, D.len, D.mapL, flatD, dE]; omega) (evs_ob (by simp only [E.den, D.toI, D.toB, D.toL, D.toS, D.len, D.mapL, flatD, dE]; rw [hw]; omega) (evs_nil ?_)))))
    have hsub : ((b.map U8d).take (c + n.toNat)).drop c = (r.take n.toNat).map U8d := by
      rw [sub_row, ← hc]
      congr 1
      rw [List.drop_take]
      congr 1
      omega
    refine den_ev (evs_ob ?_ (evs_nil (den_ret ?_)))
    · simp only [E.den, D.toI, D.toB, D.toL, D.toS, D.len, D.mapL, flatD, dE]
      rw [hw, Int.toNat_natCast, hsub]
      simp only [List.length_map, List.length_take]
      omega
    · rw [hD]
      simp only [E.den, D.toI, D.toB, D.toL, D.toS, D.len, D.mapL, flatD, dE]
      rw [hw, Int.toNat_natCast, hsub]
      simp only [rbR, List.length_drop, FR.ok.injEq, List.cons.injEq, D.int.injEq, true_and, and_true]
      omega
theorem rbytes_ok {b r d : List Int} {a : Nat} (hb : isB b) (hl : b.length ≤ 4294967296) (ha : a ≤ b.length) (h : dataS (b.drop a) = .ok (d, r)) :
    ∃ c : Nat, b.drop c = r ∧ a < c ∧ c ≤ b.length ∧ Fun Try.prog [] 74 [tY, tI] [bD b, I64d a] [tY, tI, tI] (.ok [bD d, I64d c, I64d 0]) := by
  have hB : isB (b.drop a) := fun x hx => hb x (List.mem_of_mem_drop hx)
  obtain ⟨he, _, _, hlt, _⟩ := put_data hB h
  have hlen := congrArg List.length he
  rw [List.length_append, List.length_drop] at hlen
  rw [List.length_drop] at hlt
  refine ⟨b.length - r.length, ?_, by omega, by omega, ?_⟩
  · have h2 : (b.drop a).drop (b.length - r.length - a) = r := by
      rw [he, List.drop_left' (by omega)]
    rw [List.drop_drop, show a + (b.length - r.length - a) = b.length - r.length by omega] at h2
    exact h2
  · have := rbytes_fn b a hb hl ha
    rw [h] at this
    simp only [rbR] at this
    rw [show ((b.length : Int) - r.length) = ((b.length - r.length : Nat) : Int) by omega] at this
    exact this
theorem rbytes_er {b : List Int} {a : Nat} {e : Int} (hb : isB b) (hl : b.length ≤ 4294967296) (ha : a ≤ b.length) (h : dataS (b.drop a) = .error e) : Fun Try.prog [] 74 [tY, tI] [bD b, I64d a] [tY, tI, tI] (.ok [bD [], I64d 0, I64d e]) := by
  have := rbytes_fn b a hb hl ha
  rw [h] at this
  exact this
/-! take an integer -/
def tiR (b : List Int) : List D := [I64d (takeIntS b).1, I64d (takeIntS b).2]
theorem takeint_fn (b : List Int) (hb : isB b) (hl : b.length ≤ 4294967296) : Fun Try.prog [] 45 [tY] [bD b] [tI, tI] (.ok (tiR b)) := by
  refine takeint_ent _ _ ?_
  show vctakeint.den _ _ _ _ _
  unfold vctakeint
  cases hr : readS b with
  | error e => exact den_calP (int_pan hb hl hr) rfl ⟨rfl, e, rfl, by simp [tiR, takeIntS, hr]⟩
  | ok p =>
    obtain ⟨n, r⟩ := p
    refine den_cal [I64d n, bD r] rfl (int_ok hb hl hr) rfl rfl ?_
    refine den_chk rfl (fun h1 => den_ret ?_) (fun h1 => ?_)
    · simp only [E.den, D.toI, D.toB, D.toL, D.toS, D.len, D.mapL, flatD, dE] at h1
      have : r = [] := by cases r with
        | nil => rfl
        | cons x r => simp at h1; omega
      show FR.ok _ = FR.ok _
      simp only [E.den, D.toI, D.toB, D.toL, D.toS, D.len, D.mapL, flatD, dE]
      simp [tiR, takeIntS, hr, this]
    · simp only [E.den, D.toI, D.toB, D.toL, D.toS, D.len, D.mapL, flatD, dE] at h1
      refine ⟨rfl, 5, rfl, ?_⟩
      have : r ≠ [] := by
        intro e
        subst e
        simp at h1
      simp [tiR, takeIntS, hr, this]
theorem rtakeint_fn (b : List Int) (hb : isB b) (hl : b.length ≤ 4294967296) : Fun Try.prog [] 49 [tY] [bD b] [tI, tI] (.ok (tiR b)) := by
  refine rtakeint_ent _ _ ?_
  show vcrtakeint.den _ _ _ _ _
  unfold vcrtakeint
  cases hr : readS b with
  | error e =>
    have he := read_err hr
    refine den_cal [I64d 0, I64d 0, I64d e] rfl (rread_er (a := 0) hb hl (by omega) hr) rfl rfl ?_
    (try simp only [List.cons_append, List.nil_append])
    refine den_ite (fun h => den_ret ?_) (fun h => ?_)
    · simp only [E.den, D.toI, D.toB, D.toL, D.toS, D.len, D.mapL, flatD, dE]
      simp [tiR, takeIntS, hr]
    · simp only [E.den, D.toI, D.toB, D.toL, D.toS, D.len, D.mapL, flatD, dE] at h
      omega
  | ok p =>
    obtain ⟨n, r⟩ := p
    obtain ⟨c, hc, hac, hcl, hf⟩ := rread_ok (a := 0) hb hl (by omega) hr
    refine den_cal [I64d n, I64d c, I64d 0] rfl hf rfl rfl ?_
    (try simp only [List.cons_append, List.nil_append])
    refine den_f rfl ?_
    have hrl : r.length = b.length - c := by rw [← hc, List.length_drop]
    refine den_ite (fun h => den_ret ?_) (fun h => den_ret ?_)
    · simp only [E.den, D.toI, D.toB, D.toL, D.toS, D.len, D.mapL, flatD, dE] at h
      simp only [E.den, D.toI, D.toB, D.toL, D.toS, D.len, D.mapL, flatD, dE]
      have : r ≠ [] := by
        intro e
        subst e
        simp at hrl
        omega
      simp [tiR, takeIntS, hr, this]
    · simp only [E.den, D.toI, D.toB, D.toL, D.toS, D.len, D.mapL, flatD, dE] at h
      simp only [E.den, D.toI, D.toB, D.toL, D.toS, D.len, D.mapL, flatD, dE]
      have : r = [] := List.length_eq_zero_iff.1 (by omega)
      simp [tiR, takeIntS, hr, this]
/-! big, data -/
def tot (l : List (List Int)) : Nat := (l.map List.length).sum
def bigF (l : List (List Int)) : Bool := decide (300 < l.length) || l.any (fun x => decide (65536 < x.length)) || decide (65536 < tot l)
theorem bigF_no {l : List (List Int)} (h : bigF l = false) : l.length ≤ 300 ∧ (∀ x ∈ l, x.length ≤ 65536) ∧ tot l ≤ 65536 := by
  simp only [bigF, Bool.or_eq_false_iff, decide_eq_false_iff_not, List.any_eq_false, decide_eq_true_eq] at h
  exact ⟨by omega, fun x hx => by have := h.1.2 x hx; omega, by omega⟩
theorem tot_take {l : List (List Int)} {i : Nat} (h : i < l.length) : tot (l.take (i + 1)) = tot (l.take i) + (l.getD i []).length := by
  rw [take_get [] h]; simp [tot]
theorem tot_le {l : List (List Int)} (h : ∀ x ∈ l, x.length ≤ 65536) : tot l ≤ l.length * 65536 := by
  induction l with
  | nil => simp [tot]
  | cons x l ih =>
    have h1 := h x (by simp)
    have h2 := ih fun y hy => h y (by simp [hy])
    simp only [tot, List.map_cons, List.sum_cons, List.length_cons] at h2 ⊢
    omega
def bigI (l : List (List Int)) (xs : List D) : Prop := ∃ (r : Bool) (i : Nat), xs = [.bool r, I64d (tot (l.take i)), I64d i] ∧ i ≤ l.length ∧ ∀ x ∈ l.take i, x.length ≤ 65536
def datsF (l : List Fld) : List (List Int) := (l.map (·.2)).take 302
theorem datsF_no {l : List Fld} (h : bigF (datsF l) = false) : l.length ≤ 300 ∧ (∀ x ∈ l, x.2.length ≤ 65536) := by
  obtain ⟨h1, h2, _⟩ := bigF_no h
  have hl : l.length ≤ 300 := by simp [datsF] at h1; omega
  refine ⟨hl, fun x hx => h2 _ ?_⟩
  rw [datsF, List.take_of_length_le (by simp; omega)]
  exact List.mem_map_of_mem hx
def dataI (l : List Fld) (xs : List D) : Prop := ∃ (r : List D) (i : Nat), xs = [bbD ((l.take i).map (·.2)), .lst r, I64d i] ∧ i ≤ l.length ∧ i ≤ 301
/-! put -/
def putR (x : Except Int (List Int)) : List D := match x with
  | .ok b => [bD b, I64d 0]
  | .error e => [bD [], I64d e]
theorem consA_consA (a b : List Int) (x : Except Int (List Int)) : consA a (consA b x) = consA (a ++ b) x := by cases x <;> simp [consA]
theorem consA_nil (x : Except Int (List Int)) : consA [] x = x := by cases x <;> rfl
def bef (l : List Fld) (i : Nat) : Int := if i = 0 then 0 else (l.getD (i - 1) (0, [])).1
def putI (l : List Fld) (acc : List Int) (i : Nat) : Prop := i ≤ l.length ∧ acc.length ≤ i * 1000020 ∧ putG 0 l = consA acc (putG (bef l i) (l.drop i))
theorem putI0 (l : List Fld) : putI l [] 0 := ⟨by omega, by simp, by rw [consA_nil]; rfl⟩
theorem bef_next {l : List Fld} {i : Nat} : bef l (i + 1) = (l.getD i (0, [])).1 := by simp [bef]
theorem putI_step {l : List Fld} {acc : List Int} {i : Nat} (h : putI l acc i) (hi : i < l.length) (hs : ∀ x ∈ l, x.2.length ≤ 1000000) :
    ((l.getD i (0, [])).1 < 1 ∨ 1000 < (l.getD i (0, [])).1 → putG 0 l = .error 2) ∧
    (¬ ((l.getD i (0, [])).1 < 1 ∨ 1000 < (l.getD i (0, [])).1) → (l.getD i (0, [])).1 ≤ bef l i → putG 0 l = .error 1) ∧
    (¬ ((l.getD i (0, [])).1 < 1 ∨ 1000 < (l.getD i (0, [])).1) → ¬ (l.getD i (0, [])).1 ≤ bef l i → putI l (acc ++ putS (l.getD i (0, [])).1 ++ putS (l.getD i (0, [])).2.length ++ (l.getD i (0, [])).2) (i + 1)) := by
  obtain ⟨h1, h2, h3⟩ := h
  rw [drop_get (0, []) hi] at h3
  have hm := hs _ (mem_getD (0, []) hi)
  generalize hx : l.getD i (0, []) = x at *
  obtain ⟨t, d⟩ := x
  simp only [putG] at h3
  refine ⟨fun h => ?_, fun h k => ?_, fun h k => ⟨by omega, ?_, ?_⟩⟩
  · rw [h3, if_pos h]; rfl
  · rw [h3, if_neg h, if_pos k]; rfl
  · have e1 := putS_len t
    have e2 := putS_len d.length
    simp only [List.length_append] at hm ⊢
    omega
  · rw [h3, if_neg h, if_neg k, consA_consA, bef_next, hx]
    simp [putD]
theorem putF_over {l : List Fld} (h : 256 < l.length) : putF l = .error 3 := by simp [putF, h]
theorem putF_in {l : List Fld} (h : l.length ≤ 256) : putF l = putG 0 l := by simp [putF]; omega
theorem put_end {l : List Fld} {acc : List Int} (h : putI l acc l.length) : putG 0 l = .ok acc := by
  rw [h.2.2, List.drop_length]
  simp [putG, consA]
def putI1 (l : List Fld) (xs : List D) : Prop := ∃ (acc : List Int) (z : List D) (e : Int) (i : Nat), xs = [bD acc, .lst z, I64d e, I64d (bef l i), I64d i] ∧ putI l acc i
def putM (l : List Fld) (xs : List D) : Nat := l.length - (xs.getD 4 default).toI.toNat
theorem put_go (l : List Fld) (hl : l.length ≤ 256) (hs : ∀ x ∈ l, x.2.length ≤ 1000000) {acc : List Int} {z : List D} {e : Int} {i m : Nat} (hi' : i < l.length) (hI : putI l acc i) (h1 : ¬ ((l.getD i (0, [])).1 < 1 ∨ 1000 < (l.getD i (0, [])).1)) (h2 : ¬ (l.getD i (0, [])).1 ≤ bef l i) (hm : l.length - i = m) :
    vcput_0.den Try.prog [] (fun r' => r' = .ok (putR (putG 0 l))) [⟨putI1 l, putM l, m⟩] [fsD l, bD acc, .lst z, I64d e, I64d (bef l i), I64d i] := by
  have hg := get_F hi'
  have hml := hs _ (mem_getD (0, []) hi')
  have hal := hI.2.1
  have hnx : bef l (i + 1) = (l.getD i (0, [])).1 := bef_next
  have hst := (putI_step hI hi' hs).2.2 h1 h2
  generalize hx : l.getD i (0, []) = x at *
  obtain ⟨t, d⟩ := x
  simp only [] at *
  have e1 := putS_len t
  have e2 := putS_len d.length
  have hw : IntKind.wrap .i64 ((i : Int) + 1) = ((i + 1 : Nat) : Int) := by rw [wrap_i64 (by omega) (by omega)]; omega
  unfold vcput_0
  refine den_cal [bD (acc ++ putS t)] rfl (app_fn acc t (by unfold in64; omega) (by omega)) (by simp only [E.den, D.toI, D.toB, D.toL, D.toS, D.len, D.mapL, flatD, dE]; rw [hg] <;> rfl) rfl ?_
  (try simp only [List.cons_append, List.nil_append])
  refine den_cal [bD (acc ++ putS t ++ putS d.length)] rfl (app_fn (acc ++ putS t) d.length (by unfold in64; omega) (by simp only [List.length_append]; omega)) (by simp only [E.den, D.toI, D.toB, D.toL, D.toS, D.len, D.mapL, flatD, dE]; rw [hg]; simp only [E.den, D.toI, D.toB, D.toL, D.toS, D.len, D.mapL, flatD, dE]) rfl ?_
  (try simp only [List.cons_append, List.nil_append])
  refine den_ev (evs_ob (by simp only [E.den, D.toI, D.toB, D.toL, D.toS, D.len, D.mapL, flatD, dE]; rw [hg]; simp only [E.den, D.toI, D.toB, D.toL, D.toS, D.len, D.mapL, flatD, dE]; omega) (evs_nil ?_))
  refine den_back rfl ⟨acc ++ putS t ++ putS d.length ++ d, z, e, i + 1, ?_, hst⟩ ?_
  · simp only [E.den, D.toI, D.toB, D.toL, D.toS, D.len, D.mapL, flatD, dE]
    rw [hg]
    simp only [E.den, D.toI, D.toB, D.toL, D.toS, D.len, D.mapL, flatD, dE]
    rw [hw, hnx]
    simp
  · simp only [putM]
    simp only [E.den, D.toI, D.toB, D.toL, D.toS, D.len, D.mapL, flatD, dE]
    rw [hw]
    omega
theorem put_fn (l : List Fld) (hl : l.length ≤ 4294967296) (hs : ∀ x ∈ l, x.2.length ≤ 1000000) : Fun Try.prog [] 38 [tF] [fsD l] [tY, tI] (.ok (putR (putF l))) := by
  refine put_ent _ _ ?_
  show vcput.den _ _ _ _ _
  unfold vcput
  refine den_ite (fun h => den_ret ?_) (fun h => ?_)
  · simp only [E.den, D.toI, D.toB, D.toL, D.toS, D.len, D.mapL, flatD, dE] at h
    simp only [E.den, D.toI, D.toB, D.toL, D.toS, D.len, D.mapL, flatD, dE]
    rw [putF_over (by omega)]
    rfl
  simp only [E.den, D.toI, D.toB, D.toL, D.toS, D.len, D.mapL, flatD, dE] at h
  rw [putF_in (by omega)]
  refine den_loop (putI1 l) (putM l) ⟨[], [], 0, 0, rfl, putI0 l⟩ ?_
  simp only [AllSh]
  intro _ _ z _ e _ _ _ _ _ n _ _ ⟨acc, z', e', i, he, hI⟩
  simp only [List.cons.injEq, D.int.injEq, D.lst.injEq, true_and, and_true] at he
  obtain ⟨rfl, rfl, rfl, rfl, rfl⟩ := he
  (try simp only [List.cons_append, List.nil_append])
  refine den_ite (fun h2 => ?_) (fun h2 => ?_)
  rotate_left
  · simp only [E.den, D.toI, D.toB, D.toL, D.toS, D.len, D.mapL, flatD, dE] at h2
    refine den_ret ?_
    have : i = l.length := by have := hI.1; omega
    subst this
    rw [put_end hI]
    simp only [E.den, D.toI, D.toB, D.toL, D.toS, D.len, D.mapL, flatD, dE]
    rfl
  simp only [E.den, D.toI, D.toB, D.toL, D.toS, D.len, D.mapL, flatD, dE] at h2
  have hi' : i < l.length := by omega
  have hg := get_F hi'
  obtain ⟨s1, s2, s3⟩ := putI_step hI hi' hs
  have go := fun h1 h2 => put_go l (by omega) hs (z := z) (e := e) hi' hI h1 h2 rfl
  have hb0 : i = 0 → bef l i = 0 := fun h => by simp [bef, h]
  generalize hx : l.getD i (0, []) = x at *
  obtain ⟨t, d⟩ := x
  simp only [] at s1 s2 s3 go
  refine den_ev (evs_ob (by simp only [E.den, D.toI, D.toB, D.toL, D.toS, D.len, D.mapL, flatD, dE]; omega) (evs_ob (by simp only [E.den, D.toI, D.toB, D.toL, D.toS, D.len, D.mapL, flatD, dE]; omega) (evs_nil ?_)))
  refine den_ite (fun h3 => den_ret ?_) (fun h3 => ?_)
  · simp only [E.den, D.toI, D.toB, D.toL, D.toS, D.len, D.mapL, flatD, dE] at h3
    rw [hg] at h3
    simp only [E.den, D.toI, D.toB, D.toL, D.toS, D.len, D.mapL, flatD, dE] at h3
    rw [s1 (.inl h3)]
    simp only [E.den, D.toI, D.toB, D.toL, D.toS, D.len, D.mapL, flatD, dE]
    rfl
  simp only [E.den, D.toI, D.toB, D.toL, D.toS, D.len, D.mapL, flatD, dE] at h3
  rw [hg] at h3
  simp only [E.den, D.toI, D.toB, D.toL, D.toS, D.len, D.mapL, flatD, dE] at h3
  refine den_ite (fun h4 => den_ret ?_) (fun h4 => ?_)
  · simp only [E.den, D.toI, D.toB, D.toL, D.toS, D.len, D.mapL, flatD, dE] at h4
    rw [hg] at h4
    simp only [E.den, D.toI, D.toB, D.toL, D.toS, D.len, D.mapL, flatD, dE] at h4
    rw [s1 (.inr h4)]
    simp only [E.den, D.toI, D.toB, D.toL, D.toS, D.len, D.mapL, flatD, dE]
    rfl
  simp only [E.den, D.toI, D.toB, D.toL, D.toS, D.len, D.mapL, flatD, dE] at h4
  rw [hg] at h4
  simp only [E.den, D.toI, D.toB, D.toL, D.toS, D.len, D.mapL, flatD, dE] at h4
  refine den_ite (fun h5 => den_ite (fun h6 => den_ret ?_) (fun h6 => ?_)) (fun h5 => ?_)
  · simp only [E.den, D.toI, D.toB, D.toL, D.toS, D.len, D.mapL, flatD, dE] at h6
    rw [hg] at h6
    simp only [E.den, D.toI, D.toB, D.toL, D.toS, D.len, D.mapL, flatD, dE] at h6
    rw [s2 (by omega) h6]
    simp only [E.den, D.toI, D.toB, D.toL, D.toS, D.len, D.mapL, flatD, dE]
    rfl
  · simp only [E.den, D.toI, D.toB, D.toL, D.toS, D.len, D.mapL, flatD, dE] at h6
    rw [hg] at h6
    simp only [E.den, D.toI, D.toB, D.toL, D.toS, D.len, D.mapL, flatD, dE] at h6
    exact go (by omega) (by omega)
  · simp only [E.den, D.toI, D.toB, D.toL, D.toS, D.len, D.mapL, flatD, dE] at h5
    have := hb0 (by omega)
    exact go (by omega) (by omega)
def rputI1 (l : List Fld) (xs : List D) : Prop := ∃ (acc : List Int) (z : List D) (e : Int) (i : Nat), xs = [bD acc, .lst z, I64d e, I64d i] ∧ putI l acc i
def rputM (l : List Fld) (xs : List D) : Nat := l.length - (xs.getD 3 default).toI.toNat
theorem rput_go (l : List Fld) (hl : l.length ≤ 256) (hs : ∀ x ∈ l, x.2.length ≤ 1000000) {acc : List Int} {z : List D} {e : Int} {i m : Nat} (hi' : i < l.length) (hI : putI l acc i) (h1 : ¬ ((l.getD i (0, [])).1 < 1 ∨ 1000 < (l.getD i (0, [])).1)) (h2 : ¬ (l.getD i (0, [])).1 ≤ bef l i) (hm : l.length - i = m) :
    vcrput_0.den Try.prog [] (fun r' => r' = .ok (putR (putG 0 l))) [⟨rputI1 l, rputM l, m⟩] [fsD l, bD acc, .lst z, I64d e, I64d i] := by
  have hg := get_F hi'
  have hml := hs _ (mem_getD (0, []) hi')
  have hal := hI.2.1
  have hst := (putI_step hI hi' hs).2.2 h1 h2
  generalize hx : l.getD i (0, []) = x at *
  obtain ⟨t, d⟩ := x
  simp only [] at *
  have e1 := putS_len t
  have e2 := putS_len d.length
  have hw : IntKind.wrap .i64 ((i : Int) + 1) = ((i + 1 : Nat) : Int) := by rw [wrap_i64 (by omega) (by omega)]; omega
  unfold vcrput_0
  refine den_ev (evs_ob (by simp only [E.den, D.toI, D.toB, D.toL, D.toS, D.len, D.mapL, flatD, dE]; omega) (evs_ob (by simp only [E.den, D.toI, D.toB, D.toL, D.toS, D.len, D.mapL, flatD, dE]; omega) (evs_nil ?_)))
  refine den_cal [bD (putS t)] rfl (rputint_fn t (by unfold in64; omega)) (by simp only [E.den, D.toI, D.toB, D.toL, D.toS, D.len, D.mapL, flatD, dE]; rw [hg] <;> rfl) rfl ?_
  (try simp only [List.cons_append, List.nil_append])
  refine den_ev (evs_ob (by simp only [E.den, D.toI, D.toB, D.toL, D.toS, D.len, D.mapL, flatD, dE]; omega) (evs_nil ?_))
  refine den_ev (evs_ob (by simp only [E.den, D.toI, D.toB, D.toL, D.toS, D.len, D.mapL, flatD, dE]; omega) (evs_ob (by simp only [E.den, D.toI, D.toB, D.toL, D.toS, D.len, D.mapL, flatD, dE]; omega) (evs_nil ?_)))
  refine den_cal [bD (putS d.length)] rfl (rputint_fn d.length (by unfold in64; omega)) (by simp only [E.den, D.toI, D.toB, D.toL, D.toS, D.len, D.mapL, flatD, dE]; rw [hg]; simp only [E.den, D.toI, D.toB, D.toL, D.toS, D.len, D.mapL, flatD, dE]) rfl ?_
  (try simp only [List.cons_append, List.nil_append])
  refine den_ev (evs_ob (by simp only [E.den, D.toI, D.toB, D.toL, D.toS, D.len, D.mapL, flatD, dE]; omega) (evs_nil ?_))
  refine den_ev (evs_ob (by simp only [E.den, D.toI, D.toB, D.toL, D.toS, D.len, D.mapL, flatD, dE]; omega) (evs_ob (by simp only [E.den, D.toI, D.toB, D.toL, D.toS, D.len, D.mapL, flatD, dE]; omega) (evs_nil ?_)))
  refine den_ev (evs_ob (by simp only [E.den, D.toI, D.toB, D.toL, D.toS, D.len, D.mapL, flatD, dE]; rw [hg]; simp only [E.den, D.toI, D.toB, D.toL, D.toS, D.len, D.mapL, flatD, dE]; omega) (evs_nil ?_))
  refine den_back rfl ⟨acc ++ putS t ++ putS d.length ++ d, z, e, i + 1, ?_, hst⟩ ?_
  · simp only [E.den, D.toI, D.toB, D.toL, D.toS, D.len, D.mapL, flatD, dE]
    rw [hg]
    simp only [E.den, D.toI, D.toB, D.toL, D.toS, D.len, D.mapL, flatD, dE]
    rw [hw]
    simp
  · simp only [rputM]
    simp only [E.den, D.toI, D.toB, D.toL, D.toS, D.len, D.mapL, flatD, dE]
    rw [hw]
    omega
theorem rput_fn (l : List Fld) (hl : l.length ≤ 4294967296) (hs : ∀ x ∈ l, x.2.length ≤ 1000000) : Fun Try.prog [] 43 [tF] [fsD l] [tY, tI] (.ok (putR (putF l))) := by
  refine rput_ent _ _ ?_
  show vcrput.den _ _ _ _ _
  unfold vcrput
  refine den_ite (fun h => den_ret ?_) (fun h => ?_)
  · simp only [E.den, D.toI, D.toB, D.toL, D.toS, D.len, D.mapL, flatD, dE] at h
    simp only [E.den, D.toI, D.toB, D.toL, D.toS, D.len, D.mapL, flatD, dE]
    rw [putF_over (by omega)]
    rfl
  simp only [E.den, D.toI, D.toB, D.toL, D.toS, D.len, D.mapL, flatD, dE] at h
  rw [putF_in (by omega)]
  refine den_loop (rputI1 l) (rputM l) ⟨[], [], 0, 0, rfl, putI0 l⟩ ?_
  simp only [AllSh]
  intro _ _ z _ e _ _ n _ _ ⟨acc, z', e', i, he, hI⟩
  simp only [List.cons.injEq, D.int.injEq, D.lst.injEq, true_and, and_true] at he
  obtain ⟨rfl, rfl, rfl, rfl⟩ := he
  (try simp only [List.cons_append, List.nil_append])
  refine den_ite (fun h2 => ?_) (fun h2 => ?_)
  rotate_left
  · simp only [E.den, D.toI, D.toB, D.toL, D.toS, D.len, D.mapL, flatD, dE] at h2
    refine den_ret ?_
    have : i = l.length := by have := hI.1; omega
    subst this
    rw [put_end hI]
    simp only [E.den, D.toI, D.toB, D.toL, D.toS, D.len, D.mapL, flatD, dE]
    rfl
  simp only [E.den, D.toI, D.toB, D.toL, D.toS, D.len, D.mapL, flatD, dE] at h2
  have hi' : i < l.length := by omega
  have hg := get_F hi'
  obtain ⟨s1, s2, s3⟩ := putI_step hI hi' hs
  have go := fun h1 h2 => rput_go l (by omega) hs (z := z) (e := e) hi' hI h1 h2 rfl
  have hb0 : i = 0 → bef l i = 0 := fun h => by simp [bef, h]
  have hb1 : i ≠ 0 → bef l i = (l.getD (i - 1) (0, [])).1 := fun h => by simp [bef, h]
  have hg1 : i ≠ 0 → (l.map fD).getD (i - 1) default = fD (l.getD (i - 1) (0, [])) := fun h => get_F (by omega)
  have hw1 : i ≠ 0 → IntKind.wrap .i64 ((i : Int) - 1) = ((i - 1 : Nat) : Int) := fun h => by rw [wrap_i64 (by omega) (by omega)]; omega
  generalize hx : l.getD i (0, []) = x at *
  obtain ⟨t, d⟩ := x
  simp only [] at s1 s2 s3 go
  refine den_ev (evs_ob (by simp only [E.den, D.toI, D.toB, D.toL, D.toS, D.len, D.mapL, flatD, dE]; omega) (evs_ob (by simp only [E.den, D.toI, D.toB, D.toL, D.toS, D.len, D.mapL, flatD, dE]; omega) (evs_nil ?_)))
  refine den_ite (fun h3 => den_ret ?_) (fun h3 => ?_)
  · simp only [E.den, D.toI, D.toB, D.toL, D.toS, D.len, D.mapL, flatD, dE] at h3
    rw [hg] at h3
    simp only [E.den, D.toI, D.toB, D.toL, D.toS, D.len, D.mapL, flatD, dE] at h3
    rw [s1 (.inl h3)]
    simp only [E.den, D.toI, D.toB, D.toL, D.toS, D.len, D.mapL, flatD, dE]
    rfl
  simp only [E.den, D.toI, D.toB, D.toL, D.toS, D.len, D.mapL, flatD, dE] at h3
  rw [hg] at h3
  simp only [E.den, D.toI, D.toB, D.toL, D.toS, D.len, D.mapL, flatD, dE] at h3
  refine den_ev (evs_ob (by simp only [E.den, D.toI, D.toB, D.toL, D.toS, D.len, D.mapL, flatD, dE]; omega) (evs_ob (by simp only [E.den, D.toI, D.toB, D.toL, D.toS, D.len, D.mapL, flatD, dE]; omega) (evs_nil ?_)))
  refine den_ite (fun h4 => den_ret ?_) (fun h4 => ?_)
  · simp only [E.den, D.toI, D.toB, D.toL, D.toS, D.len, D.mapL, flatD, dE] at h4
    rw [hg] at h4
    simp only [E.den, D.toI, D.toB, D.toL, D.toS, D.len, D.mapL, flatD, dE] at h4
    rw [s1 (.inr h4)]
    simp only [E.den, D.toI, D.toB, D.toL, D.toS, D.len, D.mapL, flatD, dE]
    rfl
  simp only [E.den, D.toI, D.toB, D.toL, D.toS, D.len, D.mapL, flatD, dE] at h4
  rw [hg] at h4
  simp only [E.den, D.toI, D.toB, D.toL, D.toS, D.len, D.mapL, flatD, dE] at h4
  refine den_ite (fun h5 => ?_) (fun h5 => ?_)
  · simp only [E.den, D.toI, D.toB, D.toL, D.toS, D.len, D.mapL, flatD, dE] at h5
    have hi0 : i ≠ 0 := by omega
    refine den_ev (evs_ob (by simp only [E.den, D.toI, D.toB, D.toL, D.toS, D.len, D.mapL, flatD, dE]; omega) (evs_ob (by simp only [E.den, D.toI, D.toB, D.toL, D.toS, D.len, D.mapL, flatD, dE]; omega) (evs_ob (by simp only [E.den, D.toI, D.toB, D.toL, D.toS, D.len, D.mapL, flatD, dE]; rw [hw1 hi0]; omega) (evs_ob (by simp only [E.den, D.toI, D.toB, D.toL, D.toS, D.len, D.mapL, flatD, dE]; rw [hw1 hi0]; omega) (evs_nil ?_)))))
    refine den_ite (fun h6 => den_ret ?_) (fun h6 => ?_)
    · simp only [E.den, D.toI, D.toB, D.toL, D.toS, D.len, D.mapL, flatD, dE] at h6
      rw [hg, hw1 hi0, Int.toNat_natCast, hg1 hi0] at h6
      simp only [E.den, D.toI, D.toB, D.toL, D.toS, D.len, D.mapL, flatD, dE] at h6
      rw [s2 (by omega) (by rw [hb1 hi0]; exact h6)]
      simp only [E.den, D.toI, D.toB, D.toL, D.toS, D.len, D.mapL, flatD, dE]
      rfl
    · simp only [E.den, D.toI, D.toB, D.toL, D.toS, D.len, D.mapL, flatD, dE] at h6
      rw [hg, hw1 hi0, Int.toNat_natCast, hg1 hi0] at h6
      simp only [E.den, D.toI, D.toB, D.toL, D.toS, D.len, D.mapL, flatD, dE] at h6
      exact go (by omega) (by rw [hb1 hi0]; omega)
  · simp only [E.den, D.toI, D.toB, D.toL, D.toS, D.len, D.mapL, flatD, dE] at h5
    have := hb0 (by omega)
    exact go (by omega) (by omega)
/-! take -/
def preF (acc : List Fld) : Except Int (List Fld) → Except Int (List Fld)
  | .ok l => .ok (acc ++ l)
  | .error e => .error e
theorem preF_consF (acc : List Fld) (x : Fld) (r : Except Int (List Fld)) : preF acc (consF x r) = preF (acc ++ [x]) r := by cases r <;> simp [preF, consF]
def takeR : Except Int (List Fld) → List D
  | .ok l => [fsD l, I64d 0]
  | .error e => [.lst [], I64d e]
theorem takeG_nil (f : Nat) (b : Int) (c : Nat) : takeG f b c [] = .ok [] := by cases f <;> simp [takeG]
theorem takeG_step {f : Nat} {before : Int} {c : Nat} {b : List Int} (hb : b ≠ []) (hf : b.length ≤ f) : ∃ g, f = g + 1 ∧ takeG f before c b = if 256 ≤ c then .error 3 else match readS b with
    | .error e => .error e
    | .ok (t, r) => if ¬ (before < t ∧ t ≤ 1000) then .error 5 else match dataS r with
      | .error e => .error e
      | .ok (d, r2) => consF (t, d) (takeG g t (c + 1) r2) := by
  cases f with
  | zero => exact absurd (List.length_eq_zero_iff.1 (by omega)) hb
  | succ g =>
    refine ⟨g, rfl, ?_⟩
    simp only [takeG]
    rw [if_neg hb]
    rfl
def takeI (b : List Int) (xs : List D) : Prop := ∃ (rest : List Int) (acc : List Fld) (before : Int) (f : Nat), xs = [bD rest, fsD acc, I64d before] ∧ rest.length ≤ f ∧ takeF b = preF acc (takeG f before acc.length rest) ∧ isB rest ∧ rest.length ≤ b.length ∧ acc.length ≤ 256
def takeM (xs : List D) : Nat := (xs.getD 0 default).toL.length
theorem take_fn (b : List Int) (hb : isB b) (hl : b.length ≤ 4294967296) : Fun Try.prog [] 44 [tY] [bD b] [tF, tI] (.ok (takeR (takeF b))) := by
  refine take_ent _ _ ?_
  show vctake.den _ _ _ _ _
  unfold vctake
  refine den_loop (takeI b) takeM ⟨b, [], 0, b.length, rfl, by omega, ?_, hb, by omega, by simp⟩ ?_
  · unfold takeF
    cases takeG b.length 0 0 b <;> rfl
  simp only [AllSh]
  intro _ _ _ _ n _ _ ⟨rest, acc, before, f, he, hf, hF, hrB, hrl, hac⟩
  simp only [List.cons.injEq, D.int.injEq, D.lst.injEq, true_and, and_true] at he
  obtain ⟨rfl, rfl, rfl⟩ := he
  (try simp only [List.cons_append, List.nil_append])
  refine den_ite (fun h => ?_) (fun h => ?_)
  rotate_left
  · simp only [E.den, D.toI, D.toB, D.toL, D.toS, D.len, D.mapL, flatD, dE] at h
    have : rest = [] := List.length_eq_zero_iff.1 (by omega)
    subst this
    rw [takeG_nil] at hF
    refine den_ret ?_
    show FR.ok _ = FR.ok _
    rw [hF]
    simp only [E.den, D.toI, D.toB, D.toL, D.toS, D.len, D.mapL, flatD, dE]
    simp [preF, takeR]
  simp only [E.den, D.toI, D.toB, D.toL, D.toS, D.len, D.mapL, flatD, dE] at h
  have hne : rest ≠ [] := fun e => by subst e; simp at h
  obtain ⟨g, rfl, hstep⟩ := takeG_step (before := n) (c := acc.length) hne hf
  rw [hstep] at hF
  refine den_chk rfl (fun h1 => ?_) (fun h1 => ?_)
  rotate_left
  · simp only [E.den, D.toI, D.toB, D.toL, D.toS, D.len, D.mapL, flatD, dE] at h1
    rw [if_pos (by omega)] at hF
    exact ⟨rfl, 3, rfl, by rw [hF]; rfl⟩
  simp only [E.den, D.toI, D.toB, D.toL, D.toS, D.len, D.mapL, flatD, dE] at h1
  rw [if_neg (by omega)] at hF
  cases hr : readS rest with
  | error e =>
    rw [hr] at hF
    exact den_calP (int_pan hrB (by omega) hr) rfl ⟨rfl, e, rfl, by rw [hF]; rfl⟩
  | ok p =>
    obtain ⟨t, r⟩ := p
    rw [hr] at hF
    simp only [] at hF
    obtain ⟨_, _, hrB2, hrl2⟩ := put_read hrB hr
    refine den_cal [I64d t, bD r] rfl (int_ok hrB (by omega) hr) rfl rfl ?_
    (try simp only [List.cons_append, List.nil_append])
    have go : n < t → t ≤ 1000 → vctake_0.den Try.prog [] (KD 114 (.lst []) (.ok (takeR (takeF b)))) [⟨takeI b, takeM, rest.length⟩] [bD b, bD rest, fsD acc, I64d n, I64d t, bD r] := by
      intro k1 k2
      rw [if_neg (fun h => h ⟨k1, k2⟩)] at hF
      unfold vctake_0
      cases hd : dataS r with
      | error e =>
        rw [hd] at hF
        exact den_calP (dat_pan hrB2 (by omega) hd) rfl ⟨rfl, e, rfl, by rw [hF]; rfl⟩
      | ok p =>
        obtain ⟨d, r2⟩ := p
        rw [hd] at hF
        simp only [] at hF
        obtain ⟨_, _, hrB3, hrl3, _, _⟩ := put_data hrB2 hd
        refine den_cal [bD d, bD r2] rfl (dat_ok hrB2 (by omega) hd) rfl rfl ?_
        (try simp only [List.cons_append, List.nil_append])
        refine den_ev (evs_ob (by simp only [E.den, D.toI, D.toB, D.toL, D.toS, D.len, D.mapL, flatD, dE]; omega) (evs_nil ?_))
        refine den_back rfl ⟨r2, acc ++ [(t, d)], t, g, ?_, by omega, ?_, hrB3, by omega, by simp; omega⟩ ?_
        · simp only [E.den, D.toI, D.toB, D.toL, D.toS, D.len, D.mapL, flatD, dE]
          simp
        · rw [hF, preF_consF]
          simp
        · simp only [takeM]
          simp only [E.den, D.toI, D.toB, D.toL, D.toS, D.len, D.mapL, flatD, dE]
          omega
    refine den_ite (fun h2 => ?_) (fun h2 => ?_)
    · simp only [E.den, D.toI, D.toB, D.toL, D.toS, D.len, D.mapL, flatD, dE] at h2
      refine den_chk rfl (fun h3 => ?_) (fun h3 => ?_)
      · simp only [E.den, D.toI, D.toB, D.toL, D.toS, D.len, D.mapL, flatD, dE] at h3
        have := go (by omega) h3
        simp only [takeM, List.getD_cons_zero, D.toL, List.length_map]
        exact this
      · simp only [E.den, D.toI, D.toB, D.toL, D.toS, D.len, D.mapL, flatD, dE] at h3
        rw [if_pos (by omega)] at hF
        exact ⟨rfl, 5, rfl, by rw [hF]; rfl⟩
    · simp only [E.den, D.toI, D.toB, D.toL, D.toS, D.len, D.mapL, flatD, dE] at h2
      rw [if_pos (by omega)] at hF
      exact den_chk (b := false) rfl (fun h => by cases h) (fun _ => ⟨rfl, 5, rfl, by rw [hF]; rfl⟩)
def lastT (acc : List Fld) : Int := if acc = [] then 0 else (acc.getD (acc.length - 1) (0, [])).1
theorem lastT_app (acc : List Fld) (t : Int) (d : List Int) : lastT (acc ++ [(t, d)]) = t := by simp [lastT, List.getD_eq_getElem?_getD]
def rtakeI (b : List Int) (xs : List D) : Prop := ∃ (acc : List Fld) (z : List D) (e : Int) (a f : Nat), xs = [fsD acc, .lst z, I64d e, I64d a] ∧ a ≤ b.length ∧ b.length - a ≤ f ∧ takeF b = preF acc (takeG f (lastT acc) acc.length (b.drop a)) ∧ acc.length ≤ 256 ∧ 0 ≤ lastT acc
def rtakeM (b : List Int) (xs : List D) : Nat := b.length - (xs.getD 3 default).toI.toNat
theorem rtake_fn (b : List Int) (hb : isB b) (hl : b.length ≤ 4294967296) : Fun Try.prog [] 48 [tY] [bD b] [tF, tI] (.ok (takeR (takeF b))) := by
  refine rtake_ent _ _ ?_
  show vcrtake.den _ _ _ _ _
  unfold vcrtake
  refine den_loop (rtakeI b) (rtakeM b) ⟨[], [], 0, 0, b.length, rfl, by omega, by omega, ?_, by simp, by simp [lastT]⟩ ?_
  · unfold takeF
    simp only [lastT, List.drop_zero, List.length_nil, if_true]
    cases takeG b.length 0 0 b <;> rfl
  simp only [AllSh]
  intro _ _ z _ e _ _ n _ _ ⟨acc, z', e', a, f, he, ha, hf, hF, hac, hl0⟩
  simp only [List.cons.injEq, D.int.injEq, D.lst.injEq, true_and, and_true] at he
  obtain ⟨rfl, rfl, rfl, rfl⟩ := he
  (try simp only [List.cons_append, List.nil_append])
  refine den_ite (fun h => ?_) (fun h => ?_)
  rotate_left
  · simp only [E.den, D.toI, D.toB, D.toL, D.toS, D.len, D.mapL, flatD, dE] at h
    rw [List.drop_eq_nil_of_le (by omega), takeG_nil] at hF
    refine den_ret ?_
    rw [hF]
    simp only [E.den, D.toI, D.toB, D.toL, D.toS, D.len, D.mapL, flatD, dE]
    simp [preF, takeR]
  simp only [E.den, D.toI, D.toB, D.toL, D.toS, D.len, D.mapL, flatD, dE] at h
  have hB : isB (b.drop a) := fun x hx => hb x (List.mem_of_mem_drop hx)
  have hdl : (b.drop a).length = b.length - a := List.length_drop
  have hne : b.drop a ≠ [] := fun e => by rw [e] at hdl; simp at hdl; omega
  obtain ⟨g, rfl, hstep⟩ := takeG_step (f := f) (before := lastT acc) (c := acc.length) hne (by rw [hdl]; exact hf)
  rw [hstep] at hF
  refine den_ite (fun h1 => den_ret ?_) (fun h1 => ?_)
  · simp only [E.den, D.toI, D.toB, D.toL, D.toS, D.len, D.mapL, flatD, dE] at h1
    rw [if_pos (by omega)] at hF
    rw [hF]
    simp only [E.den, D.toI, D.toB, D.toL, D.toS, D.len, D.mapL, flatD, dE]
    rfl
  simp only [E.den, D.toI, D.toB, D.toL, D.toS, D.len, D.mapL, flatD, dE] at h1
  rw [if_neg (by omega)] at hF
  cases hr : readS (b.drop a) with
  | error e2 =>
    have he2 := read_err hr
    rw [hr] at hF
    refine den_cal [I64d 0, I64d 0, I64d e2] rfl (rread_er hb hl ha hr) rfl rfl ?_
    (try simp only [List.cons_append, List.nil_append])
    refine den_t (by simp only [E.den, D.toI, D.toB, D.toL, D.toS, D.len, D.mapL, flatD, dE]; omega) (den_ret ?_)
    rw [hF]
    simp only [E.den, D.toI, D.toB, D.toL, D.toS, D.len, D.mapL, flatD, dE]
    rfl
  | ok p =>
    obtain ⟨t, r⟩ := p
    rw [hr] at hF
    simp only [] at hF
    obtain ⟨c, hc, hac2, hcl, hfun⟩ := rread_ok hb hl ha hr
    refine den_cal [I64d t, I64d c, I64d 0] rfl hfun rfl rfl ?_
    (try simp only [List.cons_append, List.nil_append])
    refine den_f rfl ?_
    have bad : ¬ (lastT acc < t ∧ t ≤ 1000) → takeF b = .error 5 := fun h => by rw [if_pos h] at hF; exact hF
    have go : lastT acc < t → t ≤ 1000 → vcrtake_0.den Try.prog [] (fun r' => r' = .ok (takeR (takeF b))) [⟨rtakeI b, rtakeM b, b.length - a⟩] [bD b, fsD acc, .lst z, I64d e, I64d a, I64d t, I64d c, I64d 0] := by
      intro k1 k2
      rw [if_neg (fun h => h ⟨k1, k2⟩)] at hF
      unfold vcrtake_0
      rw [← hc] at hF
      cases hd : dataS (b.drop c) with
      | error e2 =>
        have he2 := data_err hd
        rw [hd] at hF
        refine den_cal [bD [], I64d 0, I64d e2] rfl (rbytes_er hb hl hcl hd) rfl rfl ?_
        (try simp only [List.cons_append, List.nil_append])
        refine den_t (by simp only [E.den, D.toI, D.toB, D.toL, D.toS, D.len, D.mapL, flatD, dE]; omega) (den_ret ?_)
        rw [hF]
        simp only [E.den, D.toI, D.toB, D.toL, D.toS, D.len, D.mapL, flatD, dE]
        rfl
      | ok p =>
        obtain ⟨d, r2⟩ := p
        rw [hd] at hF
        simp only [] at hF
        obtain ⟨c2, hc2, hcc, hcl2, hfun2⟩ := rbytes_ok hb hl hcl hd
        refine den_cal [bD d, I64d c2, I64d 0] rfl hfun2 rfl rfl ?_
        (try simp only [List.cons_append, List.nil_append])
        refine den_f rfl ?_
        refine den_ev (evs_ob (by simp only [E.den, D.toI, D.toB, D.toL, D.toS, D.len, D.mapL, flatD, dE]; omega) (evs_nil ?_))
        refine den_back rfl ⟨acc ++ [(t, d)], z, e, c2, g, ?_, hcl2, by omega, ?_, by simp; omega, by rw [lastT_app]; omega⟩ ?_
        · simp only [E.den, D.toI, D.toB, D.toL, D.toS, D.len, D.mapL, flatD, dE]
          simp
        · rw [hF, preF_consF, lastT_app, hc2]
          simp
        · simp only [rtakeM]
          simp only [E.den, D.toI, D.toB, D.toL, D.toS, D.len, D.mapL, flatD, dE]
          omega
    have l0 : acc = [] → lastT acc = 0 := fun h => by simp [lastT, h]
    refine den_ite (fun h2 => den_ret ?_) (fun h2 => ?_)
    · simp only [E.den, D.toI, D.toB, D.toL, D.toS, D.len, D.mapL, flatD, dE] at h2
      rw [bad (by omega)]
      simp only [E.den, D.toI, D.toB, D.toL, D.toS, D.len, D.mapL, flatD, dE]
      rfl
    simp only [E.den, D.toI, D.toB, D.toL, D.toS, D.len, D.mapL, flatD, dE] at h2
    refine den_ite (fun h3 => den_ret ?_) (fun h3 => ?_)
    · simp only [E.den, D.toI, D.toB, D.toL, D.toS, D.len, D.mapL, flatD, dE] at h3
      rw [bad (by omega)]
      simp only [E.den, D.toI, D.toB, D.toL, D.toS, D.len, D.mapL, flatD, dE]
      rfl
    simp only [E.den, D.toI, D.toB, D.toL, D.toS, D.len, D.mapL, flatD, dE] at h3
    refine den_ite (fun h4 => ?_) (fun h4 => ?_)
    · simp only [E.den, D.toI, D.toB, D.toL, D.toS, D.len, D.mapL, flatD, dE] at h4
      have hwl : IntKind.wrap .i64 ((acc.length : Int) - 1) = ((acc.length - 1 : Nat) : Int) := by rw [wrap_i64 (by omega) (by omega)]; omega
      have hgl : (acc.map fD).getD (acc.length - 1) default = fD (acc.getD (acc.length - 1) (0, [])) := get_F (by omega)
      have ln : lastT acc = (acc.getD (acc.length - 1) (0, [])).1 := by
        have : acc ≠ [] := fun e => by subst e; simp at h4
        simp [lastT, this]
      refine den_ev (evs_ob (by simp only [E.den, D.toI, D.toB, D.toL, D.toS, D.len, D.mapL, flatD, dE]; rw [hwl]; omega) (evs_ob (by simp only [E.den, D.toI, D.toB, D.toL, D.toS, D.len, D.mapL, flatD, dE]; rw [hwl]; omega) (evs_nil ?_)))
      refine den_ev (evs_ob (by simp only [E.den, D.toI, D.toB, D.toL, D.toS, D.len, D.mapL, flatD, dE]; rw [hwl]; omega) (evs_nil ?_))
      refine den_ite (fun h5 => den_ret ?_) (fun h5 => ?_)
      · simp only [E.den, D.toI, D.toB, D.toL, D.toS, D.len, D.mapL, flatD, dE] at h5
        rw [hwl, Int.toNat_natCast, hgl] at h5
        simp only [E.den, D.toI, D.toB, D.toL, D.toS, D.len, D.mapL, flatD, dE] at h5
        rw [bad (by omega)]
        simp only [E.den, D.toI, D.toB, D.toL, D.toS, D.len, D.mapL, flatD, dE]
        rfl
      · simp only [E.den, D.toI, D.toB, D.toL, D.toS, D.len, D.mapL, flatD, dE] at h5
        rw [hwl, Int.toNat_natCast, hgl] at h5
        simp only [E.den, D.toI, D.toB, D.toL, D.toS, D.len, D.mapL, flatD, dE] at h5
        exact go (by omega) (by omega)
    · simp only [E.den, D.toI, D.toB, D.toL, D.toS, D.len, D.mapL, flatD, dE] at h4
      have := l0 (List.length_eq_zero_iff.1 (by omega))
      exact go (by omega) (by omega)
/-! get -/
def getS (l : List Fld) (t : Int) : List Int × Bool := match l.find? (fun x => x.1 == t) with
  | some x => (x.2, true)
  | none => ([], false)
theorem getS_hit {l : List Fld} {t : Int} {i : Nat} (hi : i < l.length) (h : (l.getD i (0, [])).1 = t) : getS (l.drop i) t = ((l.getD i (0, [])).2, true) := by
  rw [drop_get (0, []) hi]
  simp [getS, List.find?_cons, -List.getD_eq_getElem?_getD, h]
theorem getS_miss {l : List Fld} {t : Int} {i : Nat} (hi : i < l.length) (h : (l.getD i (0, [])).1 ≠ t) : getS (l.drop i) t = getS (l.drop (i + 1)) t := by
  rw [drop_get (0, []) hi]
  simp only [getS, List.find?_cons]
  rw [show ((l.getD i (0, [])).1 == t) = false from beq_eq_false_iff_ne.2 h]
def getI (l : List Fld) (t : Int) (xs : List D) : Prop := ∃ (z : List D) (e : Bool) (i : Nat), xs = [.lst z, .bool e, I64d i] ∧ i ≤ l.length ∧ getS l t = getS (l.drop i) t
def getM (l : List Fld) (xs : List D) : Nat := l.length - (xs.getD 2 default).toI.toNat
theorem rget_fn (l : List Fld) (t : Int) (hl : l.length ≤ 4294967296) (hs : ∀ x ∈ l, x.2.length ≤ 1000000) : Fun Try.prog [] 90 [tF, tI] [fsD l, I64d t] [tY, tB] (.ok [bD (getS l t).1, .bool (getS l t).2]) := by
  refine rget_ent _ _ ?_
  show vcrget.den _ _ _ _ _
  unfold vcrget
  refine den_loop (getI l t) (getM l) ⟨[], false, 0, rfl, by omega, by simp⟩ ?_
  simp only [AllSh]
  intro z _ e n _ _ ⟨z', e', i, he, hi, hS⟩
  simp only [List.cons.injEq, D.int.injEq, D.lst.injEq, D.bool.injEq, true_and, and_true] at he
  obtain ⟨rfl, rfl, rfl⟩ := he
  (try simp only [List.cons_append, List.nil_append])
  refine den_ite (fun h => ?_) (fun h => ?_)
  · simp only [E.den, D.toI, D.toB, D.toL, D.toS, D.len, D.mapL, flatD, dE] at h
    have hi' : i < l.length := by omega
    have hg := get_F hi'
    have h1 := getS_hit (t := t) hi'
    have h2 := getS_miss (t := t) hi'
    generalize hx : l.getD i (0, []) = x at *
    obtain ⟨u, d⟩ := x
    simp only [] at *
    have hw : IntKind.wrap .i64 ((i : Int) + 1) = ((i + 1 : Nat) : Int) := by rw [wrap_i64 (by omega) (by omega)]; omega
    refine den_ev (evs_ob (by simp only [E.den, D.toI, D.toB, D.toL, D.toS, D.len, D.mapL, flatD, dE]; omega) (evs_ob (by simp only [E.den, D.toI, D.toB, D.toL, D.toS, D.len, D.mapL, flatD, dE]; omega) (evs_nil ?_)))
    refine den_ite (fun h3 => ?_) (fun h3 => ?_)
    · simp only [E.den, D.toI, D.toB, D.toL, D.toS, D.len, D.mapL, flatD, dE] at h3
      rw [hg] at h3
      simp only [E.den, D.toI, D.toB, D.toL, D.toS, D.len, D.mapL, flatD, dE] at h3
      refine den_ev (evs_ob (by simp only [E.den, D.toI, D.toB, D.toL, D.toS, D.len, D.mapL, flatD, dE]; omega) (evs_ob (by simp only [E.den, D.toI, D.toB, D.toL, D.toS, D.len, D.mapL, flatD, dE]; omega) (evs_nil ?_)))
      refine den_ret ?_
      rw [hS, h1 h3]
      simp only [E.den, D.toI, D.toB, D.toL, D.toS, D.len, D.mapL, flatD, dE]
      rw [hg]
      simp only [E.den, D.toI, D.toB, D.toL, D.toS, D.len, D.mapL, flatD, dE]
    · simp only [E.den, D.toI, D.toB, D.toL, D.toS, D.len, D.mapL, flatD, dE] at h3
      rw [hg] at h3
      simp only [E.den, D.toI, D.toB, D.toL, D.toS, D.len, D.mapL, flatD, dE] at h3
      refine den_back rfl ⟨z, e, i + 1, ?_, by omega, by rw [hS, h2 h3]⟩ ?_
      · simp only [E.den, D.toI, D.toB, D.toL, D.toS, D.len, D.mapL, flatD, dE]; rw [hw]
      · simp only [getM]; simp only [E.den, D.toI, D.toB, D.toL, D.toS, D.len, D.mapL, flatD, dE]; rw [hw]; omega
  · simp only [E.den, D.toI, D.toB, D.toL, D.toS, D.len, D.mapL, flatD, dE] at h
    rw [List.drop_eq_nil_of_le (by omega)] at hS
    refine den_ret ?_
    rw [hS]
    simp only [E.den, D.toI, D.toB, D.toL, D.toS, D.len, D.mapL, flatD, dE]
    rfl
/-! lists -/
theorem flat_next {l : List (List Int)} {i : Nat} (h : i < l.length) : (l.take (i + 1)).flatMap putD = (l.take i).flatMap putD ++ putD (l.getD i []) := by
  rw [take_get [] h]; simp
theorem flat_len {l : List (List Int)} (hs : ∀ x ∈ l, x.length ≤ 1000000) : ∀ {i : Nat}, i ≤ l.length → ((l.take i).flatMap putD).length ≤ i * 1000010
  | 0, _ => by simp
  | i + 1, h => by
    have := flat_len hs (i := i) (by omega)
    have hm := hs _ (mem_getD [] (show i < l.length by omega))
    have h3 := putS_len (l.getD i []).length
    have hpd : (putD (l.getD i [])).length = (putS (l.getD i []).length).length + (l.getD i []).length := by unfold putD; rw [List.length_append]
    rw [flat_next (by omega), List.length_append]
    omega
theorem putListS_over {l : List (List Int)} (h : 256 < l.length) : putListS l = .error 3 := by simp [putListS, h]
theorem putListS_in {l : List (List Int)} (h : l.length ≤ 256) : putListS l = .ok (putL l) := by simp [putListS]; omega
def putlI (l : List (List Int)) (xs : List D) : Prop := ∃ i : Nat, xs = [bD (putS l.length ++ (l.take i).flatMap putD), I64d i] ∧ i ≤ l.length
def putlM (l : List (List Int)) (xs : List D) : Nat := l.length - (xs.getD 1 default).toI.toNat
theorem putl_fn (l : List (List Int)) (hl : l.length ≤ 4294967296) (hs : ∀ x ∈ l, x.length ≤ 1000000) : Fun Try.prog [] 37 [tYY] [bbD l] [tY, tI] (.ok (putR (putListS l))) := by
  refine putl_ent _ _ ?_
  show vcputl.den _ _ _ _ _
  unfold vcputl
  refine den_ite (fun h => den_ret ?_) (fun h => ?_)
  · simp only [E.den, D.toI, D.toB, D.toL, D.toS, D.len, D.mapL, flatD, dE] at h
    simp only [E.den, D.toI, D.toB, D.toL, D.toS, D.len, D.mapL, flatD, dE]
    rw [putListS_over (by omega)]
    rfl
  simp only [E.den, D.toI, D.toB, D.toL, D.toS, D.len, D.mapL, flatD, dE] at h
  rw [putListS_in (by omega)]
  have hl1 := putS_len l.length
  refine den_cal [bD (putS l.length)] rfl (app_fn [] l.length (by unfold in64; omega) (by simp)) (by simp only [E.den, D.toI, D.toB, D.toL, D.toS, D.len, D.mapL, flatD, dE]; rfl) rfl ?_
  (try simp only [List.cons_append, List.nil_append])
  refine den_loop (putlI l) (putlM l) ⟨0, by simp only [E.den, D.toI, D.toB, D.toL, D.toS, D.len, D.mapL, flatD, dE]; simp, by omega⟩ ?_
  simp only [AllSh]
  intro _ _ n _ _ ⟨i, he, hi⟩
  simp only [List.cons.injEq, D.int.injEq, D.lst.injEq, true_and, and_true] at he
  obtain ⟨rfl, rfl⟩ := he
  (try simp only [List.cons_append, List.nil_append])
  refine den_ite (fun h2 => ?_) (fun h2 => ?_)
  · simp only [E.den, D.toI, D.toB, D.toL, D.toS, D.len, D.mapL, flatD, dE] at h2
    have hi' : i < l.length := by omega
    have hg := get_B hi'
    have hfl := flat_len hs hi
    have hfl2 := flat_len hs (i := i + 1) (by omega)
    have hfn := flat_next hi'
    have hm := hs _ (mem_getD [] hi')
    have h3 := putS_len (l.getD i []).length
    have hw : IntKind.wrap .i64 ((i : Int) + 1) = ((i + 1 : Nat) : Int) := by rw [wrap_i64 (by omega) (by omega)]; omega
    refine den_ev (evs_ob (by simp only [E.den, D.toI, D.toB, D.toL, D.toS, D.len, D.mapL, flatD, dE]; omega) (evs_ob (by simp only [E.den, D.toI, D.toB, D.toL, D.toS, D.len, D.mapL, flatD, dE]; omega) (evs_nil ?_)))
    refine den_cal [bD (putS l.length ++ (l.take i).flatMap putD ++ putS (l.getD i []).length)] rfl (app_fn _ (l.getD i []).length (by unfold in64; omega) (by simp only [List.length_append]; omega)) (by simp only [E.den, D.toI, D.toB, D.toL, D.toS, D.len, D.mapL, flatD, dE]; rw [hg]; simp only [E.den, D.toI, D.toB, D.toL, D.toS, D.len, D.mapL, flatD, dE]) rfl ?_
    (try simp only [List.cons_append, List.nil_append])
    refine den_ev (evs_ob (by simp only [E.den, D.toI, D.toB, D.toL, D.toS, D.len, D.mapL, flatD, dE]; rw [hg]; simp only [E.den, D.toI, D.toB, D.toL, D.toS, D.len, D.mapL, flatD, dE]; omega) (evs_nil ?_))
    refine den_back rfl ⟨i + 1, ?_, by omega⟩ ?_
    · simp only [E.den, D.toI, D.toB, D.toL, D.toS, D.len, D.mapL, flatD, dE]
      rw [hg, hfn]
      simp only [E.den, D.toI, D.toB, D.toL, D.toS, D.len, D.mapL, flatD, dE]
      rw [hw]
      simp [putD]
    · simp only [putlM]; simp only [E.den, D.toI, D.toB, D.toL, D.toS, D.len, D.mapL, flatD, dE]; rw [hw]; omega
  · simp only [E.den, D.toI, D.toB, D.toL, D.toS, D.len, D.mapL, flatD, dE] at h2
    have : i = l.length := by omega
    subst this
    refine den_ret ?_
    simp only [E.den, D.toI, D.toB, D.toL, D.toS, D.len, D.mapL, flatD, dE]
    rw [List.take_length]
    rfl
theorem rputl_fn (l : List (List Int)) (hl : l.length ≤ 4294967296) (hs : ∀ x ∈ l, x.length ≤ 1000000) : Fun Try.prog [] 41 [tYY] [bbD l] [tY, tI] (.ok (putR (putListS l))) := by
  refine rputl_ent _ _ ?_
  show vcrputl.den _ _ _ _ _
  unfold vcrputl
  refine den_ite (fun h => den_ret ?_) (fun h => ?_)
  · simp only [E.den, D.toI, D.toB, D.toL, D.toS, D.len, D.mapL, flatD, dE] at h
    simp only [E.den, D.toI, D.toB, D.toL, D.toS, D.len, D.mapL, flatD, dE]
    rw [putListS_over (by omega)]
    rfl
  simp only [E.den, D.toI, D.toB, D.toL, D.toS, D.len, D.mapL, flatD, dE] at h
  rw [putListS_in (by omega)]
  have hl1 := putS_len l.length
  refine den_cal [bD (putS l.length)] rfl (rputint_fn l.length (by unfold in64; omega)) (by simp only [E.den, D.toI, D.toB, D.toL, D.toS, D.len, D.mapL, flatD, dE]) rfl ?_
  (try simp only [List.cons_append, List.nil_append])
  refine den_loop (putlI l) (putlM l) ⟨0, by simp only [E.den, D.toI, D.toB, D.toL, D.toS, D.len, D.mapL, flatD, dE]; simp, by omega⟩ ?_
  simp only [AllSh]
  intro _ _ n _ _ ⟨i, he, hi⟩
  simp only [List.cons.injEq, D.int.injEq, D.lst.injEq, true_and, and_true] at he
  obtain ⟨rfl, rfl⟩ := he
  (try simp only [List.cons_append, List.nil_append])
  refine den_ite (fun h2 => ?_) (fun h2 => ?_)
  · simp only [E.den, D.toI, D.toB, D.toL, D.toS, D.len, D.mapL, flatD, dE] at h2
    have hi' : i < l.length := by omega
    have hg := get_B hi'
    have hfl := flat_len hs hi
    have hfn := flat_next hi'
    have hm := hs _ (mem_getD [] hi')
    have h3 := putS_len (l.getD i []).length
    have hw : IntKind.wrap .i64 ((i : Int) + 1) = ((i + 1 : Nat) : Int) := by rw [wrap_i64 (by omega) (by omega)]; omega
    refine den_ev (evs_ob (by simp only [E.den, D.toI, D.toB, D.toL, D.toS, D.len, D.mapL, flatD, dE]; omega) (evs_ob (by simp only [E.den, D.toI, D.toB, D.toL, D.toS, D.len, D.mapL, flatD, dE]; omega) (evs_nil ?_)))
    refine den_cal [bD (putS (l.getD i []).length)] rfl (rputint_fn (l.getD i []).length (by unfold in64; omega)) (by simp only [E.den, D.toI, D.toB, D.toL, D.toS, D.len, D.mapL, flatD, dE]; rw [hg]; simp only [E.den, D.toI, D.toB, D.toL, D.toS, D.len, D.mapL, flatD, dE]) rfl ?_
    (try simp only [List.cons_append, List.nil_append])
    refine den_ev (evs_ob (by simp only [E.den, D.toI, D.toB, D.toL, D.toS, D.len, D.mapL, flatD, dE]; omega) (evs_nil ?_))
    refine den_ev (evs_ob (by simp only [E.den, D.toI, D.toB, D.toL, D.toS, D.len, D.mapL, flatD, dE]; omega) (evs_ob (by simp only [E.den, D.toI, D.toB, D.toL, D.toS, D.len, D.mapL, flatD, dE]; omega) (evs_nil ?_)))
    refine den_ev (evs_ob (by simp only [E.den, D.toI, D.toB, D.toL, D.toS, D.len, D.mapL, flatD, dE]; rw [hg]; simp only [E.den, D.toI, D.toB, D.toL, D.toS, D.len, D.mapL, flatD, dE]; omega) (evs_nil ?_))
    refine den_back rfl ⟨i + 1, ?_, by omega⟩ ?_
    · simp only [E.den, D.toI, D.toB, D.toL, D.toS, D.len, D.mapL, flatD, dE]
      rw [hg, hfn]
      simp only [E.den, D.toI, D.toB, D.toL, D.toS, D.len, D.mapL, flatD, dE]
      rw [hw]
      simp [putD]
    · simp only [putlM]; simp only [E.den, D.toI, D.toB, D.toL, D.toS, D.len, D.mapL, flatD, dE]; rw [hw]; omega
  · simp only [E.den, D.toI, D.toB, D.toL, D.toS, D.len, D.mapL, flatD, dE] at h2
    have : i = l.length := by omega
    subst this
    refine den_ret ?_
    simp only [E.den, D.toI, D.toB, D.toL, D.toS, D.len, D.mapL, flatD, dE]
    rw [List.take_length]
    rfl
def preL (acc : List (List Int)) : Except Int (List (List Int) × List Int) → Except Int (List (List Int) × List Int)
  | .ok (l, r) => .ok (acc ++ l, r)
  | .error e => .error e
theorem preL_nil (x : Except Int (List (List Int) × List Int)) : preL [] x = x := by cases x <;> rfl
theorem preL_consL (acc : List (List Int)) (d : List Int) (x : Except Int (List (List Int) × List Int)) : preL acc (consL d x) = preL (acc ++ [d]) x := by
  cases x <;> simp [preL, consL]
def takeLR : Except Int (List (List Int)) → List D
  | .ok l => [bbD l, I64d 0]
  | .error e => [.lst [], I64d e]
def takelI (b : List Int) (n : Nat) (r : List Int) (xs : List D) : Prop := ∃ (rest : List Int) (acc : List (List Int)), xs = [bD rest, bbD acc, I64d acc.length] ∧ acc.length ≤ n ∧ takeN n r = preL acc (takeN (n - acc.length) rest) ∧ isB rest ∧ rest.length ≤ b.length
def takelM (n : Nat) (xs : List D) : Nat := n - (xs.getD 2 default).toI.toNat
theorem takel_fn (b : List Int) (hb : isB b) (hl : b.length ≤ 4294967296) : Fun Try.prog [] 46 [tY] [bD b] [tYY, tI] (.ok (takeLR (takeListS b))) := by
  refine takel_ent _ _ ?_
  show vctakel.den _ _ _ _ _
  unfold vctakel
  cases hr : readS b with
  | error e => exact den_calP (int_pan hb hl hr) rfl ⟨rfl, e, rfl, by simp [takeListS, hr, takeLR]⟩
  | ok p =>
    obtain ⟨n, r⟩ := p
    obtain ⟨_, _, hrB, hrl⟩ := put_read hb hr
    refine den_cal [I64d n, bD r] rfl (int_ok hb hl hr) rfl rfl ?_
    (try simp only [List.cons_append, List.nil_append])
    refine den_chk rfl (fun h1 => ?_) (fun h1 => ?_)
    rotate_left
    · simp only [E.den, D.toI, D.toB, D.toL, D.toS, D.len, D.mapL, flatD, dE] at h1
      exact ⟨rfl, 5, rfl, by simp [takeListS, hr, takeLR, show n < 0 by omega]⟩
    simp only [E.den, D.toI, D.toB, D.toL, D.toS, D.len, D.mapL, flatD, dE] at h1
    refine den_chk rfl (fun h2 => ?_) (fun h2 => ?_)
    rotate_left
    · simp only [E.den, D.toI, D.toB, D.toL, D.toS, D.len, D.mapL, flatD, dE] at h2
      exact ⟨rfl, 3, rfl, by simp [takeListS, hr, takeLR, show ¬ n < 0 by omega, show 256 < n by omega]⟩
    simp only [E.den, D.toI, D.toB, D.toL, D.toS, D.len, D.mapL, flatD, dE] at h2
    have hT : takeListS b = match takeN n.toNat r with
      | .error e => .error e
      | .ok (l, r2) => if r2 = [] then .ok l else .error 5 := by
      simp [takeListS, hr, show ¬ n < 0 by omega, show ¬ 256 < n by omega]
      rfl
    refine den_loop (takelI b n.toNat r) (takelM n.toNat) ⟨r, [], rfl, by simp, by rw [preL_nil]; rfl, hrB, by omega⟩ ?_
    simp only [AllSh]
    intro _ _ _ _ m _ _ ⟨rest, acc, he, hac, hN, hB, hrl2⟩
    simp only [List.cons.injEq, D.int.injEq, D.lst.injEq, true_and, and_true] at he
    obtain ⟨rfl, rfl, rfl⟩ := he
    (try simp only [List.cons_append, List.nil_append])
    refine den_ite (fun h3 => ?_) (fun h3 => ?_)
    · simp only [E.den, D.toI, D.toB, D.toL, D.toS, D.len, D.mapL, flatD, dE] at h3
      rw [show n.toNat - acc.length = (n.toNat - (acc.length + 1)) + 1 by omega, takeN] at hN
      have hw : IntKind.wrap .i64 ((acc.length : Int) + 1) = ((acc.length + 1 : Nat) : Int) := by rw [wrap_i64 (by omega) (by omega)]; omega
      cases hd : dataS rest with
      | error e =>
        rw [hd] at hN
        exact den_calP (dat_pan hB (by omega) hd) rfl ⟨rfl, e, rfl, by rw [hT, hN]; simp [preL, takeLR]⟩
      | ok p =>
        obtain ⟨d, r2⟩ := p
        rw [hd] at hN
        simp only [] at hN
        obtain ⟨_, _, hB3, hrl3, _, _⟩ := put_data hB hd
        refine den_cal [bD d, bD r2] rfl (dat_ok hB (by omega) hd) rfl rfl ?_
        (try simp only [List.cons_append, List.nil_append])
        refine den_ev (evs_ob (by simp only [E.den, D.toI, D.toB, D.toL, D.toS, D.len, D.mapL, flatD, dE]; omega) (evs_nil ?_))
        refine den_back rfl ⟨r2, acc ++ [d], ?_, by simp; omega, ?_, hB3, by omega⟩ ?_
        · simp only [E.den, D.toI, D.toB, D.toL, D.toS, D.len, D.mapL, flatD, dE]
          rw [hw]
          simp
        · rw [hN, preL_consL]
          simp
        · simp only [takelM]
          simp only [E.den, D.toI, D.toB, D.toL, D.toS, D.len, D.mapL, flatD, dE]
          rw [hw]
          omega
    · simp only [E.den, D.toI, D.toB, D.toL, D.toS, D.len, D.mapL, flatD, dE] at h3
      rw [show n.toNat - acc.length = 0 by omega, takeN] at hN
      refine den_chk rfl (fun h4 => ?_) (fun h4 => ?_)
      · simp only [E.den, D.toI, D.toB, D.toL, D.toS, D.len, D.mapL, flatD, dE] at h4
        have : rest = [] := List.length_eq_zero_iff.1 (by omega)
        subst this
        refine den_ret ?_
        show FR.ok _ = FR.ok _
        rw [hT, hN]
        simp only [E.den, D.toI, D.toB, D.toL, D.toS, D.len, D.mapL, flatD, dE]
        simp [preL, takeLR]
      · simp only [E.den, D.toI, D.toB, D.toL, D.toS, D.len, D.mapL, flatD, dE] at h4
        have : rest ≠ [] := fun e => by subst e; simp at h4
        exact ⟨rfl, 5, rfl, by rw [hT, hN]; simp [preL, takeLR, this]⟩
def rtakelI (b : List Int) (n : Nat) (r : List Int) (xs : List D) : Prop := ∃ (acc : List (List Int)) (z : List D) (e : Int) (a : Nat), xs = [bbD acc, .lst z, I64d e, I64d a, I64d acc.length] ∧ acc.length ≤ n ∧ a ≤ b.length ∧ takeN n r = preL acc (takeN (n - acc.length) (b.drop a))
def rtakelM (n : Nat) (xs : List D) : Nat := n - (xs.getD 4 default).toI.toNat
theorem rtakel_fn (b : List Int) (hb : isB b) (hl : b.length ≤ 4294967296) : Fun Try.prog [] 50 [tY] [bD b] [tYY, tI] (.ok (takeLR (takeListS b))) := by
  refine rtakel_ent _ _ ?_
  show vcrtakel.den _ _ _ _ _
  unfold vcrtakel
  cases hr : readS b with
  | error e =>
    have he := read_err hr
    refine den_cal [I64d 0, I64d 0, I64d e] rfl (rread_er (a := 0) hb hl (by omega) hr) rfl rfl ?_
    (try simp only [List.cons_append, List.nil_append])
    refine den_t (by simp only [E.den, D.toI, D.toB, D.toL, D.toS, D.len, D.mapL, flatD, dE]; omega) (den_ret ?_)
    simp only [E.den, D.toI, D.toB, D.toL, D.toS, D.len, D.mapL, flatD, dE]
    simp [takeListS, hr, takeLR]
  | ok p =>
    obtain ⟨n, r⟩ := p
    obtain ⟨c, hc, hac, hcl, hf⟩ := rread_ok (a := 0) hb hl (by omega) hr
    refine den_cal [I64d n, I64d c, I64d 0] rfl hf rfl rfl ?_
    (try simp only [List.cons_append, List.nil_append])
    refine den_f rfl ?_
    refine den_ite (fun h1 => den_ret ?_) (fun h1 => ?_)
    · simp only [E.den, D.toI, D.toB, D.toL, D.toS, D.len, D.mapL, flatD, dE] at h1
      simp only [E.den, D.toI, D.toB, D.toL, D.toS, D.len, D.mapL, flatD, dE]
      simp [takeListS, hr, takeLR, show n < 0 by omega]
    simp only [E.den, D.toI, D.toB, D.toL, D.toS, D.len, D.mapL, flatD, dE] at h1
    refine den_ite (fun h2 => den_ret ?_) (fun h2 => ?_)
    · simp only [E.den, D.toI, D.toB, D.toL, D.toS, D.len, D.mapL, flatD, dE] at h2
      simp only [E.den, D.toI, D.toB, D.toL, D.toS, D.len, D.mapL, flatD, dE]
      simp [takeListS, hr, takeLR, show ¬ n < 0 by omega, show 256 < n by omega]
    simp only [E.den, D.toI, D.toB, D.toL, D.toS, D.len, D.mapL, flatD, dE] at h2
    have hT : takeListS b = match takeN n.toNat r with
      | .error e => .error e
      | .ok (l, r2) => if r2 = [] then .ok l else .error 5 := by
      simp [takeListS, hr, show ¬ n < 0 by omega, show ¬ 256 < n by omega]
      rfl
    refine den_loop (rtakelI b n.toNat r) (rtakelM n.toNat) ⟨[], [], 0, c, rfl, by simp, hcl, by rw [preL_nil, hc]; rfl⟩ ?_
    simp only [AllSh]
    intro _ _ z _ e _ _ _ _ _ m _ _ ⟨acc, z', e', a, he, hac2, hal, hN⟩
    simp only [List.cons.injEq, D.int.injEq, D.lst.injEq, true_and, and_true] at he
    obtain ⟨rfl, rfl, rfl, rfl, rfl⟩ := he
    (try simp only [List.cons_append, List.nil_append])
    refine den_ite (fun h3 => ?_) (fun h3 => ?_)
    · simp only [E.den, D.toI, D.toB, D.toL, D.toS, D.len, D.mapL, flatD, dE] at h3
      rw [show n.toNat - acc.length = (n.toNat - (acc.length + 1)) + 1 by omega, takeN] at hN
      have hw : IntKind.wrap .i64 ((acc.length : Int) + 1) = ((acc.length + 1 : Nat) : Int) := by rw [wrap_i64 (by omega) (by omega)]; omega
      cases hd : dataS (b.drop a) with
      | error e2 =>
        have he2 := data_err hd
        rw [hd] at hN
        refine den_cal [bD [], I64d 0, I64d e2] rfl (rbytes_er hb hl hal hd) rfl rfl ?_
        (try simp only [List.cons_append, List.nil_append])
        refine den_t (by simp only [E.den, D.toI, D.toB, D.toL, D.toS, D.len, D.mapL, flatD, dE]; omega) (den_ret ?_)
        rw [hT, hN]
        simp only [E.den, D.toI, D.toB, D.toL, D.toS, D.len, D.mapL, flatD, dE]
        simp [preL, takeLR]
      | ok p =>
        obtain ⟨d, r2⟩ := p
        rw [hd] at hN
        simp only [] at hN
        obtain ⟨c2, hc2, hcc, hcl2, hfun2⟩ := rbytes_ok hb hl hal hd
        refine den_cal [bD d, I64d c2, I64d 0] rfl hfun2 rfl rfl ?_
        (try simp only [List.cons_append, List.nil_append])
        refine den_f rfl ?_
        refine den_ev (evs_ob (by simp only [E.den, D.toI, D.toB, D.toL, D.toS, D.len, D.mapL, flatD, dE]; omega) (evs_nil ?_))
        refine den_back rfl ⟨acc ++ [d], z, e, c2, ?_, by simp; omega, hcl2, ?_⟩ ?_
        · simp only [E.den, D.toI, D.toB, D.toL, D.toS, D.len, D.mapL, flatD, dE]
          rw [hw]
          simp
        · rw [hN, preL_consL, hc2]
          simp
        · simp only [rtakelM]
          simp only [E.den, D.toI, D.toB, D.toL, D.toS, D.len, D.mapL, flatD, dE]
          rw [hw]
          omega
    · simp only [E.den, D.toI, D.toB, D.toL, D.toS, D.len, D.mapL, flatD, dE] at h3
      rw [show n.toNat - acc.length = 0 by omega, takeN] at hN
      refine den_ite (fun h4 => den_ret ?_) (fun h4 => den_ret ?_)
      · simp only [E.den, D.toI, D.toB, D.toL, D.toS, D.len, D.mapL, flatD, dE] at h4
        have : b.drop a ≠ [] := fun e => by have := congrArg List.length e; rw [List.length_drop] at this; simp at this; omega
        rw [hT, hN]
        simp only [E.den, D.toI, D.toB, D.toL, D.toS, D.len, D.mapL, flatD, dE]
        simp only [preL, takeLR, this, if_false]
      · simp only [E.den, D.toI, D.toB, D.toL, D.toS, D.len, D.mapL, flatD, dE] at h4
        have : b.drop a = [] := List.drop_eq_nil_of_le (by omega)
        rw [hT, hN]
        simp only [E.den, D.toI, D.toB, D.toL, D.toS, D.len, D.mapL, flatD, dE]
        simp only [preL, takeLR, this, if_true, List.append_nil]
/-! the same -/
def samefI (a b : List Fld) (xs : List D) : Prop := ∃ (q : Bool) (i : Nat), xs = [.bool q, I64d i] ∧ i ≤ a.length ∧ a.take i = b.take i
def samelI (a b : List (List Int)) (xs : List D) : Prop := ∃ (q : Bool) (i : Nat), xs = [.bool q, I64d i] ∧ i ≤ a.length ∧ a.take i = b.take i
theorem len_max {n : Nat} (h : n ≤ maxLen) : n ≤ 9223372036854775807 := by unfold maxLen at h; omega
theorem typ_fields {d : D} (h : Typ (.lst [.int .i64, .lst [.int .u8]]) d) : ∃ l : List Fld, d = fsD l ∧ l.length ≤ maxLen ∧ ∀ x ∈ l, in64 x.1 ∧ isB x.2 ∧ x.2.length ≤ maxLen := by
  unfold Typ at h
  obtain ⟨l, rfl, hl, hx⟩ := h
  obtain ⟨L, rfl, hL⟩ := list_read (g := fD) (q := fun x => in64 x.1 ∧ isB x.2 ∧ x.2.length ≤ maxLen) (p := fun x => Typs [.int .i64, .lst [.int .u8]] (x.cells [.int .i64, .lst [.int .u8]])) (fun x hx => by
    unfold Typs at hx
    obtain ⟨d1, ds, e1, h1, hx⟩ := hx
    unfold Typs at hx
    obtain ⟨d2, ds2, e2, h2, hx⟩ := hx
    unfold Typs at hx
    subst hx e2
    obtain ⟨b, rfl, hbl, hb⟩ := typ_bytes h2
    unfold Typ at h1
    obtain ⟨n, rfl, n1, n2⟩ := h1
    cases x with
    | rc ds =>
      simp only [D.cells] at e1
      rw [if_neg (by decide)] at e1
      subst e1
      exact ⟨(n, b), rfl, ⟨n1, n2⟩, hb, hbl⟩
    | _ => simp [D.cells] at e1) l hx
  exact ⟨L, rfl, by simpa using hl, hL⟩
theorem fun_as {P : Program} {G : Globs} {f : FuncId} {ts us : List TS} {ds rs rs' : List D} (h : Fun P G f ts ds us (.ok rs)) (e : rs = rs') : Fun P G f ts ds us (.ok rs') := e ▸ h
theorem putG_isB : ∀ (l : List Fld) (before : Int) (b : List Int), (∀ x ∈ l, isB x.2) → (∀ x ∈ l, x.2.length ≤ 1000000) → putG before l = .ok b → isB b ∧ b.length ≤ l.length * 1000020
  | [], before, b, _, _, h => by cases h; exact ⟨isB.nil, by simp⟩
  | (t, d) :: l, before, b, hb, hs, h => by
    simp only [putG] at h
    split at h
    · cases h
    · split at h
      · cases h
      · rename_i h1 h2
        cases hp : putG t l with
        | error e => rw [hp] at h; cases h
        | ok b2 =>
          rw [hp] at h
          simp only [consA, Except.ok.injEq] at h
          subst h
          obtain ⟨g1, g2⟩ := putG_isB l t b2 (fun x hx => hb x (by simp [hx])) (fun x hx => hs x (by simp [hx])) hp
          have hd := hs (t, d) (by simp)
          simp only [] at hd
          have e1 := putS_len t
          have e2 := putS_len d.length
          refine ⟨((putS_isB (by unfold in64; omega)).join ((putS_isB (by unfold in64; omega)).join (hb (t, d) (by simp)))).join g1, ?_⟩
          have hpd : (putD d).length = (putS d.length).length + d.length := by unfold putD; rw [List.length_append]
          simp only [List.length_append, List.length_cons, hpd]
          omega
theorem putF_isB {l : List Fld} {b : List Int} (hb : ∀ x ∈ l, isB x.2) (hs : ∀ x ∈ l, x.2.length ≤ 1000000) (h : putF l = .ok b) : isB b ∧ b.length ≤ 256005120 ∧ putG 0 l = .ok b ∧ l.length ≤ 256 := by
  unfold putF at h
  split at h
  · cases h
  · obtain ⟨h1, h2⟩ := putG_isB l 0 b hb hs h
    exact ⟨h1, by omega, h, by omega⟩
theorem flat_isB {l : List (List Int)} (hb : ∀ x ∈ l, isB x) (hs : ∀ x ∈ l, x.length ≤ 1000000) : isB (l.flatMap putD) := by
  intro x hx
  obtain ⟨d, hd, hx⟩ := List.mem_flatMap.1 hx
  have := hs d hd
  exact ((putS_isB (n := d.length) (by unfold in64; omega)).join (hb d hd)) x hx
theorem putListS_isB {l : List (List Int)} {b : List Int} (hb : ∀ x ∈ l, isB x) (hs : ∀ x ∈ l, x.length ≤ 1000000) (h : putListS l = .ok b) : isB b ∧ b.length ≤ 256002570 ∧ b = putL l ∧ l.length ≤ 256 := by
  unfold putListS at h
  split at h
  · cases h
  · cases h
    have h1 := flat_len hs (Nat.le_refl l.length)
    rw [List.take_length] at h1
    have e := putS_len l.length
    refine ⟨(putS_isB (n := l.length) (by unfold in64; omega)).join (flat_isB hb hs), ?_, rfl, by omega⟩
    unfold putL
    rw [List.length_append]
    omega
end Go.Proofs.Ytmkkijgnlohieaa.L7
