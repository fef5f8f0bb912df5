/-
  A part of a symbolic walk that is proved sound: what the functions of a program do with data. No conditions.
-/
import Derived.Test.YtindphofgojfbaaSyH
set_option linter.unusedSimpArgs false
set_option linter.unusedVariables false
namespace Go.Proofs.Ytindphofgojfbaa.Sy
open Go.RowKit
section
variable {η : Env} {M : Mem} {P : Program} {G : Globs} {w : World}

theorem abs_int {k : IntKind} {e : E} {v : Value} (h : AbsT η M (.c (.d (.int k) e)) v) : ∃ n, v = .int k n ∧ e.den η.ρ = .int k n ∧ k.min ≤ n ∧ n ≤ k.max := by
  have := AbsT_c h; simp only [AbsA] at this; rw [Rep_int] at this; exact this
theorem abs_bool {e : E} {v : Value} (h : AbsT η M (.c (.d .bool e)) v) : ∃ b, v = .bool b ∧ e.den η.ρ = .bool b := by
  have := AbsT_c h; simp only [AbsA] at this; rw [Rep_bool] at this; exact this
theorem abs_str {e : E} {v : Value} (h : AbsT η M (.c (.d .str e)) v) : ∃ s, v = .string s ∧ e.den η.ρ = .str s ∧ s.size ≤ maxLen := by
  have := AbsT_c h; simp only [AbsA] at this; rw [Rep_str] at this; exact this
theorem mk_int {k : IntKind} {e : E} {n : Int} (h : e.den η.ρ = .int k n) (h1 : k.min ≤ n) (h2 : n ≤ k.max) : AbsT η M (.c (.d (.int k) e)) (.int k n) :=
  AbsT_mk (by simp only [AbsA]; rw [Rep_int]; exact ⟨n, rfl, h, h1, h2⟩) rfl
theorem mk_bool {e : E} {b : Bool} (h : e.den η.ρ = .bool b) : AbsT η M (.c (.d .bool e)) (.bool b) :=
  AbsT_mk (by simp only [AbsA]; rw [Rep_bool]; exact ⟨b, rfl, h⟩) rfl
theorem mk_str {e : E} {s : ByteArray} (h : e.den η.ρ = .str s) (h1 : s.size ≤ maxLen) : AbsT η M (.c (.d .str e)) (.string s) :=
  AbsT_mk (by simp only [AbsA]; rw [Rep_str]; exact ⟨s, rfl, h, h1⟩) rfl

theorem obs_ok {e : E} (h : ∀ x ∈ obs e, EvOK P G η.ρ x) : e.den η.ρ = .bool true := by
  unfold obs at h
  split at h
  · rfl
  · exact h (.ob e) (by simp)

theorem tmod_range {k : IntKind} {x y : Int} (h1 : k.min ≤ x) (h2 : x ≤ k.max) : k.min ≤ x.tmod y ∧ x.tmod y ≤ k.max := by
  have hm : k.min ≤ 0 := by cases k <;> decide
  have hM : 0 ≤ k.max := by cases k <;> decide
  rcases Int.le_total 0 x with hx | hx
  · have a := Int.tmod_nonneg y hx
    have b : x.tmod y ≤ x := by
      have := Int.natAbs_tmod x y
      have h3 : (x.tmod y).natAbs ≤ x.natAbs := by rw [this]; exact Nat.mod_le _ _
      omega
    omega
  · have a : x.tmod y ≤ 0 := by
      have := Int.tmod_nonneg (a := -x) y (by omega)
      rw [Int.neg_tmod] at this; omega
    have b : x ≤ x.tmod y := by
      have := Int.natAbs_tmod x y
      have h3 : (x.tmod y).natAbs ≤ x.natAbs := by rw [this]; exact Nat.mod_le _ _
      omega
    omega
theorem fdiv_range {k : IntKind} {x : Int} {n : Nat} (h1 : k.min ≤ x) (h2 : x ≤ k.max) : k.min ≤ x.fdiv (2 ^ n) ∧ x.fdiv (2 ^ n) ≤ k.max := by
  have hm : k.min ≤ 0 := by cases k <;> decide
  have hM : 0 ≤ k.max := by cases k <;> decide
  have hp : (0 : Int) < 2 ^ n := Int.pow_pos (by decide)
  have e : x.fdiv (2 ^ n) = x / (2 ^ n) := Int.fdiv_eq_ediv_of_nonneg _ (by omega)
  rw [e]
  have hp1 : (1 : Int) ≤ 2 ^ n := by omega
  constructor
  · refine Int.le_ediv_of_mul_le hp ?_
    calc k.min * 2 ^ n ≤ k.min * 1 := Int.mul_le_mul_of_nonpos_left hm hp1
      _ ≤ x := by omega
  · rcases Int.le_total 0 x with hx | hx
    · exact Int.le_trans (Int.ediv_le_self _ hx) h2
    · have : x / 2 ^ n ≤ 0 := by
        have := Int.ediv_le_ediv hp hx
        simpa using this
      omega

theorem ar_run {op : BinOp} {k : IntKind} {x y : Int} (hop : op = .add ∨ op = .sub ∨ op = .mul ∨ op = .and ∨ op = .or ∨ op = .xor ∨ op = .andNot ∨ ((op = .quo ∨ op = .rem) ∧ y ≠ 0)) (xT : TypeId) (p q : Operand) :
    (do eqGuard op xT p q (.int k x) (.int k y); binOp op xT (.int k x) (.int k y) : Sem Value).run P w = .ok (.int k (arI op k x y)) w := by
  rcases hop with rfl | rfl | rfl | rfl | rfl | rfl | rfl | ⟨rfl | rfl, hy⟩ <;> simp [eqGuard, binOp, Op.intArith, Op.intBits, Op.intDiv, arI, *]
theorem ar_range {op : BinOp} {k : IntKind} {x y : Int} (h1 : k.min ≤ x) (h2 : x ≤ k.max) : k.min ≤ arI op k x y ∧ arI op k x y ≤ k.max := by
  have hm : k.min ≤ 0 := by cases k <;> decide
  have hM : 0 ≤ k.max := by cases k <;> decide
  cases op <;> simp only [arI] <;> first | exact wrap_within _ _ | exact tmod_range h1 h2 | exact ⟨hm, hM⟩
theorem cmp_run {op : BinOp} {k : IntKind} {x y : Int} (hop : op = .eql ∨ op = .neq ∨ op = .lss ∨ op = .leq ∨ op = .gtr ∨ op = .geq) (xT : TypeId) (p q : Operand) :
    (do eqGuard op xT p q (.int k x) (.int k y); binOp op xT (.int k x) (.int k y) : Sem Value).run P w = .ok (.bool (cmpB op x y)) w := by
  rcases hop with rfl | rfl | rfl | rfl | rfl | rfl <;> simp [eqGuard, binOp, Op.intCmp, cmpB]
theorem shf_run {op : BinOp} {k k' : IntKind} {x y : Int} (hop : op = .shl ∨ op = .shr) (hy : 0 ≤ y) (xT : TypeId) (p q : Operand) :
    (do eqGuard op xT p q (.int k x) (.int k' y); binOp op xT (.int k x) (.int k' y) : Sem Value).run P w = .ok (.int k (shI op k x y)) w := by
  have hy' : ¬ y < 0 := by omega
  rcases hop with rfl | rfl <;> simp [eqGuard, binOp, Op.shift, shI, hy']
end

end Go.Proofs.Ytindphofgojfbaa.Sy
