/-
  Meters in plain Lean: what the functions of layer 19 compute.
-/
import Derived.Test.YtmkeigpbjdmghaaFrame
namespace Go.Proofs.Ytmkeigpbjdmghaa
def mokB (R M T G : Int) : Bool := !(M < 1000) && !(1099511627776 < M) && !(R < 0) && !(M ≤ R) && !(T < 0) && !(1000000 ≤ T) && !(G < -100000) && !(100000 < G)
def mvalI (R M T G : Int) : Int := if mokB R M T G then 0 else 1
def eokB (e : Int) : Bool := !(e < 0) && !(1099511627776 < e)
def chkI (R M T G n : Int) : Int := if mokB R M T G then (if eokB n then 0 else 2) else 1
/-- What a meter measures of an energy. -/
def msr (G n T : Int) : Int := n * (1000000 + G) + T
def cntR (R M T G n : Int) : Int := if chkI R M T G n = 0 then (R + msr G n T / 1000000) % M else R
def cntT (R M T G n : Int) : Int := if chkI R M T G n = 0 then msr G n T % 1000000 else T
def dltE (a b M : Int) : Int := if M < 1000 || 1099511627776 < M then 1 else if a < 0 || M ≤ a || b < 0 || M ≤ b then 2 else 0
def dltN (a b M : Int) : Int := if dltE a b M = 0 then (b - a + M) % M else 0
def bndLo (R M T G n : Int) : Int := if chkI R M T G n = 0 then msr G n 0 / 1000000 else 0
def bndHi (R M T G n : Int) : Int := if chkI R M T G n = 0 then (msr G n 999999) / 1000000 else 0

theorem mok_iff {R M T G : Int} : mokB R M T G = true ↔ (1000 ≤ M ∧ M ≤ 1099511627776 ∧ 0 ≤ R ∧ R < M ∧ 0 ≤ T ∧ T < 1000000 ∧ -100000 ≤ G ∧ G ≤ 100000) := by
  simp [mokB]
  omega
theorem eok_iff {e : Int} : eokB e = true ↔ (0 ≤ e ∧ e ≤ 1099511627776) := by simp [eokB]
theorem chk_ok {R M T G n : Int} : chkI R M T G n = 0 ↔ (mokB R M T G = true ∧ eokB n = true) := by
  unfold chkI
  cases mokB R M T G <;> cases eokB n <;> simp
theorem prod_bd {G e : Int} (h1 : -100000 ≤ G) (h2 : G ≤ 100000) (h3 : 0 ≤ e) (h4 : e ≤ 1099511627776) : 0 ≤ e * (1000000 + G) ∧ e * (1000000 + G) ≤ 1209462790553600000 := by
  constructor
  · exact Int.mul_nonneg h3 (by omega)
  · calc e * (1000000 + G) ≤ 1099511627776 * (1000000 + G) := Int.mul_le_mul_of_nonneg_right h4 (by omega)
      _ ≤ 1099511627776 * 1100000 := Int.mul_le_mul_of_nonneg_left (by omega) (by decide)
end Go.Proofs.Ytmkeigpbjdmghaa
