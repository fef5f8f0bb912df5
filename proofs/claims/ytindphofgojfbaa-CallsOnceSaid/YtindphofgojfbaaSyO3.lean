/-
  A part of a symbolic walk that is proved sound: what the functions of a program do with data. No conditions.
-/
import Derived.Test.YtindphofgojfbaaSyE1
import Derived.LaidLaws
import Derived.ChangeArms
import Derived.OpenShut
set_option linter.unusedSimpArgs false
set_option linter.unusedVariables false
namespace Go.Proofs.Ytindphofgojfbaa.Sy
open Go.RowKit
abbrev tY : TS := .c (.lst [.int .u8])
abbrev tZ : TS := .c .str
abbrev U8d (n : Int) : D := .int .u8 n
theorem wrap_i64 {n : Int} (h1 : -9223372036854775808 ≤ n) (h2 : n ≤ 9223372036854775807) : IntKind.wrap .i64 n = n := by
  simp [IntKind.wrap, IntKind.bits, IntKind.signed, Int.bmod]
  omega
theorem min_i64 : IntKind.i64.min = -9223372036854775808 := by decide
theorem max_i64 : IntKind.i64.max = 9223372036854775807 := by decide
theorem min_u8 : IntKind.u8.min = 0 := by decide
theorem max_u8 : IntKind.u8.max = 255 := by decide
def inI (n : Int) : Prop := -9223372036854775808 ≤ n ∧ n ≤ 9223372036854775807
theorem typ_int {d : D} (h : Typ (.int .i64) d) : ∃ n, d = I64d n ∧ inI n := by
  unfold Typ at h
  obtain ⟨n, rfl, h1, h2⟩ := h
  rw [min_i64] at h1
  rw [max_i64] at h2
  exact ⟨n, rfl, h1, h2⟩
theorem list_read {α : Type} {g : α → D} {p : D → Prop} {q : α → Prop} (hg : ∀ d, p d → ∃ a, d = g a ∧ q a) : ∀ (l : List D), (∀ x ∈ l, p x) → ∃ L : List α, l = L.map g ∧ ∀ a ∈ L, q a
  | [], _ => ⟨[], rfl, fun a h => by cases h⟩
  | x :: l, h => by
    obtain ⟨a, rfl, ha⟩ := hg x (h x (by simp))
    obtain ⟨L, rfl, hL⟩ := list_read hg l fun y hy => h y (by simp [hy])
    exact ⟨a :: L, rfl, fun b hb => (List.mem_cons.1 hb).elim (fun e => by rw [e]; exact ha) (hL b)⟩
theorem typ_ints {d : D} (h : Typ (.lst [.int .i64]) d) : ∃ l : List Int, d = .lst (l.map I64d) ∧ l.length ≤ maxLen ∧ ∀ n ∈ l, inI n := by
  unfold Typ at h
  obtain ⟨l, rfl, hl, hx⟩ := h
  obtain ⟨L, rfl, hL⟩ := list_read (g := I64d) (q := inI) (p := fun d => Typ (.int .i64) d) (fun d hd => typ_int hd) l (fun x hm => by
    have := hx x hm
    rw [D.cells_one rfl] at this
    unfold Typs at this
    obtain ⟨d, ds, h1, h2, _⟩ := this
    cases h1
    exact h2)
  exact ⟨L, rfl, by simpa using hl, hL⟩

end Go.Proofs.Ytindphofgojfbaa.Sy
set_option linter.unusedSimpArgs false
set_option linter.unusedVariables false
namespace Go.Proofs.Ytindphofgojfbaa.Sy
open Go.RowKit Go.WideShapes Go.ChangeShapes
section
variable {P : Program} {W : World}
end

end Go.Proofs.Ytindphofgojfbaa.Sy
