/-
  A part of a symbolic walk that is proved sound: what the functions of a program do with data. No conditions.
-/
import Derived.Test.YtfhdgaecclfccaaGreatSyE1
set_option linter.unusedSimpArgs false
set_option linter.unusedVariables false
namespace Go.Proofs.YtfhdgaecclfccaaGreat.Sy
open Go.RowKit
abbrev tL : TS := .c (.lst [.int .i64])
abbrev tY : TS := .c (.lst [.int .u8])
abbrev tZ : TS := .c .str
abbrev U8d (n : Int) : D := .int .u8 n
theorem wrap_i64 {n : Int} (h1 : -9223372036854775808 ≤ n) (h2 : n ≤ 9223372036854775807) : IntKind.wrap .i64 n = n := by
  simp [IntKind.wrap, IntKind.bits, IntKind.signed, Int.bmod]
  omega
theorem min_i64 : IntKind.i64.min = -9223372036854775808 := by decide
theorem max_i64 : IntKind.i64.max = 9223372036854775807 := by decide
theorem min_u8 : IntKind.u8.min = 0 := by decide
theorem max_u8 : IntKind.u8.max = 255 := by decide
def inI (n : Int) : Prop := -9223372036854775808 ≤ n ∧ n ≤ 9223372036854775807
theorem typ_int {d : D} (h : Typ (.int .i64) d) : ∃ n, d = I64d n ∧ inI n := by
  unfold Typ at h
  obtain ⟨n, rfl, h1, h2⟩ := h
  rw [min_i64] at h1
  rw [max_i64] at h2
  exact ⟨n, rfl, h1, h2⟩
theorem typ_bool {d : D} (h : Typ .bool d) : ∃ b, d = .bool b := by unfold Typ at h; exact h
theorem typ_str {d : D} (h : Typ .str d) : ∃ s, d = .str s ∧ s.size ≤ maxLen := by unfold Typ at h; exact h
theorem list_read {α : Type} {g : α → D} {p : D → Prop} {q : α → Prop} (hg : ∀ d, p d → ∃ a, d = g a ∧ q a) : ∀ (l : List D), (∀ x ∈ l, p x) → ∃ L : List α, l = L.map g ∧ ∀ a ∈ L, q a
  | [], _ => ⟨[], rfl, fun a h => by cases h⟩
  | x :: l, h => by
    obtain ⟨a, rfl, ha⟩ := hg x (h x (by simp))
    obtain ⟨L, rfl, hL⟩ := list_read hg l fun y hy => h y (by simp [hy])
    exact ⟨a :: L, rfl, fun b hb => (List.mem_cons.1 hb).elim (fun e => by rw [e]; exact ha) (hL b)⟩
end Go.Proofs.YtfhdgaecclfccaaGreat.Sy
