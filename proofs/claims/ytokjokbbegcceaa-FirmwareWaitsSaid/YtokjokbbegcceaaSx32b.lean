/-
  Updates of firmware: plain facts.
-/
import Derived.Test.YtokjokbbegcceaaSx32a
set_option maxRecDepth 100000
namespace Go.Proofs.Ytokjokbbegcceaa
open Go.Proofs.Ytokjokbbegcceaa.Sx
theorem fval0 (f : Fw) : fvalI f = 0 ↔ (0 ≤ f.s ∧ f.s ≤ 6 ∧ 0 ≤ f.v ∧ f.v ≤ 2147483647 ∧ 0 ≤ f.t ∧ f.t ≤ 2147483647 ∧ 0 ≤ f.d ∧ f.d ≤ 268435456 ∧ 0 ≤ f.tr ∧ f.tr ≤ 10 ∧ (f.s = 0 → f.t = 0 ∧ f.d = 0 ∧ f.tr = 0) ∧ (f.s ≠ 0 → f.t ≠ 0 ∧ (f.t = f.v ↔ f.s = 5))) := by
  obtain ⟨s, v, t, d, tr⟩ := f
  unfold fvalI
  simp only []
  split
  · rename_i h
    simp at h
    simp
    omega
  · rename_i h
    simp at h
    by_cases h0 : s = 0
    · subst h0
      simp
      by_cases h1 : t = 0 ∧ d = 0 ∧ tr = 0
      · obtain ⟨rfl, rfl, rfl⟩ := h1; simp; omega
      · omega
    · have e0 : (s == 0) = false := by simp [h0]
      rw [e0]
      simp only [Bool.false_eq_true, if_false]
      by_cases h1 : t = 0
      · subst h1; simp; omega
      · have e1 : (t == 0) = false := by simp [h1]
        rw [e1]
        simp only [Bool.false_eq_true, if_false]
        by_cases h2 : t = v <;> by_cases h3 : s = 5
        · have e2 : (t == v) = true := by simp [h2]
          have e3 : (s == 5) = true := by simp [h3]
          rw [e2, e3]; simp [h2, h3]; omega
        · have e2 : (t == v) = true := by simp [h2]
          have e3 : (s == 5) = false := by simp [h3]
          rw [e2, e3]; simp [h2, h3, h0]
        · have e2 : (t == v) = false := by simp [h2]
          have e3 : (s == 5) = true := by simp [h3]
          rw [e2, e3]; simp [h2, h3]
        · have e2 : (t == v) = false := by simp [h2]
          have e3 : (s == 5) = false := by simp [h3]
          rw [e2, e3]; simp [h2, h3, h0, h1]; omega
theorem wrap1 {n : Int} (h1 : 0 ≤ n) (h2 : n ≤ 10) : IntKind.wrap .i64 (n - 1) = n - 1 := by
  have := Go.RowKit.wrap64
  simp [IntKind.wrap, IntKind.bits, IntKind.signed, Int.bmod]
  omega
theorem step_facts (f : Fw) (now : Int) (idle good : Bool) (hf : fvalI f = 0) : fvalI (stepX f now idle good) = 0 ∧ (f.s = 4 → (stepX f now idle good).s = 5 → (stepX f now idle good).v = f.t) ∧ (¬ (f.s = 4 ∧ (stepX f now idle good).s = 5) → (stepX f now idle good).v = f.v) := by
  rw [fval0] at hf ⊢
  obtain ⟨s, v, t, d, tr⟩ := f
  simp only at hf
  have hw := wrap1 (n := tr) (by omega) (by omega)
  unfold stepX
  simp only [hw, beq_iff_eq]
  (repeat' split) <;> simp <;> omega
theorem sch_facts (f : Fw) (ver due tr : Int) (hf : fvalI f = 0) : fvalI (sch f ver due tr) = 0 ∧ (schE f ver due tr ≠ 0 → sch f ver due tr = f) ∧ (sch f ver due tr).v = f.v ∧ (schE f ver due tr = 0 → sch f ver due tr = ⟨1, f.v, ver, due, tr⟩ ∧ 1 ≤ ver ∧ ver ≤ 2147483647 ∧ 0 ≤ due ∧ due ≤ 268435456 ∧ 0 ≤ tr ∧ tr ≤ 10 ∧ ver ≠ f.v) := by
  by_cases h0 : schE f ver due tr = 0
  · have e : sch f ver due tr = ⟨1, f.v, ver, due, tr⟩ := by unfold sch; rw [h0]; rfl
    have h1 : 1 ≤ ver ∧ ver ≤ 2147483647 ∧ 0 ≤ due ∧ due ≤ 268435456 ∧ 0 ≤ tr ∧ tr ≤ 10 ∧ ver ≠ f.v := by
      unfold schE at h0
      split at h0
      · cases h0
      · rename_i hr
        split at h0
        · cases h0
        · split at h0
          · cases h0
          · rename_i hv
            simp at hr hv
            omega
    rw [e]
    rw [fval0] at hf ⊢
    refine ⟨?_, fun h => absurd h0 h, rfl, fun _ => ⟨rfl, h1⟩⟩
    simp only
    omega
  · have e : sch f ver due tr = f := by unfold sch; rw [if_neg (by simpa using h0)]
    rw [e]
    exact ⟨hf, fun _ => rfl, rfl, fun h => absurd h h0⟩
theorem can_facts (f : Fw) (hf : fvalI f = 0) : fvalI (can f) = 0 ∧ (canE f ≠ 0 → can f = f) ∧ (can f).v = f.v := by
  by_cases h0 : canE f = 0
  · have e : can f = ⟨0, f.v, 0, 0, 0⟩ := by unfold can; rw [h0]; rfl
    rw [e]
    rw [fval0] at hf ⊢
    refine ⟨?_, fun h => absurd h0 h, rfl⟩
    simp
    omega
  · have e : can f = f := by unfold can; rw [if_neg (by simpa using h0)]
    rw [e]
    exact ⟨hf, fun _ => rfl, rfl⟩
theorem call_facts (f : Fw) (x : FOp) (hf : fvalI f = 0) : fvalI (callX f x) = 0 ∧ (callXE f x ≠ 0 → callX f x = f) ∧ (x.k = 2 → callXB f x = ((callX f x).s != f.s)) ∧ (x.k = 2 → f.s = 4 → (callX f x).s = 5 → (callX f x).v = f.t) ∧ (¬ (x.k = 2 ∧ f.s = 4 ∧ (callX f x).s = 5) → (callX f x).v = f.v) := by
  unfold callX callXE callXB
  by_cases h1 : x.k = 1
  · have := sch_facts f x.ver x.due x.tr hf
    simp [h1]
    exact ⟨this.1, this.2.1, this.2.2.1⟩
  · by_cases h2 : x.k = 2
    · have := step_facts f x.now x.idle x.good hf
      simp [h2]
      exact ⟨this.1, this.2.1, fun h => this.2.2 (by simpa using h)⟩
    · by_cases h3 : x.k = 3
      · have := can_facts f hf
        simp [h3]
        exact ⟨this.1, this.2.1, this.2.2⟩
      · simp [h1, h2, h3, hf]
end Go.Proofs.Ytokjokbbegcceaa
