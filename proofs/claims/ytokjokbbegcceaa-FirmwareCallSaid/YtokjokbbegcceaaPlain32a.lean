/-
  Plain facts on Schedule, Cancel.
-/
import Derived.Test.YtokjokbbegcceaaSpec32
import Derived.WalkLawsBesides
namespace Go.Proofs.Ytokjokbbegcceaa
open Go.RowKit

theorem sch_bad {s v t d tr ver due otr : Int} (h : ¬ (1 ≤ ver ∧ ver ≤ 2147483647 ∧ 0 ≤ due ∧ due ≤ 268435456 ∧ 0 ≤ otr ∧ otr ≤ 10)) : schE ⟨s, v, t, d, tr⟩ ver due otr = 2 ∧ sch ⟨s, v, t, d, tr⟩ ver due otr = ⟨s, v, t, d, tr⟩ := by
  have e : schE ⟨s, v, t, d, tr⟩ ver due otr = 2 := by unfold schE; rw [if_pos (by simp; omega)]
  exact ⟨e, by unfold sch; rw [e]; rfl⟩
theorem sch_uw {s v t d tr ver due otr : Int} (h : 1 ≤ ver ∧ ver ≤ 2147483647 ∧ 0 ≤ due ∧ due ≤ 268435456 ∧ 0 ≤ otr ∧ otr ≤ 10) (hu : uwB s = true) : schE ⟨s, v, t, d, tr⟩ ver due otr = 10 ∧ sch ⟨s, v, t, d, tr⟩ ver due otr = ⟨s, v, t, d, tr⟩ := by
  have e : schE ⟨s, v, t, d, tr⟩ ver due otr = 10 := by unfold schE; rw [if_neg (by simp; omega), if_pos hu]
  exact ⟨e, by unfold sch; rw [e]; rfl⟩
theorem sch_same {s v t d tr ver due otr : Int} (h : 1 ≤ ver ∧ ver ≤ 2147483647 ∧ 0 ≤ due ∧ due ≤ 268435456 ∧ 0 ≤ otr ∧ otr ≤ 10) (hu : uwB s = false) (hv : (ver == v) = true) : schE ⟨s, v, t, d, tr⟩ ver due otr = 9 ∧ sch ⟨s, v, t, d, tr⟩ ver due otr = ⟨s, v, t, d, tr⟩ := by
  have e : schE ⟨s, v, t, d, tr⟩ ver due otr = 9 := by unfold schE; rw [if_neg (by simp; omega), if_neg (by rw [hu]; decide), if_pos hv]
  exact ⟨e, by unfold sch; rw [e]; rfl⟩
theorem sch_ok {s v t d tr ver due otr : Int} (h : 1 ≤ ver ∧ ver ≤ 2147483647 ∧ 0 ≤ due ∧ due ≤ 268435456 ∧ 0 ≤ otr ∧ otr ≤ 10) (hu : uwB s = false) (hv : (ver == v) = false) : schE ⟨s, v, t, d, tr⟩ ver due otr = 0 ∧ sch ⟨s, v, t, d, tr⟩ ver due otr = ⟨1, v, ver, due, otr⟩ := by
  have e : schE ⟨s, v, t, d, tr⟩ ver due otr = 0 := by unfold schE; rw [if_neg (by simp; omega), if_neg (by rw [hu]; decide), if_neg (by rw [hv]; decide)]
  exact ⟨e, by unfold sch; rw [e]; rfl⟩
end Go.Proofs.Ytokjokbbegcceaa
