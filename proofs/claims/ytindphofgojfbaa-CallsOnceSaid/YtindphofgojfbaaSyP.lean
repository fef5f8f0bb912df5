/-
  A part of a symbolic walk that is proved sound: what the functions of a program do with data. No conditions.
-/
import Derived.Test.YtindphofgojfbaaSyO
set_option linter.unusedSimpArgs false
set_option linter.unusedVariables false
namespace Go.Proofs.Ytindphofgojfbaa.Sy
open Go.RowKit
def applyU (blks : List Blk) (u : List (Nat × Blk)) : List Blk := u.foldl (fun b p => b.set p.1 p.2) blks

section
variable {Z : Base} {η : Env} {M : Mem} {blks : List Blk} {w : World} {P : Program} {G : Globs}

theorem freezeAll : ∀ (js : List Nat) (blks0 : List Blk) {M : Mem} {blks : List Blk}, WR Z η M blks w → (∀ j ∈ js, ∃ es l fr, blks0.getD j .dead = .row es l fr ∧ (blks[j]? = some (.row es l fr) ∨ blks[j]? = some (.row es l true))) →
    ∃ M', M.le M' ∧ WR Z η M' (applyU blks (js.map fun j => (j, frozenB (blks0.getD j .dead)))) w ∧
      (∀ j ∈ js, ∃ es l fr, blks0.getD j .dead = .row es l fr ∧ (applyU blks (js.map fun j => (j, frozenB (blks0.getD j .dead))))[j]? = some (.row es l true))
  | [], blks0, M, blks, h, _ => ⟨M, Mem.le.refl _, h, fun j hj => by cases hj⟩
  | j :: js, blks0, M, blks, h, hj => by
    obtain ⟨es, l, fr, e1, e2⟩ := hj j (by simp)
    have step : ∃ M', M.le M' ∧ WR Z η M' (blks.set j (.row es l true)) w := by
      rcases e2 with e2 | e2
      · exact h.freeze e2
      · exact h.freeze e2
    obtain ⟨M1, l1, h1⟩ := step
    have hlt : j < blks.length := by
      rcases e2 with e2 | e2 <;> exact (List.getElem?_eq_some_iff.1 e2).1
    have hj' : ∀ i ∈ js, ∃ es' l' fr', blks0.getD i .dead = .row es' l' fr' ∧ ((blks.set j (.row es l true))[i]? = some (.row es' l' fr') ∨ (blks.set j (.row es l true))[i]? = some (.row es' l' true)) := by
      intro i hi
      obtain ⟨es', l', fr', e3, e4⟩ := hj i (by simp [hi])
      refine ⟨es', l', fr', e3, ?_⟩
      rw [List.getElem?_set]
      by_cases e : j = i
      · subst e
        rw [e1] at e3
        cases e3
        rw [if_pos rfl, if_pos hlt]
        exact .inr rfl
      · rw [if_neg e]; exact e4
    obtain ⟨M2, l2, h2, h3⟩ := freezeAll js blks0 h1 hj'
    have hf : frozenB (blks0.getD j .dead) = .row es l true := by rw [e1]; rfl
    have heq : applyU blks ((j :: js).map fun j => (j, frozenB (blks0.getD j .dead))) = applyU (blks.set j (.row es l true)) (js.map fun j => (j, frozenB (blks0.getD j .dead))) := by
      simp only [applyU, List.map_cons, List.foldl_cons, hf]
    rw [heq]
    refine ⟨M2, l1.trans l2, h2, fun i hi => ?_⟩
    rcases List.mem_cons.1 hi with rfl | hi
    · by_cases hmem : i ∈ js
      · exact h3 i hmem
      · refine ⟨es, l, fr, e1, ?_⟩
        have key : ∀ (js : List Nat) (b : List Blk), i ∉ js → (applyU b (js.map fun j => (j, frozenB (blks0.getD j .dead))))[i]? = b[i]? := by
          intro js
          induction js with
          | nil => intro b _; rfl
          | cons k ks ih =>
            intro b hk
            simp only [List.mem_cons, not_or] at hk
            simp only [applyU, List.map_cons, List.foldl_cons] at ih ⊢
            rw [ih _ hk.2, List.getElem?_set, if_neg (fun e => hk.1 e.symm)]
        rw [key js _ hmem, List.getElem?_set, if_pos rfl, if_pos hlt]
    · exact h3 i hi

theorem toD_sound (h : WR Z η M blks w) {blks0 : List Blk} {a : A} {s : Sh} {e : E} {v : Value} (ht : a.toD (fun j => blks0.getD j .dead) = some (s, e)) (hr : ∀ j ∈ a.rows, ∃ es l fr, blks0.getD j .dead = .row es l fr ∧ blks[j]? = some (.row es l true)) (ha : AbsA η M a v) : Rep M s v (e.den η.ρ) := by
  unfold A.toD at ht
  split at ht
  · cases ht; exact ha
  · cases ht
    exact nil_rep ha
  · rename_i j es n
    obtain ⟨es1, l1, fr1, g1, g2⟩ := hr j (by simp [A.rows])
    split at ht
    · rename_i es' l fr hB
      have hB' : blks0.getD j .dead = .row es' l fr := hB
      rw [g1] at hB'
      cases hB'
      split at ht
      · rename_i hc
        simp only [Bool.and_eq_true] at hc
        obtain ⟨hc1, hc2⟩ := hc
        replace hc2 := E.same_eq _ _ hc2
        have := Sh.sames_eq _ _ hc1
        subst this
        cases ht
        obtain ⟨b, c, m, h1, h2, h3, h4, h5⟩ := ha
        obtain ⟨b', c', xs, k1, k2, k3, k4, k5⟩ := h.blk j _ g2
        rw [h1] at k1
        cases k1
        have hm : m = xs.length := by
          rw [← hc2, den_lenE] at h2
          simp [E.den, k2, D.len] at h2
          omega
        subst hm
        rw [Rep_lst]
        refine ⟨xs, k2, by omega, ?_⟩
        rcases h5 with ⟨hc0, rfl⟩ | ⟨hc0, h5⟩
        · obtain ⟨q1, vs, T, q2, q3, q4, q5, q6⟩ := k5 hc0
          refine .inr ⟨b, 0, none, c, rfl, fun _ => rfl, h3, h4, fun i x hx => ?_⟩
          have hi : i < xs.length := (List.getElem?_eq_some_iff.1 hx).1
          have := q5 i x hx
          refine RepCells.mk this.length fun j s hj => ?_
          obtain ⟨u, d, r1, r2, r3⟩ := this.get j s hj
          refine ⟨u, d, r1, ?_, r3⟩
          have hjl : j < es.length := (List.getElem?_eq_some_iff.1 hj).1
          have hlt : i * es.length + j < xs.length * es.length := by
            have : (i + 1) * es.length ≤ xs.length * es.length := Nat.mul_le_mul_right _ hi
            rw [Nat.add_mul] at this; omega
          show M b (0 + i * es.length + (0 + j)) = some u
          rw [q6, if_pos ⟨rfl, by omega⟩]
          rw [← r2]; congr 1; omega
        · have hx0 : xs = [] := List.length_eq_zero_iff.1 (by omega)
          subst hx0
          have := nil_rep (M := M) (es := es) h5
          rw [Rep_lst] at this
          obtain ⟨l, e, _, h6⟩ := this
          cases e
          exact h6
      · cases ht
    · cases ht
  · cases ht
theorem toDs_sound (h : WR Z η M blks w) {blks0 : List Blk} : ∀ (l : List A) (ps : List (Sh × E)) (vs : List Value), l.mapM (A.toD (fun j => blks0.getD j .dead)) = some ps → (∀ j ∈ l.flatMap A.rows, ∃ es l fr, blks0.getD j .dead = .row es l fr ∧ blks[j]? = some (.row es l true)) → AbsL η M l vs →
    vs.length = (ps.map (·.1)).length ∧ RepCells M (ps.map (·.1)) (fun o => vs[o]?) 0 (ps.map fun p => p.2.den η.ρ)
  | [], ps, vs, hp, _, hv => by
    cases hv
    simp at hp
    subst hp
    exact ⟨rfl, by rw [List.map_nil, RepCells_nil]; rfl⟩
  | a :: l, ps, vs, hp, hr, hv => by
    cases hv with
    | cons h1 h2 h3 =>
      rw [List.mapM_cons] at hp
      cases ha : a.toD (fun j => blks0.getD j .dead) with
      | none => rw [ha] at hp; simp at hp
      | some p =>
        rw [ha] at hp
        simp only [Option.bind_eq_bind, Option.bind_some, Option.bind_eq_some_iff] at hp
        obtain ⟨ps', hps, he⟩ := hp
        simp at he
        subst he
        obtain ⟨g1, g2⟩ := toDs_sound h l ps' _ hps (fun j hj => hr j (by simp only [List.flatMap_cons, List.mem_append]; exact .inr hj)) h3
        obtain ⟨s, e⟩ := p
        have hrep := toD_sound h ha (fun j hj => hr j (by simp only [List.flatMap_cons, List.mem_append]; exact .inl hj)) h1
        refine ⟨by simp [g1], ?_⟩
        refine RepCells.mk (by simp) fun j s' hj => ?_
        cases j with
        | zero => simp at hj; subst hj; exact ⟨_, _, rfl, rfl, hrep⟩
        | succ j =>
          obtain ⟨u, d, r1, r2, r3⟩ := g2.get j s' (by simpa using hj)
          refine ⟨u, d, by simpa using r1, ?_, r3⟩
          show (_ :: _)[0 + (j + 1)]? = _
          rw [show 0 + (j + 1) = j + 1 by omega, List.getElem?_cons_succ]
          rw [← r2]; congr 1; omega
theorem consE_map (ps : List (Sh × E)) (ρ : List D) : (consE (ps.map (·.2))).den ρ = .lst (ps.map fun p => p.2.den ρ) := by
  rw [consE_den, List.map_map]; rfl
theorem varsA_abs : ∀ (l : List Sh) (n : Nat) (vs : List Value), vs.length = l.length → RepCells M l (fun o => vs[o]?) 0 ((η.ρ.drop n).take l.length) → AbsL η M (varsA n l) vs
  | [], n, vs, hl, _ => by
    have : vs = [] := List.length_eq_zero_iff.1 (by simpa using hl)
    subst this; exact .nil
  | s :: l, n, vs, hl, h => by
    cases vs with
    | nil => simp at hl
    | cons v vs =>
      obtain ⟨u, d, g1, g2, g3⟩ := h.get 0 s rfl
      simp at g2
      subst g2
      have hd : d = (E.v n).den η.ρ := by
        simp only [List.getElem?_take, List.length_cons, Nat.zero_lt_succ, if_true, List.getElem?_drop, Nat.add_zero] at g1
        simp [E.den, g1]
      refine .cons (by simp only [AbsA]; rw [← hd]; exact g3) g3.one (varsA_abs l (n + 1) vs (by simpa using hl) ?_)
      have hlen := h.length
      refine RepCells.mk ?_ fun j s' hj => ?_
      · simp at hlen ⊢; omega
      · obtain ⟨u', d', r1, r2, r3⟩ := h.get (j + 1) s' (by simpa using hj)
        refine ⟨u', d', ?_, ?_, r3⟩
        · have hj' : j < l.length := (List.getElem?_eq_some_iff.1 hj).1
          simp only [List.getElem?_take, List.getElem?_drop, List.length_cons] at r1 ⊢
          rw [if_pos (by omega)] at r1 ⊢
          rw [← r1]; congr 1; omega
        · have : (v :: vs)[0 + (j + 1)]? = some u' := r2
          rw [show 0 + (j + 1) = j + 1 by omega, List.getElem?_cons_succ] at this
          show vs[0 + j]? = _
          rw [← this]; congr 1; omega
end

end Go.Proofs.Ytindphofgojfbaa.Sy
