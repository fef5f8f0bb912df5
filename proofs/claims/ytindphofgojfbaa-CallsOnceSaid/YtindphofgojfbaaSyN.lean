/-
  A part of a symbolic walk that is proved sound: what the functions of a program do with data. No conditions.
-/
import Derived.Test.YtindphofgojfbaaSyM
set_option linter.unusedSimpArgs false
set_option linter.unusedVariables false
namespace Go.Proofs.Ytindphofgojfbaa.Sy
open Go.RowKit
section
variable {Z : Base} {η : Env} {M : Mem} {blks : List Blk} {w : World} {P : Program} {G : Globs}

def GoodRow (M : Mem) (es : List Sh) (xs : List D) (vs : List Value) : Prop :=
  ∀ (i : Nat) (x : D), xs[i]? = some x → RepCells M es (fun o => vs[i * es.length + o]?) 0 (x.cells es)

theorem D.cells_rc {es : List Sh} (h : es.length ≠ 1) (ds : List D) : (D.rc ds).cells es = ds := by simp [D.cells, h]
theorem D.cells_one {es : List Sh} (h : es.length = 1) (x : D) : x.cells es = [x] := by simp [D.cells, h]

theorem GoodRow.set {es : List Sh} {xs : List D} {vs : List Value} (h : GoodRow M es xs vs) {m o : Nat} {s : Sh} {v : Value} {d : D} (hm : m < xs.length) (hs : es[o]? = some s) (hr : Rep M s v d) (hv : xs.length * es.length ≤ vs.length) :
    GoodRow M es (if es.length = 1 then xs.set m d else xs.modify m (D.setc o d)) (vs.set (m * es.length + o) v) := by
  have ho : o < es.length := (List.getElem?_eq_some_iff.1 hs).1
  have hmo : m * es.length + o < vs.length := by
    have : m * es.length + es.length ≤ xs.length * es.length := by
      have : (m + 1) * es.length ≤ xs.length * es.length := Nat.mul_le_mul_right _ hm
      rw [Nat.add_mul] at this; omega
    omega
  intro i x hx
  by_cases e : i = m
  · subst e
    have hx0 : xs[i]? = some xs[i] := List.getElem?_eq_getElem hm
    have h0 := h i _ hx0
    by_cases h1 : es.length = 1
    · have ho0 : o = 0 := by omega
      subst ho0
      rw [if_pos h1] at hx
      rw [List.getElem?_set, if_pos rfl, if_pos hm] at hx
      cases hx
      rw [D.cells_one h1]
      refine RepCells.mk (by simp [h1]) fun j s' hj => ?_
      have : j < es.length := (List.getElem?_eq_some_iff.1 hj).1
      have hj0 : j = 0 := by omega
      subst hj0
      rw [hs] at hj; cases hj
      exact ⟨v, d, rfl, by show (vs.set _ v)[_]? = _; rw [List.getElem?_set, if_pos (by omega), if_pos hmo], hr⟩
    · rw [if_neg h1] at hx
      rw [List.getElem?_modify, hx0] at hx
      simp at hx
      have hl := h0.length
      cases hxi : xs[i] with
      | rc ds =>
        rw [hxi] at hx h0 hl
        rw [D.cells_rc h1] at h0 hl
        simp [D.setc] at hx
        subst hx
        rw [D.cells_rc h1]
        refine RepCells.mk (by simp [hl]) fun j s' hj => ?_
        have hjl : j < es.length := (List.getElem?_eq_some_iff.1 hj).1
        by_cases ej : j = o
        · subst ej
          rw [hs] at hj; cases hj
          exact ⟨v, d, by rw [List.getElem?_set, if_pos rfl, if_pos (by omega)], by show (vs.set _ v)[_]? = _; rw [List.getElem?_set, if_pos (by omega), if_pos hmo], hr⟩
        · obtain ⟨u, du, g1, g2, g3⟩ := h0.get j s' hj
          refine ⟨u, du, by rw [List.getElem?_set, if_neg (fun h => ej h.symm)]; exact g1, ?_, g3⟩
          show (vs.set _ v)[_]? = _
          rw [List.getElem?_set, if_neg (by omega)]
          exact g2
      | _ => rw [hxi] at hl; simp [D.cells, h1] at hl; omega
  · have hx' : xs[i]? = some x := by
      split at hx
      · rw [List.getElem?_set, if_neg (fun h => e h.symm)] at hx; exact hx
      · rw [List.getElem?_modify] at hx
        have e' : ¬ m = i := fun h => e h.symm
        simpa [e'] using hx
    have h0 := h i x hx'
    refine RepCells.mk h0.length fun j s' hj => ?_
    obtain ⟨u, du, g1, g2, g3⟩ := h0.get j s' hj
    refine ⟨u, du, g1, ?_, g3⟩
    have hjl : j < es.length := (List.getElem?_eq_some_iff.1 hj).1
    show (vs.set _ v)[_]? = _
    rw [List.getElem?_set, if_neg ?_]
    · exact g2
    · intro hh
      have hd : (m * es.length + o) / es.length = (i * es.length + (0 + j)) / es.length := by rw [hh]
      rw [Nat.mul_comm, Nat.mul_add_div (by omega), Nat.mul_comm i, Nat.mul_add_div (by omega), Nat.div_eq_of_lt ho, Nat.div_eq_of_lt (by omega)] at hd
      omega

theorem setEs_sound {es : List Sh} : ∀ (xs : List E) (us : List Value) (l i : E) (o m : Nat) (ds : List D) (vs : List Value), (i.den η.ρ).toI = (m : Int) → l.den η.ρ = .lst ds → m < ds.length → ds.length * es.length ≤ vs.length → GoodRow M es ds vs → us.length = xs.length → o + xs.length ≤ es.length →
    (∀ (k : Nat) (s : Sh) (e : E), es[o + k]? = some s → xs[k]? = some e → ∃ v, us[k]? = some v ∧ Rep M s v (e.den η.ρ)) →
    ∃ ds', (setEs es l i o xs).den η.ρ = .lst ds' ∧ ds'.length = ds.length ∧ GoodRow M es ds' (setVs vs (m * es.length + o) us)
  | [], us, l, i, o, m, ds, vs, hi, hl, hm, hv, hg, hu, ho, hr => by
    have : us = [] := List.length_eq_zero_iff.1 (by simpa using hu)
    subst this
    exact ⟨ds, hl, rfl, hg⟩
  | e :: xs, us, l, i, o, m, ds, vs, hi, hl, hm, hv, hg, hu, ho, hr => by
    cases us with
    | nil => simp at hu
    | cons u us =>
      simp only [List.length_cons] at hu ho
      obtain ⟨v, hv1, hv2⟩ := hr 0 _ e (List.getElem?_eq_getElem (by omega : o + 0 < es.length)) rfl
      simp at hv1
      subst hv1
      have hs : es[o]? = some es[o] := List.getElem?_eq_getElem (by omega)
      have g := hg.set (m := m) (o := o) hm hs hv2 hv
      simp only [setEs, setVs]
      have hden : (if es.length = 1 then E.set l i e else E.setc l i o e).den η.ρ = .lst (if es.length = 1 then ds.set m (e.den η.ρ) else ds.modify m (D.setc o (e.den η.ρ))) := by
        split <;> simp [E.den, hl, hi, D.mapL]
      obtain ⟨ds', h1, h2, h3⟩ := setEs_sound xs us _ i (o + 1) m _ _ hi hden (by split <;> simpa using hm) (by split <;> simpa using hv) g (by omega) (by omega) (fun k s e' hs' he' => by
        have := hr (k + 1) s e' (by rw [← hs']; congr 1; omega) (by simpa using he')
        simpa using this)
      refine ⟨ds', h1, by rw [h2]; split <;> simp, h3⟩

theorem storeA_sound {T : TypeId} {p : A} {x : TV} {u : List (Nat × Blk)} {evs : List Ev} {v pv : Value} (h : storeA P (fun j => blks.getD j .dead) T p x = some (u, evs)) (hu : ∃ d, P.underlying T = some d) (hw : WR Z η M blks w)
    (hp : AbsA η M p pv) (hx : AbsT η M x v) (hev : ∀ e ∈ evs, EvOK P G η.ρ e) :
    ∃ w' j B, u = [(j, B)] ∧ (Instr.storeAt T pv v).run P w = .ok () w' ∧ WR Z η M (blks.set j B) w' := by
  unfold storeA at h
  split at h
  · cases h
  · rename_i as has
    have hc := as_cells has hx
    have hlen : v.cells.size = as.length := by have := hc.length; simpa using this
    split at h
    · cases h
    · rename_i hsz
      have hsz' : as.length = sizeT P T := by simpa using hsz
      split at h
      · rename_i j o
        obtain ⟨b, c, hal, rfl⟩ := hp
        split at h
        · rename_i l hB
          have hj := getD_some hB (by simp)
          obtain ⟨b', c', vs, T', h1, h0, h2, h3, h4, h5⟩ := hw.blk j _ hj
          rw [hal] at h1; cases h1
          split at h
          · rename_i hlo
            cases h
            have hl4 := h4.length
            obtain ⟨w', g1, g2, g3, g4, g5, g6, g7⟩ := run_storeAt (P := P) (x := v) (o := o) hu (by omega) hc.one h3 (by omega)
            refine ⟨w', j, _, rfl, g1, hw.update hj (by simp) hal (by omega) g4 g5 g6 g7 g3 (Mem.le.refl _) (fun _ _ _ => rfl) (fun o' v' hv' => by rw [h5] at hv'; cases hv') ?_ (by simp)⟩
            exact ⟨b, c, _, T', hal, h0, h2, g2, h4.setAs o hc, h5⟩
          · cases h
        · cases h
      · rename_i j sz i o
        obtain ⟨b, c, m, hal, hi, rfl⟩ := hp
        split at h
        · rename_i es l hB
          have hj := getD_some hB (by simp)
          obtain ⟨b', c', xs, h1, h2, h3, h4, h5⟩ := hw.blk j _ hj
          rw [hal] at h1; cases h1
          split at h
          · rename_i hcond
            simp only [Bool.and_eq_true, decide_eq_true_eq] at hcond
            obtain ⟨hsz2, hoe⟩ := hcond
            subst hsz2
            split at h
            · rename_i ex hex
              cases h
              have hm : m < xs.length := by
                have := obs_ok hev
                rw [den_mkCmp] at this
                simp [E.den, den_lenE, hi, h2, D.len, cmpB] at this
                simp [D.toI] at this
                exact this
              have hc0 : 0 < c := by omega
              obtain ⟨k1, vs, T', k2, k3, k4, k5, k6⟩ := h5 hc0
              obtain ⟨r1, r2, r3⟩ := dataAs_rep hex hc
              have hvs : xs.length * es.length ≤ vs.length := by rw [k3]; exact Nat.mul_le_mul_right _ h3
              have hroom : m * es.length + o + as.length ≤ vs.length := by
                have : (m + 1) * es.length ≤ xs.length * es.length := Nat.mul_le_mul_right _ hm
                rw [Nat.add_mul] at this; omega
              have rr1 : v.cells.toList.length = as.length := hc.length
              have rr2 : ex.length = as.length := by rw [r2, ← r1, rr1]
              obtain ⟨ds', d1, d2, d3⟩ := setEs_sound (M := M) ex v.cells.toList l i o m xs vs hi h2 hm hvs k5 (by omega) (by omega) (fun k s e hs he => r3 k s e (by
                have hk : k < as.length := by rw [← rr2]; exact (List.getElem?_eq_some_iff.1 he).1
                simp [List.getElem?_take, hk, List.getElem?_drop]; exact hs) he)
              obtain ⟨w', g1, g2, g3, g4, g5, g6, g7⟩ := run_storeAt (P := P) (x := v) (o := m * es.length + o) hu (by omega) hc.one k2 (by omega)
              refine ⟨w', j, _, rfl, g1, hw.update hj (by simp) hal hc0 g4 g5 g6 g7 g3 (Mem.le.refl _) (fun _ _ _ => rfl) (fun o' v' hv' => by rw [k6] at hv'; simp at hv') ?_ (by simp)⟩
              exact ⟨b, c, ds', hal, d1, by omega, h4, fun _ => ⟨k1, _, T', g2, by rw [setVs_length]; exact k3, setVs_one _ _ _ k4 hc.one, d3, fun o' => by rw [k6]; simp⟩⟩
            · cases h
          · cases h
        · cases h
      · cases h
end

end Go.Proofs.Ytindphofgojfbaa.Sy
