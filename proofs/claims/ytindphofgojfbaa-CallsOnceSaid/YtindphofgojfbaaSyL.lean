/-
  A part of a symbolic walk that is proved sound: what the functions of a program do with data. No conditions.
-/
import Derived.Test.YtindphofgojfbaaSyK
set_option linter.unusedSimpArgs false
set_option linter.unusedVariables false
namespace Go.Proofs.Ytindphofgojfbaa.Sy
open Go.RowKit
theorem add_mk (b o i : Nat) : (⟨b, o, none⟩ : Addr).add i = ⟨b, o + i, none⟩ := by
  unfold Addr.add; split
  · rename_i h; subst h; rfl
  · rfl
section
variable {P : Program} {G : Globs}
theorem run_load1 {w : World} {b o : Nat} {v : Value} (h : w.cell? ⟨b, o, none⟩ = some v) : (load ⟨b, o, none⟩).run P w = .ok v w := by
  rw [run_load, h]
theorem run_loadCellsFrom {w : World} {b o : Nat} : ∀ (vs : List Value) (i : Nat) (acc : Array Value), (∀ k v, vs[k]? = some v → w.cell? ⟨b, o + i + k, none⟩ = some v) →
    (loadCellsFrom ⟨b, o, none⟩ i vs.length acc).run P w = .ok (acc ++ vs.toArray) w
  | [], i, acc, _ => by simp [loadCellsFrom]
  | v :: vs, i, acc, h => by
    have h0 := h 0 v rfl
    simp only [List.length_cons, loadCellsFrom, Sem.run_bind, add_mk]
    rw [run_load1 (by simpa using h0)]
    simp only [Result.andThen_ok]
    rw [run_loadCellsFrom vs (i + 1) (acc.push v) (fun k u hk => by have := h (k + 1) u (by simpa using hk); rw [← this]; congr 2; omega)]
    congr 1
    apply Array.ext'
    simp
theorem run_loadCells {w : World} {b o : Nat} {vs : List Value} {n : Nat} (hn : vs.length = n) (h : ∀ k v, vs[k]? = some v → w.cell? ⟨b, o + k, none⟩ = some v) :
    (loadCells ⟨b, o, none⟩ n).run P w = .ok vs.toArray w := by
  subst hn
  unfold loadCells
  rw [run_loadCellsFrom vs 0 #[] (by simpa using h)]
  simp
theorem run_isAgg {w : World} {T : TypeId} (h : ∃ d, P.underlying T = some d) : (isAgg T).run P w = .ok (aggB P T) w := by
  obtain ⟨d, hd⟩ := h
  cases d <;> simp [isAgg, run_underlying hd, aggB, hd]
theorem run_sizeT {w : World} {T : TypeId} (h : ∃ d, P.underlying T = some d) : (sizeOf T).run P w = .ok (sizeT P T) w := by
  obtain ⟨d, hd⟩ := h
  obtain ⟨i, hi⟩ := info_of_under hd
  simp [sizeOf, typeInfo, hi, sizeT, Program.cellsOf]
theorem run_loadAt_agg {w : World} {T : TypeId} {b o : Nat} {vs : List Value} (hT : aggB P T = true) (hn : vs.length = sizeT P T) (h : ∀ k v, vs[k]? = some v → w.cell? ⟨b, o + k, none⟩ = some v) :
    (Instr.loadAt T (.pointer (some ⟨b, o, none⟩))).run P w = .ok (.agg vs.toArray) w := by
  simp only [Instr.loadAt, Instr.sureAddr, Sem.run_bind, Sem.run_pure, Result.andThen_ok, loadVar, run_isAgg (under_of_agg hT), hT, if_true, run_sizeT (under_of_agg hT), run_loadCells hn h]
theorem run_loadAt_one {w : World} {T : TypeId} {b o : Nat} {v : Value} (hT : aggB P T = false) (hu : ∃ d, P.underlying T = some d) (h : w.cell? ⟨b, o, none⟩ = some v) :
    (Instr.loadAt T (.pointer (some ⟨b, o, none⟩))).run P w = .ok v w := by
  simp only [Instr.loadAt, Instr.sureAddr, Sem.run_bind, Sem.run_pure, Result.andThen_ok, loadVar, run_isAgg hu, hT, Bool.false_eq_true, if_false, run_load1 h]
end

section
variable {Z : Base} {η : Env} {M : Mem} {blks : List Blk} {w : World} {P : Program} {G : Globs}

theorem getD_some {l : List Blk} {j : Nat} {B : Blk} (h : l.getD j .dead = B) (hne : B ≠ .dead) : l[j]? = some B := by
  rw [List.getD_eq_getElem?_getD] at h
  cases hj : l[j]? with
  | none => rw [hj] at h; simp at h; exact absurd h.symm hne
  | some C => rw [hj] at h; simp at h; rw [h]

theorem RepCells.list {es : List Sh} {rd : Nat → Option Value} {ds : List D} (h : RepCells M es rd 0 ds) (o n : Nat) (hn : o + n ≤ es.length) :
    ∃ vs : List Value, vs.length = n ∧ (∀ k v, vs[k]? = some v → rd (o + k) = some v) ∧ ∀ k s v, es[o + k]? = some s → vs[k]? = some v → ∃ d, ds[o + k]? = some d ∧ Rep M s v d := by
  induction n with
  | zero => exact ⟨[], rfl, fun k v hv => by simp at hv, fun k s v _ hv => by simp at hv⟩
  | succ n ih =>
    obtain ⟨vs, h1, h2, h3⟩ := ih (by omega)
    have hs : o + n < es.length := by omega
    obtain ⟨v, d, g1, g2, g3⟩ := h.get (o + n) es[o + n] (List.getElem?_eq_getElem hs)
    refine ⟨vs ++ [v], by simp [h1], fun k u hu => ?_, fun k s u hs0 hu => ?_⟩
    · rw [List.getElem?_append] at hu
      split at hu
      · exact h2 k u hu
      · rename_i hk
        have : k = n := by
          rcases Nat.lt_or_ge (k - vs.length) 1 with hh | hh
          · omega
          · rw [List.getElem?_eq_none (by simpa using hh)] at hu; cases hu
        subst this
        simp [h1] at hu
        subst hu
        simpa using g2
    · rw [List.getElem?_append] at hu
      split at hu
      · exact h3 k s u hs0 hu
      · rename_i hk
        have : k = n := by
          rcases Nat.lt_or_ge (k - vs.length) 1 with hh | hh
          · omega
          · rw [List.getElem?_eq_none (by simpa using hh)] at hu; cases hu
        subst this
        simp [h1] at hu
        subst hu
        rw [List.getElem?_eq_getElem (by omega)] at hs0
        cases hs0
        exact ⟨d, g1, g3⟩

theorem AbsL.mk' : ∀ {l : List A} {vs : List Value}, vs.length = l.length → (∀ (k : Nat) (a : A) (v : Value), l[k]? = some a → vs[k]? = some v → AbsA η M a v ∧ One v) → AbsL η M l vs
  | [], [], _, _ => .nil
  | a :: l, v :: vs, hl, h => .cons (h 0 a v rfl rfl).1 (h 0 a v rfl rfl).2 (AbsL.mk' (by simpa using hl) fun k a v ha hv => h (k + 1) a v (by simpa using ha) (by simpa using hv))
  | [], _ :: _, hl, _ => by simp at hl
  | _ :: _, [], hl, _ => by simp at hl

theorem elem_cells {es : List Sh} {x : E} {rd : Nat → Option Value} (h : RepCells M es rd 0 ((x.den η.ρ).cells es)) {o n : Nat} (hn : o + n ≤ es.length) :
    ∃ vs : List Value, vs.length = n ∧ (∀ k v, vs[k]? = some v → rd (o + k) = some v) ∧ AbsL η M (((es.zipIdx.drop o).take n).map fun p => A.d p.1 (cellE es x p.2)) vs := by
  obtain ⟨vs, h1, h2, h3⟩ := h.list o n hn
  refine ⟨vs, h1, h2, AbsL.mk' (by simp; omega) fun k a v ha hv => ?_⟩
  have hk : k < n := by
    have := (List.getElem?_eq_some_iff.1 hv).1; omega
  simp only [List.getElem?_map, List.getElem?_take, hk, if_true, List.getElem?_drop, List.getElem?_zipIdx] at ha
  rw [List.getElem?_eq_getElem (by omega : o + k < es.length)] at ha
  simp at ha
  subst ha
  obtain ⟨d, hd, hr⟩ := h3 k _ v (List.getElem?_eq_getElem (by omega)) hv
  have hlt : o + k < ((x.den η.ρ).cells es).length := (List.getElem?_eq_some_iff.1 hd).1
  rw [cell_of es _ _ hlt] at hd
  cases hd
  refine ⟨?_, hr.one⟩
  simp only [AbsA, den_cellE]
  exact hr
theorem elem_cell {es : List Sh} {x : E} {rd : Nat → Option Value} (h : RepCells M es rd 0 ((x.den η.ρ).cells es)) {o : Nat} {s : Sh} (hs : es[o]? = some s) :
    ∃ v : Value, rd o = some v ∧ AbsA η M (.d s (cellE es x o)) v ∧ One v := by
  obtain ⟨v, d, g1, g2, g3⟩ := h.get o s hs
  have hlt : o < ((x.den η.ρ).cells es).length := (List.getElem?_eq_some_iff.1 g1).1
  rw [cell_of es _ _ hlt] at g1
  cases g1
  refine ⟨v, by simpa using g2, ?_, g3.one⟩
  simp only [AbsA, den_cellE]
  exact g3

theorem loadA_sound {T : TypeId} {a : A} {t : TV} {evs : List Ev} {v : Value} (h : loadA P (fun j => blks.getD j .dead) T a = some (t, evs)) (hu : ∃ d, P.underlying T = some d) (hw : WR Z η M blks w) (ha : AbsA η M a v) (hev : ∀ e ∈ evs, EvOK P G η.ρ e) :
    ∃ v', (Instr.loadAt T v).run P w = .ok v' w ∧ AbsT η M t v' := by
  unfold loadA at h
  split at h
  · rename_i j o
    obtain ⟨b, c, hal, rfl⟩ := ha
    split at h
    · rename_i l hB
      have hj := getD_some hB (by simp)
      obtain ⟨b', c', vs, T', h1, h0, h2, h3, h4, h5⟩ := hw.blk j _ hj
      rw [hal] at h1; cases h1
      split at h
      · rename_i hT
        split at h
        · rename_i hsz
          cases h
          refine ⟨_, run_loadAt_agg (vs := (vs.drop o).take (sizeT P T)) hT (by have := h4.length; simp; omega) (fun k u hk => ?_), _, rfl, (h4.drop _).take _⟩
          rw [cell_of_heap h3]
          have hk' : k < sizeT P T := by
            have := (List.getElem?_eq_some_iff.1 hk).1; simp at this; omega
          simp only [List.getElem?_take, hk', if_true, List.getElem?_drop] at hk
          simpa using hk
        · cases h
      · rename_i hT
        split at h
        · rename_i a ha
          cases h
          obtain ⟨u, hu1, hu2, hu3⟩ := h4.get _ _ ha
          exact ⟨u, run_loadAt_one (by simpa using hT) hu (by rw [cell_of_heap h3]; simpa using hu1), AbsT_mk hu2 hu3⟩
        · cases h
    · cases h
  · rename_i es x o
    obtain ⟨b, q, rfl, hr⟩ := ha
    split at h
    · rename_i hT
      split at h
      · rename_i hsz
        cases h
        obtain ⟨vs, g1, g2, g3⟩ := elem_cells hr hsz
        exact ⟨_, run_loadAt_agg (vs := vs) hT g1 (fun k u hk => hw.mem _ _ _ (by have := g2 k u hk; rw [← this]; congr 1; omega)), _, rfl, g3⟩
      · cases h
    · rename_i hT
      split at h
      · rename_i s hs
        cases h
        obtain ⟨u, g1, g2, g3⟩ := elem_cell hr hs
        exact ⟨u, run_loadAt_one (by simpa using hT) hu (hw.mem _ _ _ g1), AbsT_mk g2 g3⟩
      · cases h
  · rename_i j sz i o
    obtain ⟨b, c, m, hal, hi, rfl⟩ := ha
    split at h
    · rename_i es l fr hB
      have hj := getD_some hB (by simp)
      obtain ⟨b', c', xs, h1, h2, h3, h4, h5⟩ := hw.blk j _ hj
      rw [hal] at h1; cases h1
      split at h
      · rename_i hsz
        subst hsz
        have hobs : (∀ e ∈ obs (mkCmp .lss i (lenE l)), EvOK P G η.ρ e) → m < xs.length := by
          intro he
          have := obs_ok he
          rw [den_mkCmp] at this
          simp [E.den, den_lenE, hi, h2, D.len, cmpB] at this
          simp [D.toI] at this
          exact this
        have key : m < xs.length → RepCells M es (fun o => w.cell? ⟨b, m * es.length + o, none⟩) 0 (((getE l i).den η.ρ).cells es) := by
          intro hm
          obtain ⟨_, vs, T', g1, g2, g3, g4, _⟩ := h5 (by omega)
          have := g4 m xs[m] (List.getElem?_eq_getElem hm)
          rw [den_getE]
          simp only [E.den, h2, hi, D.toL, Int.toNat_natCast, List.getD_eq_getElem?_getD, List.getElem?_eq_getElem hm, Option.getD_some]
          refine RepCells.mono (Mem.le.refl _) _ _ _ _ _ (fun o v hv => ?_) this
          rw [cell_of_heap g1]; simpa using hv
        split at h
        · rename_i hT
          split at h
          · rename_i hsz
            cases h
            obtain ⟨vs, g1, g2, g3⟩ := elem_cells (key (hobs hev)) hsz
            exact ⟨_, run_loadAt_agg (vs := vs) hT g1 (fun k u hk => by have := g2 k u hk; rw [← this]; congr 2; omega), _, rfl, g3⟩
          · cases h
        · rename_i hT
          split at h
          · rename_i s hs
            cases h
            obtain ⟨u, g1, g2, g3⟩ := elem_cell (key (hobs hev)) hs
            exact ⟨u, run_loadAt_one (by simpa using hT) hu g1, AbsT_mk g2 g3⟩
          · cases h
      · cases h
    · cases h
  · cases h
end

end Go.Proofs.Ytindphofgojfbaa.Sy
