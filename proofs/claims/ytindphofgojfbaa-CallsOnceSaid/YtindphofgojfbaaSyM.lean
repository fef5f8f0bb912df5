/-
  A part of a symbolic walk that is proved sound: what the functions of a program do with data. No conditions.
-/
import Derived.Test.YtindphofgojfbaaSyL
set_option linter.unusedSimpArgs false
set_option linter.unusedVariables false
namespace Go.Proofs.Ytindphofgojfbaa.Sy
open Go.RowKit
def setVs (l : List Value) (o : Nat) : List Value → List Value
  | [] => l
  | a :: as => setVs (l.set o a) (o + 1) as
theorem setVs_length : ∀ (as : List Value) (l : List Value) (o : Nat), (setVs l o as).length = l.length
  | [], _, _ => rfl
  | a :: as, l, o => by simp [setVs, setVs_length as]
theorem setVs_get : ∀ (as : List Value) (l : List Value) (o k : Nat), o + as.length ≤ l.length → (setVs l o as)[k]? = if o ≤ k ∧ k < o + as.length then as[k - o]? else l[k]?
  | [], l, o, k, _ => by simp [setVs]; intro h1 h2; omega
  | a :: as, l, o, k, h => by
    simp only [setVs]
    rw [setVs_get as (l.set o a) (o + 1) k (by simp at h ⊢; omega), List.getElem?_set]
    simp only [List.length_cons] at *
    by_cases e : o = k
    · subst e
      rw [if_neg (by omega), if_pos rfl, if_pos (by omega), if_pos (by omega)]
      simp
    · by_cases h2 : o + 1 ≤ k ∧ k < o + 1 + as.length
      · rw [if_pos h2, if_pos (by omega)]
        have : k - o = (k - (o + 1)) + 1 := by omega
        rw [this]; simp
      · rw [if_neg h2, if_neg e, if_neg (by omega)]
theorem setVs_one : ∀ (as l : List Value) (o : Nat), (∀ v ∈ l, One v) → (∀ v ∈ as, One v) → ∀ v ∈ setVs l o as, One v
  | [], l, o, h, _, v, hv => h v hv
  | a :: as, l, o, h, h2, v, hv => setVs_one as (l.set o a) (o + 1) (fun u hu => by
      rcases List.mem_or_eq_of_mem_set hu with hh | hh
      · exact h u hh
      · subst hh; exact h2 _ (by simp)) (fun u hu => h2 u (by simp [hu])) v hv
theorem AbsL.setAs {η : Env} {M : Mem} : ∀ {as : List A} {us : List Value} {l : List A} {vs : List Value} (o : Nat), AbsL η M l vs → AbsL η M as us → AbsL η M (setAs l o as) (setVs vs o us)
  | [], _, _, _, o, h, .nil => h
  | _ :: _, _, _, _, o, h, .cons h1 h2 h3 => AbsL.setAs (o + 1) (h.set o h1 h2) h3

section
variable {P : Program} {G : Globs}
theorem run_store1 {w : World} {b o : Nat} {v u : Value} {vs : List Value} {T : TypeId} (hv : One v) (hh : w.heap[b]? = some (.cells vs.toArray T (0, 0))) (hu : vs[o]? = some u) :
    (store ⟨b, o, none⟩ v).run P w = .ok () (w.setCell ⟨b, o, none⟩ v) := by
  have hc : w.cell? ⟨b, o, none⟩ = some u := by rw [cell_of_heap hh]; simpa using hu
  have hf : w.frozen? ⟨b, o, none⟩ = false := by simp [World.frozen?, hh]
  cases v <;> first | (simp [One, oneB] at hv; done) | (simp only [store, Sem.run, hc, hf, Bool.false_eq_true, if_false])
theorem run_storeCells : ∀ (xs : List Value) (w : World) (b o i : Nat) (vs : List Value) (T : TypeId), (∀ v ∈ xs, One v) → w.heap[b]? = some (.cells vs.toArray T (0, 0)) → o + i + xs.length ≤ vs.length →
    ∃ w', (storeCells ⟨b, o, none⟩ xs i).run P w = .ok () w' ∧ w'.heap[b]? = some (.cells (setVs vs (o + i) xs).toArray T (0, 0)) ∧ (∀ k, k ≠ b → w'.heap[k]? = w.heap[k]?) ∧ w'.heap.size = w.heap.size ∧ w'.os = w.os ∧ w'.tape = w.tape ∧ w'.output = w.output
  | [], w, b, o, i, vs, T, _, hh, _ => ⟨w, by simp [storeCells], hh, fun _ _ => rfl, rfl, rfl, rfl, rfl⟩
  | x :: xs, w, b, o, i, vs, T, hx, hh, hl => by
    simp only [List.length_cons] at hl
    have h1 := run_store1 (P := P) (v := x) (hx x (by simp)) hh (List.getElem?_eq_getElem (by omega : o + i < vs.length))
    obtain ⟨w', g1, g2, g3, g4, g5, g6, g7⟩ := run_storeCells xs (w.setCell ⟨b, o + i, none⟩ x) b o (i + 1) (vs.set (o + i) x) T (fun v hv => hx v (by simp [hv])) (heap_setCell_same hh) (by simp; omega)
    refine ⟨w', ?_, ?_, fun k hk => (g3 k hk).trans (heap_setCell_other hk), g4.trans (by simp [World.setCell]), g5, g6, g7⟩
    · simp only [storeCells, Sem.run_bind, add_mk, h1, Result.andThen_ok, g1]
    · simp only [setVs]; rw [g2]; rfl
theorem run_storeAt {w : World} {T : TypeId} {b o : Nat} {x : Value} {vs : List Value} {T' : TypeId} (hu : ∃ d, P.underlying T = some d) (hs : x.cells.size = sizeT P T) (hx : ∀ v ∈ x.cells.toList, One v) (hh : w.heap[b]? = some (.cells vs.toArray T' (0, 0))) (hl : o + x.cells.size ≤ vs.length) :
    ∃ w', (Instr.storeAt T (.pointer (some ⟨b, o, none⟩)) x).run P w = .ok () w' ∧ w'.heap[b]? = some (.cells (setVs vs o x.cells.toList).toArray T' (0, 0)) ∧ (∀ k, k ≠ b → w'.heap[k]? = w.heap[k]?) ∧ w'.heap.size = w.heap.size ∧ w'.os = w.os ∧ w'.tape = w.tape ∧ w'.output = w.output := by
  obtain ⟨w', h1, h2⟩ := run_storeCells (P := P) x.cells.toList w b o 0 vs T' hx hh (by simpa using hl)
  refine ⟨w', ?_, h2⟩
  simp only [Instr.storeAt, Instr.sureAddr, Sem.run_bind, Sem.run_pure, Result.andThen_ok, storeVar, run_sizeT hu, hs, ne_eq, not_true, if_false, h1]
end

section
variable {Z : Base} {η : Env} {M : Mem} {blks : List Blk} {w : World} {P : Program} {G : Globs}
theorem AbsL.one {l : List A} {vs : List Value} (h : AbsL η M l vs) : ∀ v ∈ vs, One v := by
  induction h with
  | nil => simp
  | cons _ h2 _ ih =>
    intro v hv
    rcases List.mem_cons.1 hv with rfl | hv
    · exact h2
    · exact ih v hv
theorem as_cells {t : TV} {as : List A} {v : Value} (h : t.as = some as) (ht : AbsT η M t v) : AbsL η M as v.cells.toList := by
  unfold TV.as at h
  split at h
  · cases h
  · rename_i a hne
    cases h
    have h1 := AbsT_c ht
    have h2 : One v := by
      cases a <;> first | exact ht.2 | exact absurd rfl hne
    rw [h2.cells]
    exact .cons h1 h2 .nil
  · cases h
    obtain ⟨vs, rfl, h1⟩ := ht
    simpa [Value.cells] using h1

theorem dataA_rep {s : Sh} {a : A} {e : E} {v : Value} (h : dataA s a = some e) (ha : AbsA η M a v) : Rep M s v (e.den η.ρ) := by
  unfold dataA at h
  split at h
  · split at h
    · cases h
      exact nil_rep ha
    · cases h
  · split at h
    · rename_i hs
      cases h
      rw [Sh.same_eq _ _ hs]
      exact ha
    · cases h
  · cases h
theorem dataAs_rep : ∀ {ss : List Sh} {as : List A} {es : List E} {vs : List Value}, dataAs ss as = some es → AbsL η M as vs → vs.length = ss.length ∧ es.length = ss.length ∧ ∀ (k : Nat) (s : Sh) (e : E), ss[k]? = some s → es[k]? = some e → ∃ v, vs[k]? = some v ∧ Rep M s v (e.den η.ρ)
  | [], [], es, vs, h, hl => by
    cases hl
    simp [dataAs] at h
    subst h
    exact ⟨rfl, rfl, fun k s e hs => by simp at hs⟩
  | s :: ss, a :: as, es, vs, h, hl => by
    cases hl with
    | cons h1 h2 h3 =>
      unfold dataAs at h
      split at h
      · rename_i e es' he hes
        cases h
        obtain ⟨g1, g2, g3⟩ := dataAs_rep hes h3
        refine ⟨by simp [g1], by simp [g2], fun k s' e' hs he' => ?_⟩
        cases k with
        | zero => simp at hs he'; subst hs he'; exact ⟨_, rfl, dataA_rep he h1⟩
        | succ k => exact g3 k s' e' (by simpa using hs) (by simpa using he')
      · cases h
  | [], _ :: _, es, vs, h, _ => by simp [dataAs] at h
  | _ :: _, [], es, vs, h, _ => by simp [dataAs] at h
end

end Go.Proofs.Ytindphofgojfbaa.Sy
