/-
  A part of a symbolic walk that is proved sound: what the functions of a program do with data. No conditions.
-/
import Derived.Test.YtindphofgojfbaaSyPa
set_option linter.unusedSimpArgs false
set_option linter.unusedVariables false
namespace Go.Proofs.Ytindphofgojfbaa.Sy
open Go.RowKit
def adr (η : Env) : Option Nat → Nat × Nat
  | none => (0, 0)
  | some j => (η.al j).getD (0, 0)
section
variable {Z : Base} {η : Env} {M : Mem} {blks : List Blk} {w : World} {P : Program} {G : Globs}

def LiveAt (η : Env) (blks : List Blk) (j : Nat) : Prop := ∃ B p, blks[j]? = some B ∧ B ≠ .dead ∧ η.al j = some p
def Frz (blks0 blks : List Blk) (f : List Nat) : Prop := ∀ j ∈ f, ∃ es l fr, blks0.getD j .dead = .row es l fr ∧ blks[j]? = some (.row es l true)
def Same (blks0 blks : List Blk) (o : List (Option Nat)) : Prop := ∀ j, some j ∈ o → blks.getD j .dead = blks0.getD j .dead
theorem Frz.left {blks0 : List Blk} {f g : List Nat} (h : Frz blks0 blks (f ++ g)) : Frz blks0 blks f := fun j hj => h j (by simp [hj])
theorem Frz.right {blks0 : List Blk} {f g : List Nat} (h : Frz blks0 blks (f ++ g)) : Frz blks0 blks g := fun j hj => h j (by simp [hj])
theorem Same.left {blks0 : List Blk} {f g : List (Option Nat)} (h : Same blks0 blks (f ++ g)) : Same blks0 blks f := fun j hj => h j (by simp [hj])
theorem Same.right {blks0 : List Blk} {f g : List (Option Nat)} (h : Same blks0 blks (f ++ g)) : Same blks0 blks g := fun j hj => h j (by simp [hj])

theorem prepA_sound (hF : WR Z η M blks w) {blks0 : List Blk} {k : CK} {a : A} {e : E} {f : List Nat} {o : List (Option Nat)} {v : Value} (h : prepA (fun j => blks0.getD j .dead) k a = some (e, f, o)) (hf : Frz blks0 blks f) (ho : Same blks0 blks o) (ha : AbsA η M a v) :
    CellR M w k v (e.den η.ρ) (o.map (adr η)) ∧ ∀ j, some j ∈ o → LiveAt η blks j := by
  unfold prepA at h
  split at h
  · rename_i s a
    split at h
    · rename_i s' e' hd
      split at h
      · rename_i hs
        simp only [Option.some.injEq, Prod.mk.injEq] at h
        obtain ⟨rfl, rfl, rfl⟩ := h
        have := Sh.same_eq _ _ hs
        subst this
        exact ⟨⟨toD_sound hF hd hf ha, rfl⟩, fun j hj => by cases hj⟩
      · cases h
    · cases h
  · rename_i es j es' n
    split at h
    · rename_i es'' l hB
      split at h
      · rename_i hc
        simp only [Bool.and_eq_true] at hc
        simp only [Option.some.injEq, Prod.mk.injEq] at h
        obtain ⟨rfl, rfl, rfl⟩ := h
        have e1 := Sh.sames_eq _ _ hc.1.1
        have e2 := Sh.sames_eq _ _ hc.1.2
        have e3 := E.same_eq _ _ hc.2
        subst e1 e2
        have hj := getD_some (show blks.getD j .dead = .row es'' l false from (ho j (by simp)).trans hB) (by simp)
        obtain ⟨xs, p, h1, h2, h3⟩ := hF.rowAt hj (by rw [← e3, den_lenE]) ha
        refine ⟨⟨xs, p, h2, by simp [adr, h1], h3⟩, fun i hi => ?_⟩
        simp at hi
        subst hi
        exact ⟨_, p, hj, by simp, h1⟩
      · cases h
    · cases h
  · rename_i es es'
    simp only [Option.some.injEq, Prod.mk.injEq] at h
    obtain ⟨rfl, rfl, rfl⟩ := h
    obtain ⟨b, rfl⟩ := ha
    exact ⟨⟨[], (0, 0), rfl, rfl, by simp, by simp, .inr ⟨rfl, b, rfl⟩, fun h0 => by simp at h0⟩, fun j hj => by simp at hj⟩
  · cases h
theorem prepAs_sound (hF : WR Z η M blks w) {blks0 : List Blk} : ∀ {ks : List CK} {as : List A} {es : List E} {f : List Nat} {o : List (Option Nat)} {vs : List Value}, prepAs (fun j => blks0.getD j .dead) ks as = some (es, f, o) → Frz blks0 blks f → Same blks0 blks o → AbsL η M as vs →
    CellsR M w ks vs (es.map (·.den η.ρ)) (o.map (adr η)) ∧ ∀ j, some j ∈ o → LiveAt η blks j
  | [], [], es, f, o, vs, h, _, _, hv => by
    cases hv
    simp only [prepAs, Option.some.injEq, Prod.mk.injEq] at h
    obtain ⟨rfl, rfl, rfl⟩ := h
    exact ⟨.nil, fun j hj => by cases hj⟩
  | k :: ks, a :: as, es, f, o, vs, h, hf, ho, hv => by
    cases hv with
    | cons h1 h2 h3 =>
      simp only [prepAs] at h
      split at h
      · rename_i e1 f1 o1 es2 f2 o2 hp hps
        simp only [Option.some.injEq, Prod.mk.injEq] at h
        obtain ⟨rfl, rfl, rfl⟩ := h
        obtain ⟨g1, g2⟩ := prepA_sound hF hp hf.left ho.left h1
        obtain ⟨g3, g4⟩ := prepAs_sound hF hps hf.right ho.right h3
        refine ⟨by rw [List.map_append]; exact .cons g1 g3, fun j hj => (List.mem_append.1 hj).elim (g2 j) (g4 j)⟩
      · cases h
  | [], _ :: _, es, f, o, vs, h, _, _, _ => by simp [prepAs] at h
  | _ :: _, [], es, f, o, vs, h, _, _, _ => by simp [prepAs] at h
theorem cellsR_data : ∀ {l : List Sh} {vs : List Value} {ds : List D}, CellsR M w (l.map .s) vs ds [] → vs.length = l.length ∧ RepCells M l (fun o => vs[o]?) 0 ds
  | [], _, _, h => by
    cases h
    exact ⟨rfl, by rw [RepCells_nil]⟩
  | s :: l, _, _, h => by
    generalize hp : ([] : List (Nat × Nat)) = ps at h
    cases h with
    | @cons _ _ v vs d ds ps1 qs1 h1 h2 =>
      obtain ⟨h1, rfl⟩ := h1
      simp at hp
      subst hp
      obtain ⟨g1, g2⟩ := cellsR_data h2
      refine ⟨by simp [g1], ?_⟩
      rw [RepCells_cons]
      refine ⟨d, ds, rfl, ⟨v, rfl, h1⟩, ?_⟩
      refine RepCells.mk g2.length fun j s' hj => ?_
      obtain ⟨u, d', r1, r2, r3⟩ := g2.get j s' hj
      refine ⟨u, d', r1, ?_, r3⟩
      rw [Nat.zero_add] at r2
      show (v :: vs)[0 + 1 + j]? = some u
      rw [show 0 + 1 + j = j + 1 by omega, List.getElem?_cons_succ]; exact r2
theorem prepT_sound (hF : WR Z η M blks w) {blks0 : List Blk} {t : TS} {a : TV} {e : E} {f : List Nat} {o : List (Option Nat)} {v : Value} (h : prepT (fun j => blks0.getD j .dead) t a = some (e, f, o)) (hf : Frz blks0 blks f) (ho : Same blks0 blks o) (ha : AbsT η M a v) :
    ArgR M w t v (e.den η.ρ) (o.map (adr η)) ∧ ∀ j, some j ∈ o → LiveAt η blks j := by
  unfold prepT at h
  split at h
  · rename_i s a
    have g := prepA_sound hF h hf ho (AbsT_c ha)
    exact g
  · rename_i es a
    exact prepA_sound hF h hf ho (AbsT_c ha)
  · rename_i l as
    split at h
    · rename_i es f' hp
      simp only [Option.some.injEq, Prod.mk.injEq] at h
      obtain ⟨rfl, rfl, rfl⟩ := h
      obtain ⟨vs, rfl, hvs⟩ := ha
      obtain ⟨g1, g2⟩ := prepAs_sound hF hp hf ho hvs
      obtain ⟨g3, g4⟩ := cellsR_data g1
      refine ⟨⟨⟨vs, _, rfl, by simp only [E.den, consE_den, D.toL], g3, g4⟩, rfl⟩, g2⟩
    · cases h
  · rename_i l as
    split at h
    · rename_i es f' o' hp
      simp only [Option.some.injEq, Prod.mk.injEq] at h
      obtain ⟨rfl, rfl, rfl⟩ := h
      obtain ⟨vs, rfl, hvs⟩ := ha
      obtain ⟨g1, g2⟩ := prepAs_sound hF hp hf ho hvs
      exact ⟨⟨vs, _, rfl, by simp only [E.den, consE_den, D.toL], g1⟩, g2⟩
    · cases h
  · rename_i l j
    split at h
    · rename_i as hB
      split at h
      · rename_i es f' o' hp
        simp only [Option.some.injEq, Prod.mk.injEq] at h
        obtain ⟨rfl, rfl, rfl⟩ := h
        obtain ⟨b, c, hal, rfl⟩ := AbsT_c ha
        have hj := getD_some (show blks.getD j .dead = .cells as from (ho j (by simp)).trans hB) (by simp)
        obtain ⟨b', c', vs, T, h1, h2, h3, h4, h5, h6⟩ := hF.blk j _ hj
        rw [hal] at h1
        cases h1
        obtain ⟨g1, g2⟩ := prepAs_sound hF hp hf (fun i hi => ho i (by simp [hi])) h5
        subst h2
        refine ⟨⟨b, vs, T, _, _, rfl, h4, h6, by simp only [E.den, consE_den, D.toL], g1, by simp [adr, hal]⟩, fun i hi => ?_⟩
        rcases List.mem_cons.1 hi with hi | hi
        · cases hi; exact ⟨_, _, hj, by simp, hal⟩
        · exact g2 i hi
      · cases h
    · cases h
  · cases h
theorem prepTs_sound (hF : WR Z η M blks w) {blks0 : List Blk} : ∀ {ts : List TS} {as : List TV} {es : List E} {f : List Nat} {o : List (Option Nat)} {vs : List Value}, prepTs (fun j => blks0.getD j .dead) ts as = some (es, f, o) → Frz blks0 blks f → Same blks0 blks o → AbsTs η M as vs →
    ArgsR M w ts vs (es.map (·.den η.ρ)) (o.map (adr η)) ∧ (∀ j, some j ∈ o → LiveAt η blks j) ∧ outsT ts = (ptrsOf ts as).map (fun p => .p p.1) ∧ PtrsAt η ((ptrsOf ts as).map (·.2)) (outVals ts vs) ∧ ((ptrsOf ts as).map (·.2)).Sublist (o.filterMap id)
  | [], [], es, f, o, vs, h, _, _, hv => by
    cases hv
    simp only [prepTs, Option.some.injEq, Prod.mk.injEq] at h
    obtain ⟨rfl, rfl, rfl⟩ := h
    exact ⟨.nil, (fun j hj => by cases hj), rfl, .nil, by simp [ptrsOf]⟩
  | t :: ts, a :: as, es, f, o, vs, h, hf, ho, hv => by
    cases hv with
    | @cons _ _ v vs h1 h3 =>
      simp only [prepTs] at h
      split at h
      · rename_i e1 f1 o1 es2 f2 o2 hp hps
        simp only [Option.some.injEq, Prod.mk.injEq] at h
        obtain ⟨rfl, rfl, rfl⟩ := h
        obtain ⟨g1, g2⟩ := prepT_sound hF hp hf.left ho.left h1
        obtain ⟨g3, g4, g5, g6, g7⟩ := prepTs_sound hF hps hf.right ho.right h3
        refine ⟨by rw [List.map_append]; exact .cons g1 g3, fun j hj => (List.mem_append.1 hj).elim (g2 j) (g4 j), ?_⟩
        cases hP : t.isP with
        | false =>
          have hpo : ptrsOf (t :: ts) (a :: as) = ptrsOf ts as := by
            cases t <;> first | (simp [TS.isP] at hP; done) | (cases a <;> rfl)
          rw [outsT_other hP, outVals_other hP, hpo]
          refine ⟨g5, g6, ?_⟩
          rw [List.filterMap_append]
          exact g7.trans (List.sublist_append_right _ _)
        | true =>
          obtain ⟨l, rfl⟩ : ∃ l, t = .p l := by
            cases t <;> first | (simp [TS.isP] at hP; done) | exact ⟨_, rfl⟩ | (cases a <;> simp [prepT] at hp)
          -- the argument is a pointer to a block's head
          have hcase : ∃ j o', a = .c (.ptr j 0) ∧ o1 = some j :: o' := by
            cases a with
            | g l' => simp [prepT] at hp
            | c a0 =>
              cases a0 with
              | ptr j oo =>
                cases oo with
                | zero =>
                  simp only [prepT] at hp
                  split at hp
                  · split at hp
                    · simp only [Option.some.injEq, Prod.mk.injEq] at hp
                      exact ⟨j, _, rfl, hp.2.2.symm⟩
                    · cases hp
                  · cases hp
                | succ oo => simp [prepT] at hp
              | _ => simp [prepT] at hp
          obtain ⟨j, o', rfl, rfl⟩ := hcase
          obtain ⟨b, vs', T, ds, qs, rfl, _, _, _, _, hq⟩ := g1
          obtain ⟨b', c, hal, hv'⟩ := AbsT_c h1
          simp only [Value.pointer.injEq, Option.some.injEq, Addr.mk.injEq, and_true] at hv'
          simp only [List.map_cons, adr, hal, Option.getD_some, List.cons.injEq, Prod.mk.injEq] at hq
          refine ⟨by simp only [outsT, ptrsOf, List.map_cons, g5], .cons ⟨b, rfl, by rw [hal, hq.1.1, hq.1.2]⟩ g6, ?_⟩
          simp only [ptrsOf, List.map_cons, List.cons_append, List.filterMap_cons, id]
          refine .cons_cons _ ?_
          rw [List.filterMap_append]
          exact g7.trans (List.sublist_append_right _ _)
      · cases h
  | [], _ :: _, es, f, o, vs, h, _, _, _ => by simp [prepTs] at h
  | _ :: _, [], es, f, o, vs, h, _, _, _ => by simp [prepTs] at h
end

end Go.Proofs.Ytindphofgojfbaa.Sy
