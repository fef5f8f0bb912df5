/-
  A part of a symbolic walk that is proved sound: what the functions of a program do with data. No conditions.
-/
import Derived.Test.YtindphofgojfbaaSyG
import Derived.WalkLawsBesides
set_option linter.unusedSimpArgs false
set_option linter.unusedVariables false
namespace Go.Proofs.Ytindphofgojfbaa.Sy
open Go.RowKit
section
variable {ρ : List D}
theorem den_mkAr (op k a b) : (mkAr op k a b).den ρ = (E.ar op k a b).den ρ := by
  unfold mkAr; split <;> rfl
theorem den_mkShf (op k a b) : (mkShf op k a b).den ρ = (E.shf op k a b).den ρ := by
  unfold mkShf; split <;> rfl
theorem den_mkCmp (op a b) : (mkCmp op a b).den ρ = (E.cmp op a b).den ρ := by
  unfold mkCmp; split <;> rfl
theorem den_mkNot (a) : (mkNot a).den ρ = (E.not a).den ρ := by
  unfold mkNot
  split
  · rfl
  · rename_i op a b
    split
    · rename_i op' h
      cases op <;> simp [negOp] at h <;> subst h <;> simp only [E.den, cmpB, D.toB, D.bool.injEq] <;> first | rfl | (rw [Bool.eq_iff_iff]; simp; try omega)
    · rfl
  · rfl
theorem den_mkBeq (a b) : (mkBeq a b).den ρ = (E.beq a b).den ρ := by
  unfold mkBeq; split <;> rfl
theorem den_mkAnd (a b) : (mkAnd a b).den ρ = (E.and a b).den ρ := by
  unfold mkAnd; split <;> simp [E.den, D.toB]
theorem litLen_den : ∀ (e : E) (n : Nat), litLen e = some n → ∃ xs, e.den ρ = .lst xs ∧ xs.length = n
  | .nil, n, h => by simp [litLen] at h; subst h; exact ⟨[], rfl, rfl⟩
  | .cons x l, n, h => by
    simp only [litLen, Option.map_eq_some_iff] at h
    obtain ⟨m, hm, rfl⟩ := h
    obtain ⟨xs, h1, h2⟩ := litLen_den l m hm
    exact ⟨_, rfl, by simp [h1, D.toL, h2]⟩
  | .app a b, n, h => by
    simp only [litLen] at h
    split at h
    · rename_i k m hk hm
      cases h
      obtain ⟨xs, h1, h2⟩ := litLen_den a k hk
      obtain ⟨ys, h3, h4⟩ := litLen_den b m hm
      exact ⟨_, rfl, by simp [h1, h3, D.toL, h2, h4]⟩
    · cases h
  | .rep m x, n, h => by
    unfold litLen at h
    split at h <;> simp_all
    exact ⟨_, rfl, by simp [E.den, D.toI, h]⟩
  | .set l i x, n, h => by
    obtain ⟨xs, h1, h2⟩ := litLen_den l n h
    refine ⟨_, by simp only [E.den, h1, D.mapL]; rfl, by simp [h2]⟩
  | .setc l i j x, n, h => by
    obtain ⟨xs, h1, h2⟩ := litLen_den l n h
    refine ⟨_, by simp only [E.den, h1, D.mapL]; rfl, by simp [h2]⟩
  | .cpy l b, n, h => by
    obtain ⟨xs, h1, h2⟩ := litLen_den l n h
    refine ⟨_, by simp only [E.den, h1, D.mapL]; rfl, by simp; omega⟩
  | .v _, n, h | .ki _ _, n, h | .kb _, n, h | .ks _, n, h | .ar .., n, h | .shf .., n, h | .cmp .., n, h | .beq .., n, h | .not .., n, h | .neg .., n, h | .inv .., n, h | .and .., n, h | .conv .., n, h | .mn .., n, h | .mx .., n, h | .len .., n, h | .rc .., n, h | .get .., n, h | .cell .., n, h | .sub .., n, h | .seq .., n, h | .slt .., n, h | .sidx .., n, h | .ssub .., n, h | .scat .., n, h | .s2b .., n, h | .b2s .., n, h => by simp [litLen] at h
theorem den_lenE : ∀ e : E, (lenE e).den ρ = (E.len e).den ρ
  | .set l i x => by simp only [lenE, den_lenE l]; simp only [E.den]; cases l.den ρ <;> simp [D.len, D.mapL]
  | .setc l i j x => by simp only [lenE, den_lenE l]; simp only [E.den]; cases l.den ρ <;> simp [D.len, D.mapL]
  | .cpy l b => by
    simp only [lenE, den_lenE l]; simp only [E.den]
    cases l.den ρ <;> simp [D.len, D.mapL] <;> omega
  | .nil => by simp [lenE, E.den, D.len]
  | .cons x l => by
    unfold lenE
    split
    · rename_i n h
      obtain ⟨xs, h1, h2⟩ := litLen_den (ρ := ρ) _ _ h
      simp only [E.den] at h1 ⊢
      rw [h1]; simp [D.len, h2]
    · rfl
  | .app a b => by
    unfold lenE
    split
    · rename_i n h
      obtain ⟨xs, h1, h2⟩ := litLen_den (ρ := ρ) _ _ h
      simp only [E.den] at h1 ⊢
      rw [h1]; simp [D.len, h2]
    · rfl
  | .rep m x => by
    unfold lenE
    split
    · rename_i n h
      obtain ⟨xs, h1, h2⟩ := litLen_den (ρ := ρ) _ _ h
      simp only [E.den] at h1 ⊢
      rw [h1]; simp [D.len, h2]
    · rfl
  | .v _ | .ki _ _ | .kb _ | .ks _ | .ar .. | .shf .. | .cmp .. | .beq .. | .not .. | .neg .. | .inv .. | .and .. | .conv .. | .mn .. | .mx .. | .len .. | .rc .. | .get .. | .cell .. | .sub .. | .seq .. | .slt .. | .sidx .. | .ssub .. | .scat .. | .s2b .. | .b2s .. => by rfl
theorem den_go (l0 i : E) : ∀ (l : E) (n : Nat), ((l0.den ρ).toL).getD (i.den ρ).toI.toNat default = ((l.den ρ).toL).getD n default → (getE.go l n l0 i).den ρ = (E.get l0 i).den ρ
  | .cons x l, 0, h => by simp only [getE.go, E.den] at *; rw [h]; rfl
  | .cons x l, n + 1, h => by
    simp only [getE.go]
    refine den_go l0 i l n ?_
    rw [h]; simp [E.den, D.toL]
  | .set .., _, h | .setc .., _, h | .nil, _, h
  | .v _, _, h | .ki _ _, _, h | .kb _, _, h | .ks _, _, h | .ar .., _, h | .shf .., _, h | .cmp .., _, h | .beq .., _, h | .not .., _, h | .neg .., _, h | .inv .., _, h | .and .., _, h | .conv .., _, h | .mn .., _, h | .mx .., _, h | .len .., _, h | .rc .., _, h | .get .., _, h | .cell .., _, h | .sub .., _, h | .app .., _, h | .rep .., _, h | .cpy .., _, h | .seq .., _, h | .slt .., _, h | .sidx .., _, h | .ssub .., _, h | .scat .., _, h | .s2b .., _, h | .b2s .., _, h => by rfl
theorem den_getE (l i : E) : (getE l i).den ρ = (E.get l i).den ρ := by
  unfold getE
  split
  · rename_i k n
    exact den_go l _ l n (by simp [E.den, D.toI])
  · rfl
theorem cell_of (es : List Sh) (x : D) (j : Nat) (hj : j < (x.cells es).length) : ((x.cells es)[j]?) = some (if es.length = 1 then x else x.toL.getD j default) := by
  by_cases h : es.length = 1
  · simp only [D.cells, h, if_true] at *
    simp at hj
    subst hj
    rfl
  · simp only [D.cells, h, if_false] at *
    cases x <;> simp at hj
    rename_i ds
    simp [D.toL, hj]
theorem den_cellE (es : List Sh) (x : E) (j : Nat) : (cellE es x j).den ρ = if es.length = 1 then x.den ρ else (x.den ρ).toL.getD j default := by
  unfold cellE
  split
  · rfl
  · split
    · split <;> simp [E.den, D.toL]
    · rfl
end

section
variable {η : Env} {M : Mem} {P : Program} {G : Globs}
theorem constA_abs {v : Value} : AbsA η M (constA v) v := by
  unfold constA
  split
  · split
    · rename_i k n h; simp only [AbsA]; rw [Rep_int]; exact ⟨n, rfl, rfl, h.1, h.2⟩
    · rfl
  · simp only [AbsA]; rw [Rep_bool]; exact ⟨_, rfl, rfl⟩
  · split
    · rename_i s h; simp only [AbsA]; rw [Rep_str]; exact ⟨s, rfl, rfl, h⟩
    · rfl
  · rfl
theorem AbsT_mk {a : A} {v : Value} (h : AbsA η M a v) (ho : One v) : AbsT η M (.c a) v := by
  cases a <;> first | exact ⟨h, ho⟩ | trivial
theorem AbsT_c {a : A} {v : Value} (h : AbsT η M (.c a) v) : AbsA η M a v := by
  cases a <;> first | exact h.1 | trivial
theorem AbsL_const : ∀ l : List Value, l.all oneB = true → AbsL η M (l.map constA) l
  | [], _ => .nil
  | v :: l, h => by simp at h; exact .cons constA_abs h.1 (AbsL_const l (by simpa using h.2))
theorem constTV_abs (v : Value) : AbsT η M (constTV v) v := by
  unfold constTV
  split
  · rename_i h; exact AbsT_mk constA_abs h
  · split
    · split
      · rename_i l _ h; exact ⟨l.toList, by simp, AbsL_const _ h⟩
      · trivial
    · trivial
theorem zeroA_abs {t : TypeId} {v : Value} : AbsA η M (zeroA P t v) v := by
  unfold zeroA
  split
  · split
    · exact ⟨none, rfl⟩
    · rfl
  · exact constA_abs
theorem zeroAs_go : ∀ (ts : List TypeId) (l : List Value), l.all oneB = true → ts.length = l.length → AbsL η M (List.zipWith (zeroA P) ts l) l
  | [], [], _, _ => .nil
  | t :: ts, v :: l, h, hl => by simp at h hl; exact .cons zeroA_abs h.1 (zeroAs_go ts l (by simpa using h.2) hl)
  | [], _ :: _, _, h => by simp at h
  | _ :: _, [], _, h => by simp at h
theorem zeroAs_abs {t : TypeId} {z : Value} {l : List A} (h : zeroAs P t z = some l) : AbsL η M l z.cells.toList := by
  unfold zeroAs at h
  split at h
  · split at h
    · rename_i ts _ h2
      simp only [Bool.and_eq_true, beq_iff_eq] at h2
      cases h
      exact zeroAs_go _ _ h2.1 h2.2
    · cases h
  · cases h
theorem fixA_abs {T : TypeId} {a : AV} {v : Value} (h : AbsV η M a v) : AbsV η M (fixA P T a) v := by
  unfold fixA
  split
  · split
    · have h' : AbsT η M (.c (.k (.slice none 0 0))) v := h
      have := AbsT_c h'
      simp only [AbsA] at this
      exact ⟨⟨none, this⟩, by rw [this]; rfl⟩
    · exact h
  · exact h
end

end Go.Proofs.Ytindphofgojfbaa.Sy
