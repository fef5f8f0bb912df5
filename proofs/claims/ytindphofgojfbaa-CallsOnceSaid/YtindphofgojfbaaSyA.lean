/-
  A part of a symbolic walk that is proved sound: what the functions of a program do with data. No conditions.
-/
import Derived.WalkKit
import Derived.Deep.LoopGhost
set_option linter.unusedSimpArgs false
set_option linter.unusedVariables false
namespace Go.Proofs.Ytindphofgojfbaa.Sy
inductive Sh where
  | int (k : IntKind) | bool | str | lst (es : List Sh)
  deriving Repr, Inhabited
mutual
def Sh.same : Sh → Sh → Bool
  | .int k, .int j => decide (k = j)
  | .bool, .bool => true
  | .str, .str => true
  | .lst a, .lst b => Sh.sames a b
  | _, _ => false
def Sh.sames : List Sh → List Sh → Bool
  | [], [] => true
  | a :: as, b :: bs => Sh.same a b && Sh.sames as bs
  | _, _ => false
end
mutual
theorem Sh.same_eq : ∀ a b : Sh, Sh.same a b = true → a = b
  | .int k, b, h => by cases b <;> simp_all [Sh.same]
  | .bool, b, h => by cases b <;> simp_all [Sh.same]
  | .str, b, h => by cases b <;> simp_all [Sh.same]
  | .lst as, b, h => by
    cases b with
    | lst bs => simp only [Sh.same] at h; rw [Sh.sames_eq as bs h]
    | _ => simp [Sh.same] at h
theorem Sh.sames_eq : ∀ a b : List Sh, Sh.sames a b = true → a = b
  | [], b, h => by cases b <;> simp_all [Sh.sames]
  | a :: as, b, h => by
    cases b with
    | nil => simp [Sh.sames] at h
    | cons b bs => simp only [Sh.sames, Bool.and_eq_true] at h; rw [Sh.same_eq a b h.1, Sh.sames_eq as bs h.2]
end
inductive D where
  | int (k : IntKind) (n : Int)
  | bool (b : Bool)
  | str (s : ByteArray)
  | lst (l : List D)
  | rc (l : List D)
  deriving Inhabited
abbrev Mem := Nat → Nat → Option Value
def D.cells (es : List Sh) (x : D) : List D := if es.length = 1 then [x] else match x with | .rc ds => ds | _ => []
mutual
def Rep (M : Mem) : Sh → Value → D → Prop
  | .int k, v, d => ∃ n, v = .int k n ∧ d = .int k n ∧ k.min ≤ n ∧ n ≤ k.max
  | .bool, v, d => ∃ b, v = .bool b ∧ d = .bool b
  | .str, v, d => ∃ s, v = .string s ∧ d = .str s ∧ s.size ≤ maxLen
  | .lst es, v, d => ∃ l, d = .lst l ∧ l.length ≤ maxLen ∧ ((v = .slice none 0 0 ∧ l = []) ∨ ∃ b off sp cap, v = .slice (some ⟨b, off, sp⟩) l.length cap ∧ (0 < cap → sp = none) ∧ l.length ≤ cap ∧ cap ≤ maxLen ∧
      ∀ i x, l[i]? = some x → RepCells M es (fun o => M b (off + i * es.length + o)) 0 (x.cells es))
def RepCells (M : Mem) : List Sh → (Nat → Option Value) → Nat → List D → Prop
  | [], _, _, ds => ds = []
  | s :: ss, rd, o, ds => match ds with
    | [] => False
    | d :: ds => (∃ v, rd o = some v ∧ Rep M s v d) ∧ RepCells M ss rd (o + 1) ds
end
def Mem.le (M M' : Mem) : Prop := ∀ b o v, M b o = some v → M' b o = some v
theorem Rep_int {M : Mem} {k v d} : Rep M (.int k) v d ↔ ∃ n, v = .int k n ∧ d = .int k n ∧ k.min ≤ n ∧ n ≤ k.max := by unfold Rep; exact Iff.rfl
theorem Rep_bool {M : Mem} {v d} : Rep M .bool v d ↔ ∃ b, v = .bool b ∧ d = .bool b := by unfold Rep; exact Iff.rfl
theorem Rep_str {M : Mem} {v d} : Rep M .str v d ↔ ∃ s, v = .string s ∧ d = .str s ∧ s.size ≤ maxLen := by unfold Rep; exact Iff.rfl
theorem Rep_lst {M : Mem} {es v d} : Rep M (.lst es) v d ↔ ∃ l, d = .lst l ∧ l.length ≤ maxLen ∧ ((v = .slice none 0 0 ∧ l = []) ∨ ∃ b off sp cap, v = .slice (some ⟨b, off, sp⟩) l.length cap ∧ (0 < cap → sp = none) ∧ l.length ≤ cap ∧ cap ≤ maxLen ∧
      ∀ i x, l[i]? = some x → RepCells M es (fun o => M b (off + i * es.length + o)) 0 (x.cells es)) := by rw [Rep]
theorem RepCells_nil {M : Mem} {rd o ds} : RepCells M [] rd o ds ↔ ds = [] := by unfold RepCells; exact Iff.rfl
theorem RepCells_cons {M : Mem} {s ss rd o ds} : RepCells M (s :: ss) rd o ds ↔ ∃ d ds', ds = d :: ds' ∧ (∃ v, rd o = some v ∧ Rep M s v d) ∧ RepCells M ss rd (o + 1) ds' := by
  cases ds with
  | nil => simp [RepCells]
  | cons d ds =>
    simp only [RepCells]
    constructor
    · intro h; exact ⟨d, ds, rfl, h⟩
    · rintro ⟨d', ds', e, h⟩; cases e; exact h
mutual
theorem Rep.mono {M M' : Mem} (hM : M.le M') : ∀ s v d, Rep M s v d → Rep M' s v d
  | .int k, v, d, h => by rw [Rep_int] at *; exact h
  | .bool, v, d, h => by rw [Rep_bool] at *; exact h
  | .str, v, d, h => by rw [Rep_str] at *; exact h
  | .lst es, v, d, h => by
    rw [Rep_lst] at *
    obtain ⟨l, h1, h2, h3⟩ := h
    refine ⟨l, h1, h2, h3.imp id ?_⟩
    rintro ⟨b, off, sp, cap, e1, e0, e2, e3, e4⟩
    exact ⟨b, off, sp, cap, e1, e0, e2, e3, fun i x hx => RepCells.mono hM es _ _ _ _ (fun o v hv => hM _ _ _ hv) (e4 i x hx)⟩
theorem RepCells.mono {M M' : Mem} (hM : M.le M') : ∀ es rd rd' o ds, (∀ o v, rd o = some v → rd' o = some v) → RepCells M es rd o ds → RepCells M' es rd' o ds
  | [], rd, rd', o, ds, _, h => by rw [RepCells_nil] at *; exact h
  | s :: ss, rd, rd', o, ds, hr, h => by
    rw [RepCells_cons] at *
    obtain ⟨d, ds', e, ⟨v, hv, hr'⟩, ht⟩ := h
    exact ⟨d, ds', e, ⟨v, hr _ _ hv, Rep.mono hM s v d hr'⟩, RepCells.mono hM ss rd rd' (o + 1) ds' hr ht⟩
end
theorem RepCells.length {M : Mem} : ∀ {es rd o ds}, RepCells M es rd o ds → ds.length = es.length
  | [], _, _, _, h => by rw [RepCells_nil] at h; subst h; rfl
  | s :: ss, rd, o, ds, h => by
    rw [RepCells_cons] at h
    obtain ⟨d, ds', rfl, _, ht⟩ := h
    simp [RepCells.length ht]
theorem RepCells.get {M : Mem} : ∀ {es rd o ds} (j : Nat) (s : Sh), RepCells M es rd o ds → es[j]? = some s → ∃ v d, ds[j]? = some d ∧ rd (o + j) = some v ∧ Rep M s v d
  | [], _, _, _, j, s, h, hj => by simp at hj
  | s :: ss, rd, o, ds, j, s', h, hj => by
    rw [RepCells_cons] at h
    obtain ⟨d, ds', rfl, ⟨v, hv, hr⟩, ht⟩ := h
    cases j with
    | zero => simp at hj; subst hj; exact ⟨v, d, rfl, hv, hr⟩
    | succ j =>
      obtain ⟨v', d', h1, h2, h3⟩ := RepCells.get j s' ht (by simpa using hj)
      exact ⟨v', d', by simpa using h1, by rw [← h2]; congr 1; omega, h3⟩
theorem RepCells.mk {M : Mem} : ∀ {es rd o ds}, ds.length = es.length → (∀ j s, es[j]? = some s → ∃ v d, ds[j]? = some d ∧ rd (o + j) = some v ∧ Rep M s v d) → RepCells M es rd o ds
  | [], _, _, ds, hl, _ => by rw [RepCells_nil]; exact List.length_eq_zero_iff.1 hl
  | s :: ss, rd, o, ds, hl, h => by
    cases ds with
    | nil => simp at hl
    | cons d ds =>
      rw [RepCells_cons]
      obtain ⟨v, d', h1, h2, h3⟩ := h 0 s rfl
      simp at h1
      subst h1
      refine ⟨d, ds, rfl, ⟨v, by simpa using h2, h3⟩, RepCells.mk (by simpa using hl) fun j s' hj => ?_⟩
      obtain ⟨v', d', g1, g2, g3⟩ := h (j + 1) s' (by simpa using hj)
      exact ⟨v', d', by simpa using g1, by rw [← g2]; congr 1; omega, g3⟩
theorem Mem.le.refl (M : Mem) : M.le M := fun _ _ _ h => h
theorem Mem.le.trans {A B C : Mem} (h : A.le B) (k : B.le C) : A.le C := fun _ _ _ x => k _ _ _ (h _ _ _ x)

end Go.Proofs.Ytindphofgojfbaa.Sy
