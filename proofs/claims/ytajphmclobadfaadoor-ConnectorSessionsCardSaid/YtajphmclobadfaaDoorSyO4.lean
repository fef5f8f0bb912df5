/-
  A part of a symbolic walk that is proved sound: what the functions of a program do with data. No conditions.
-/
import Derived.Test.YtajphmclobadfaaDoorSyO3
import Derived.LaidLaws
import Derived.ChangeArms
import Derived.OpenShut
set_option linter.unusedSimpArgs false
set_option linter.unusedVariables false
namespace Go.Proofs.YtajphmclobadfaaDoor.Sy
open Go.RowKit Go.WideShapes Go.ChangeShapes

/-! A package's table that is laid: from the row's word to the data. -/
def litPs (P : Program) (f : TypeId → DataW Unit → Option (List Value)) : List (Nat × TypeId) → List (DataW Unit) → Nat → Option (List Value)
  | [], [], _ => some []
  | (o, t) :: ps, d :: ds, a =>
    if Nat.beq o a then
      match f t d with
      | some v => if Nat.beq v.length (P.cellsOf t) then
          match litPs P f ps ds (a + v.length) with
          | some r => some (v ++ r)
          | none => none
        else none
      | none => none
    else none
  | _, _, _ => none
def litCells (P : Program) : Nat → TypeId → DataW Unit → Option (List Value)
  | 0, _, _ => none
  | n + 1, t, d =>
    match P.underlying t, d with
    | some (.int _), .lit (.int j z) => some [.int j z]
    | some .bool, .lit (.bool b) => some [.bool b]
    | some (.array k e), .agg ds =>
      match litPs P (litCells P n) ((List.range k).map fun i => (i * P.cellsOf e, e)) ds 0 with
      | some r => if Nat.beq r.length (P.cellsOf t) then some r else none
      | none => none
    | some (.struct fs), .agg ds =>
      match litPs P (litCells P n) (fs.toList.map fun f => (f.offset, f.type)) ds 0 with
      | some r => if Nat.beq r.length (P.cellsOf t) then some r else none
      | none => none
    | _, _ => none
section
variable {P : Program} {W : World}
theorem litPs_sound {f : TypeId → DataW Unit → Option (List Value)} {T : TypeId → List Value → Option (DataW Unit × List MemPlace)} (hf : ∀ t d v cs p, f t d = some v → T t cs = some (d, p) → cs = v) {cs : List Value} : ∀ (ps : List (Nat × TypeId)) (ds : List (DataW Unit)) (a : Nat) (r : List Value), litPs P f ps ds a = some r →
    (∀ (i o : Nat) (t : TypeId) (d : DataW Unit), ps[i]? = some (o, t) → ds[i]? = some d → ∃ p, T t ((cs.drop o).take (P.cellsOf t)) = some (d, p)) → cs.length = a + r.length → cs.drop a = r
  | [], [], a, r, h, _, hl => by
    simp only [litPs, Option.some.injEq] at h
    subst h
    exact List.drop_eq_nil_of_le (by simp at hl; omega)
  | (o, t) :: ps, d :: ds, a, r, h, hT, hl => by
    simp only [litPs] at h
    split at h
    · rename_i ho
      have ho := Nat.eq_of_beq_eq_true ho
      subst ho
      split at h
      · rename_i v hv
        split at h
        · rename_i hvl
          have hvl := Nat.eq_of_beq_eq_true hvl
          split at h
          · rename_i r' hr
            simp only [Option.some.injEq] at h
            subst h
            obtain ⟨p, hp⟩ := hT 0 o t d rfl rfl
            have e := hf t d v _ p hv hp
            have ih := litPs_sound hf (cs := cs) ps ds (o + v.length) r' hr (fun i o' t' d' h1 h2 => hT (i + 1) o' t' d' (by simpa using h1) (by simpa using h2)) (by simp at hl; omega)
            rw [← List.take_append_drop v.length (cs.drop o), List.drop_drop, ih, hvl, e]
          · cases h
        · cases h
      · cases h
    · cases h
  | [], _ :: _, _, _, h, _, _ => by simp [litPs] at h
  | (_, _) :: _, [], _, _, h, _, _ => by simp [litPs] at h
theorem litCells_sound : ∀ (n : Nat) (t : TypeId) (d : DataW Unit) (v cs : List Value) (fuel : Nat) (p : List MemPlace), litCells P n t d = some v → DataW.trod (fun _ => ()) P W 0 (fun _ => true) false fuel t cs = some (d, p) → cs = v
  | 0, _, _, _, _, _, _, h, _ => by simp [litCells] at h
  | n + 1, t, d, v, cs, fuel, p, h, hx => by
    unfold litCells at h
    split at h
    · rename_i k j z hu
      obtain ⟨m, rfl, he, _⟩ := DataW.trod_int hu hx
      cases he
      exact Option.some.inj h
    · rename_i b hu
      obtain ⟨m, rfl, he⟩ := DataW.trod_bool hu hx
      cases he
      exact Option.some.inj h
    · rename_i k e ds hu
      obtain ⟨xs, m, rfl, he, hl, hxl, hf⟩ := DataW.trod_array hu hx
      cases he
      split at h
      · rename_i r hr
        split at h
        · rename_i hrl
          have hrl := Nat.eq_of_beq_eq_true hrl
          cases h
          have := litPs_sound (P := P) (T := fun t cs => DataW.trod (fun _ => ()) P W 0 (fun _ => true) false m t cs) (fun t d v cs p h1 h2 => litCells_sound n t d v cs m p h1 h2) (cs := cs) _ _ 0 _ hr (fun i o t d h1 h2 => by
            simp only [List.getElem?_map, Option.map_eq_some_iff, Prod.mk.injEq] at h1 h2
            obtain ⟨i', h1, rfl, rfl⟩ := h1
            have hik : i < k := by simpa using (List.getElem?_eq_some_iff.1 h1).1
            obtain rfl : i' = i := by
              rw [List.getElem?_range hik] at h1
              exact (Option.some.inj h1).symm
            obtain ⟨x, h2, rfl⟩ := h2
            exact ⟨x.2, by rw [hf i' hik, h2]⟩) (by omega)
          simpa using this
        · cases h
      · cases h
    · rename_i fs ds hu
      obtain ⟨xs, m, rfl, he, hl, hxl, hf⟩ := DataW.trod_struct hu hx
      cases he
      split at h
      · rename_i r hr
        split at h
        · rename_i hrl
          have hrl := Nat.eq_of_beq_eq_true hrl
          cases h
          have := litPs_sound (P := P) (T := fun t cs => DataW.trod (fun _ => ()) P W 0 (fun _ => true) false m t cs) (fun t d v cs p h1 h2 => litCells_sound n t d v cs m p h1 h2) (cs := cs) _ _ 0 _ hr (fun i o t d h1 h2 => by
            simp only [List.getElem?_map, Option.map_eq_some_iff, Prod.mk.injEq] at h1 h2
            obtain ⟨f, h1, rfl, rfl⟩ := h1
            obtain ⟨x, h2, rfl⟩ := h2
            exact ⟨x.2, by rw [hf i f (by simpa using h1), h2]⟩) (by omega)
          simpa using this
        · cases h
      · cases h
    · cases h
def cellB : Sh → Value → D → Bool
  | .int k, .int j n, .int l m => decide (k = j) && decide (k = l) && decide (n = m) && decide (k.min ≤ n) && decide (n ≤ k.max)
  | .bool, .bool a, .bool b => decide (a = b)
  | _, _, _ => false
def cellsB : List Sh → List Value → List D → Bool
  | [], _, [] => true
  | s :: es, v :: vs, d :: ds => cellB s v d && cellsB es vs ds
  | _, _, _ => false
theorem cellB_sound {M : Mem} {s : Sh} {v : Value} {d : D} (h : cellB s v d = true) : Rep M s v d := by
  cases s <;> cases v <;> cases d <;> first | (simp [cellB] at h; done) | skip
  · simp only [cellB, Bool.and_eq_true, decide_eq_true_eq] at h
    obtain ⟨⟨⟨⟨rfl, rfl⟩, rfl⟩, h1⟩, h2⟩ := h
    rw [Rep_int]
    exact ⟨_, rfl, rfl, h1, h2⟩
  · simp only [cellB, decide_eq_true_eq] at h
    subst h
    rw [Rep_bool]
    exact ⟨_, rfl, rfl⟩
theorem cellsB_sound {M : Mem} : ∀ {es : List Sh} {vs : List Value} {ds : List D} {rd : Nat → Option Value} {o : Nat}, cellsB es vs ds = true → (∀ (j : Nat) v, vs[j]? = some v → rd (o + j) = some v) → RepCells M es rd o ds
  | [], vs, [], rd, o, h, hr => by rw [RepCells_nil]
  | s :: es, v :: vs, d :: ds, rd, o, h, hr => by
    simp only [cellsB, Bool.and_eq_true] at h
    rw [RepCells_cons]
    exact ⟨d, ds, rfl, ⟨v, hr 0 _ rfl, cellB_sound h.1⟩, cellsB_sound h.2 fun j v hj => by
      have := hr (j + 1) v (by simpa using hj)
      rw [← this]; congr 1; omega⟩
  | [], _, _ :: _, _, _, h, _ => by simp [cellsB] at h
  | _ :: _, [], _, _, _, h, _ => by simp [cellsB] at h
  | _ :: _, _ :: _, [], _, _, h, _ => by simp [cellsB] at h
def tabB (es : List Sh) (vs : List Value) (xs : List D) : Bool := (List.range xs.length).all fun i => cellsB es (vs.drop (i * es.length)) ((xs.getD i default).cells es)
def plainV : Value → Bool
  | .int _ _ => true
  | .bool _ => true
  | _ => false
theorem globOK_laid {name : String} {d : DataW Unit} {rest : List (String × DataW Unit)} {g : Nat} {t : TypeId} {es : List Sh} {e : E} {xs : List D} {vs : List Value} (hg : P.globalNamed name = some g) (hty : (P.globals[g]?).map (·.type) = some t) (hlit : litCells P 8 t d = some vs) (hpl : vs.all plainV = true) (hE : ∀ ρ, e.den ρ = .lst xs) (hc : tabB es vs xs = true) (h : laidMet P ((name, d) :: rest) W) : GlobOK [(g, es, e)] (M0 W) := by
  obtain ⟨ps, ⟨g', t', cs, fuel, p, q, hg', ht', hvar, hd, _, _⟩, _⟩ := h
  obtain rfl := Option.some.inj (hg.symm.trans hg')
  obtain rfl := Option.some.inj (hty.symm.trans ht')
  have hcs := litCells_sound 8 t d vs cs.toList fuel p hlit hd
  intro q hq ρ
  rw [List.mem_singleton] at hq
  subst hq
  refine ⟨xs, hE ρ, fun i x hi => ?_⟩
  have hil : i < xs.length := (List.getElem?_eq_some_iff.1 hi).1
  have hx : xs.getD i default = x := by rw [List.getD_eq_getElem?_getD, hi]; rfl
  have hcb := List.all_eq_true.1 hc i (List.mem_range.2 hil)
  rw [hx] at hcb
  refine cellsB_sound hcb fun j v hj => ?_
  simp only [Nat.zero_add]
  rw [List.getElem?_drop] at hj
  have hv : W.cell? ⟨g, i * es.length + j, none⟩ = some v := by
    have := World.var?_cell hg hvar (i * es.length + j)
    rw [this, ← hj, ← hcs]
    simp
  refine M0_of hv ?_
  have hp := List.all_eq_true.1 hpl v (List.mem_of_getElem? hj)
  cases v <;> first | (simp [plainV] at hp; done) | trivial | (simp [One]; done) | exact rfl
end
end Go.Proofs.YtajphmclobadfaaDoor.Sy
