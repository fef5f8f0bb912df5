/-
  A part of a symbolic walk that is proved sound: what the functions of a program do with data. No conditions.
-/
import Derived.Test.YtindphofgojfbaaSyXd
import Derived.ChangeSlices
import Derived.OpenShut
import Derived.WideShapes
import Derived.ChangeShapes
set_option linter.unusedSimpArgs false
set_option linter.unusedVariables false
namespace Go.Proofs.Ytindphofgojfbaa.Sy
open Go.RowKit Go.WideShapes Go.ChangeShapes
def M0 (w : World) : Mem := fun b o => match w.cell? ⟨b, o, none⟩ with
  | some v => if oneB v then some v else none
  | none => none
theorem M0_of {w : World} {b o : Nat} {v : Value} (h : w.cell? ⟨b, o, none⟩ = some v) (h1 : One v) : M0 w b o = some v := by
  simp only [M0, h]; exact if_pos h1
theorem M0_ok (w : World) : MemOK (M0 w) w := by
  intro b o v h
  unfold M0 at h
  split at h
  · rename_i u hu
    split at h
    · rename_i h1; cases h; exact ⟨hu, h1⟩
    · cases h
  · cases h

def readB (P : Program) : Nat → TypeId → List Sh → Bool
  | 0, _, _ => false
  | n + 1, t, es => match P.underlying t, es with
    | some (.int k), [.int j] => decide (k = j)
    | some .bool, [.bool] => true
    | some .string, [.str] => true
    | some (.slice e), [.lst es'] => Nat.beq es'.length (P.cellsOf e) && Nat.blt 0 es'.length && readB P n e es'
    | some (.struct fs), es => Nat.beq es.length (P.cellsOf t) &&
        (fs.toList.all fun f => readB P n f.type ((es.drop f.offset).take (P.cellsOf f.type))) &&
        (List.range es.length).all fun j => fs.toList.any fun f => Nat.ble f.offset j && Nat.blt j (f.offset + P.cellsOf f.type)
    | some (.array k e), es => Nat.beq es.length (P.cellsOf t) && Nat.beq es.length (k * P.cellsOf e) && Nat.blt 0 (P.cellsOf e) &&
        (List.range k).all fun i => readB P n e ((es.drop (i * P.cellsOf e)).take (P.cellsOf e))
    | _, _ => false

def Good (M : Mem) (es : List Sh) (cs : List Value) : Prop := cs.length = es.length ∧ ∀ (j : Nat) s, es[j]? = some s → ∃ v d, cs[j]? = some v ∧ Rep M s v d
theorem Good.one {M : Mem} {s : Sh} {v : Value} {d : D} (h : Rep M s v d) : Good M [s] [v] := ⟨rfl, fun j s' hj => by
  cases j with
  | zero => cases hj; exact ⟨v, d, rfl, h⟩
  | succ j => simp at hj⟩
theorem Good.cells {M : Mem} : ∀ {es : List Sh} {cs : List Value} {rd : Nat → Option Value} {o : Nat}, Good M es cs → (∀ (j : Nat) v, cs[j]? = some v → rd (o + j) = some v) → ∃ ds, RepCells M es rd o ds
  | [], cs, rd, o, h, hr => ⟨[], by rw [RepCells_nil]⟩
  | s :: es, cs, rd, o, h, hr => by
    obtain ⟨h1, h2⟩ := h
    obtain ⟨v, d, g1, g2⟩ := h2 0 s rfl
    cases cs with
    | nil => simp at g1
    | cons c cs =>
      simp at g1
      subst g1
      obtain ⟨ds, hds⟩ := Good.cells (es := es) (cs := cs) (rd := rd) (o := o + 1) ⟨by simpa using h1, fun j s' hj => by
        obtain ⟨v', d', q1, q2⟩ := h2 (j + 1) s' (by simpa using hj)
        exact ⟨v', d', by simpa using q1, q2⟩⟩ (fun j v' hj => by
          have := hr (j + 1) v' (by simpa using hj)
          rw [← this]; congr 1; omega)
      refine ⟨d :: ds, ?_⟩
      rw [RepCells_cons]
      exact ⟨d, ds, rfl, ⟨c, hr 0 c rfl, g2⟩, hds⟩
theorem Good.elem {M : Mem} {es : List Sh} {cs : List Value} {rd : Nat → Option Value} (h : Good M es cs) (hr : ∀ (j : Nat) v, cs[j]? = some v → rd j = some v) : ∃ x : D, RepCells M es rd 0 (x.cells es) := by
  obtain ⟨ds, hds⟩ := h.cells (rd := rd) (o := 0) (fun j v hj => by rw [Nat.zero_add]; exact hr j v hj)
  by_cases h1 : es.length = 1
  · have hl := hds.length
    rw [h1] at hl
    obtain ⟨d, rfl⟩ := List.length_eq_one_iff.1 hl
    exact ⟨d, by simpa [D.cells, h1] using hds⟩
  · exact ⟨.rc ds, by simpa [D.cells, h1] using hds⟩

theorem list_choice {α : Type} {p : Nat → α → Prop} : ∀ (n : Nat), (∀ i, i < n → ∃ x, p i x) → ∃ l : List α, l.length = n ∧ ∀ i x, l[i]? = some x → p i x
  | 0, _ => ⟨[], rfl, fun i x hx => by simp at hx⟩
  | n + 1, h => by
    obtain ⟨l, h1, h2⟩ := list_choice n fun i hi => h i (by omega)
    obtain ⟨x, hx⟩ := h n (by omega)
    refine ⟨l ++ [x], by simp [h1], fun i y hy => ?_⟩
    rw [List.getElem?_append] at hy
    split at hy
    · exact h2 i y hy
    · rename_i hi
      rcases Nat.lt_or_ge (i - l.length) 1 with h3 | h3
      · have h4 : i - l.length = 0 := by omega
        rw [h4] at hy
        simp at hy
        subst hy
        rw [show i = n by omega]; exact hx
      · rw [List.getElem?_eq_none (by simpa using h3)] at hy; cases hy

section
variable {H : Type} {enc : TypeId × Value → H} {P : Program} {w : World} {base : Nat} {held : Bool}

theorem wf_rng {k : IntKind} {n : Int} (h : (Lit.int k n).wf = true) : k.min ≤ n ∧ n ≤ k.max := by
  simpa [Lit.wf] using h

theorem spot_of_cell {w : World} {a : Addr} {v : Value} (h : w.cell? a = some v) : a.spot = none := by
  unfold World.cell? at h
  split at h
  · split at h
    · cases h
    · rename_i hs
      cases hsp : a.spot with
      | none => rfl
      | some x => rw [hsp] at hs; simp at hs
  · cases h

theorem add_spot {a : Addr} (h : a.spot = none) (n : Nat) : a.add n = ⟨a.block, a.off + n, none⟩ := by
  obtain ⟨b, o, s⟩ := a
  simp only at h
  subst h
  unfold Addr.add
  split
  · rename_i e; subst e; rfl
  · rfl

theorem read_good : ∀ (n : Nat) (t : TypeId) (es : List Sh) (cs : List Value) (fuel : Nat) (x : DataW H × List MemPlace), readB P n t es = true → DataW.trod enc P w base (fun _ => true) held fuel t cs = some x → Good (M0 w) es cs
  | 0, _, _, _, _, _, h, _ => by simp [readB] at h
  | n + 1, t, es, cs, fuel, x, h, hx => by
    unfold readB at h
    split at h
    · rename_i k j hu
      have hk := of_decide_eq_true h
      subst hk
      obtain ⟨m, rfl, _, hw⟩ := DataW.trod_int hu hx
      exact Good.one (d := .int k m) (by rw [Rep_int]; exact ⟨m, rfl, rfl, wf_rng hw⟩)
    · rename_i hu
      obtain ⟨b, rfl, _⟩ := DataW.trod_bool hu hx
      exact Good.one (d := .bool b) (by rw [Rep_bool]; exact ⟨b, rfl, rfl⟩)
    · rename_i hu
      obtain ⟨s, rfl, _, hs⟩ := DataW.trod_string hu hx
      exact Good.one (d := .str s) (by rw [Rep_str]; exact ⟨s, rfl, rfl, hs⟩)
    · rename_i e es' hu
      simp only [Bool.and_eq_true] at h
      obtain ⟨⟨h1, h2⟩, h3⟩ := h
      have h1 := Nat.eq_of_beq_eq_true h1
      have h2 : 0 < es'.length := by have := h2; simp [Nat.blt] at this; omega
      rcases DataW.trod_slice hu hx with ⟨rfl, _⟩ | ⟨a, len, cap, elems, rest, m, _, rfl, _, _, hl, hc, hlen, hel, hsp, _⟩
      · exact Good.one (d := .lst []) (by rw [Rep_lst]; exact ⟨[], rfl, by simp, .inl ⟨rfl, rfl⟩⟩)
      · obtain ⟨hrl, hr⟩ := hsp rfl
        have each : ∀ i, i < cap → ∃ cs', w.cells? base (a.add (i * P.cellsOf e)) (P.cellsOf e) = some cs' ∧ Good (M0 w) es' cs' := by
          intro i hi
          have hb : ∃ y, (w.cells? base (a.add (i * P.cellsOf e)) (P.cellsOf e)).bind (DataW.trod enc P w base (fun _ => true) held m e) = some y := by
            by_cases hil : i < len
            · exact ⟨elems[i]'(by omega), by rw [hel i hil]; exact List.getElem?_eq_getElem (by omega)⟩
            · have := hr (i - len) (by omega)
              rw [show len + (i - len) = i by omega] at this
              exact ⟨rest[i - len]'(by omega), by rw [this]; exact List.getElem?_eq_getElem (by omega)⟩
          obtain ⟨y, hy⟩ := hb
          rw [Option.bind_eq_some_iff] at hy
          obtain ⟨cs', q1, q2⟩ := hy
          exact ⟨cs', q1, read_good n e es' cs' m y h3 q2⟩
        have hspot : 0 < cap → a.spot = none := by
          intro h0
          obtain ⟨cs', q1, q2⟩ := each 0 h0
          obtain ⟨_, q3, q4⟩ := World.cells?_some q1
          have := q4 0 (by omega)
          rw [List.getElem?_eq_getElem (by omega)] at this
          simp only [Nat.zero_mul] at this
          exact spot_of_cell (a := a) (by simpa [Addr.add] using this)
        obtain ⟨l, hll, hlx⟩ := list_choice (p := fun i x => RepCells (M0 w) es' (fun o => M0 w a.block (a.off + i * es'.length + o)) 0 (D.cells es' x)) len fun i hi => by
          obtain ⟨cs', q1, q2⟩ := each i (by omega)
          obtain ⟨_, q3, q4⟩ := World.cells?_some q1
          refine q2.elem fun j v hj => ?_
          have hjl : j < cs'.length := (List.getElem?_eq_some_iff.1 hj).1
          have h5 := q4 j (by omega)
          rw [hj, add_spot (hspot (by omega)), add_spot rfl, ← h1] at h5
          obtain ⟨v', d', r1, r2⟩ := q2.2 j (es'[j]'(by rw [← q2.1]; exact hjl)) (List.getElem?_eq_getElem _)
          rw [hj] at r1
          cases r1
          exact M0_of h5 r2.one
        refine Good.one (d := .lst l) ?_
        rw [Rep_lst]
        obtain ⟨b, o, sp⟩ := a
        exact ⟨l, rfl, by omega, .inr ⟨b, o, sp, cap, by rw [hll], hspot, by omega, hc, hlx⟩⟩
    · rename_i es _ _ fs hu
      simp only [Bool.and_eq_true] at h
      obtain ⟨⟨h1, h2⟩, h3⟩ := h
      have h1 := Nat.eq_of_beq_eq_true h1
      obtain ⟨xs, m, _, _, hl, hxl, hf⟩ := DataW.trod_struct hu hx
      refine ⟨by omega, fun j s hj => ?_⟩
      have hjl : j < es.length := (List.getElem?_eq_some_iff.1 hj).1
      have := List.all_eq_true.1 h3 j (List.mem_range.2 hjl)
      obtain ⟨f, hfm, hfj⟩ := List.any_eq_true.1 this
      have hrd := List.all_eq_true.1 h2 f hfm
      obtain ⟨i, hi⟩ := List.getElem?_of_mem hfm
      have hi' : fs[i]? = some f := by simpa using hi
      have hil : i < fs.size := (Array.getElem?_eq_some_iff.1 hi').1
      have hx' := hf i f hi'
      rw [List.getElem?_eq_getElem (by omega)] at hx'
      obtain ⟨g1, g2⟩ := read_good n f.type _ _ m _ hrd hx'
      simp only [Bool.and_eq_true, Nat.blt, Nat.ble_eq] at hfj
      obtain ⟨v, d, r1, r2⟩ := g2 (j - f.offset) s (by rw [List.getElem?_take, if_pos (by omega), List.getElem?_drop, ← hj]; congr 1; omega)
      refine ⟨v, d, ?_, r2⟩
      rw [List.getElem?_take, if_pos (by omega), List.getElem?_drop] at r1
      rw [← r1]; congr 1; omega
    · rename_i es _ _ k e hu
      simp only [Bool.and_eq_true] at h
      obtain ⟨⟨⟨h1, h2⟩, h3⟩, h4⟩ := h
      have h1 := Nat.eq_of_beq_eq_true h1
      have h2 := Nat.eq_of_beq_eq_true h2
      have h3 : 0 < P.cellsOf e := by have := h3; simp [Nat.blt] at this; omega
      obtain ⟨xs, m, _, _, hl, hxl, hf⟩ := DataW.trod_array hu hx
      refine ⟨by omega, fun j s hj => ?_⟩
      have hjl : j < es.length := (List.getElem?_eq_some_iff.1 hj).1
      have hq : j / P.cellsOf e < k := by rw [Nat.div_lt_iff_lt_mul h3]; omega
      have hml : j % P.cellsOf e < P.cellsOf e := Nat.mod_lt _ h3
      have hdm : j / P.cellsOf e * P.cellsOf e + j % P.cellsOf e = j := by rw [Nat.mul_comm]; exact Nat.div_add_mod _ _
      have hrd := List.all_eq_true.1 h4 _ (List.mem_range.2 hq)
      have hx' := hf _ hq
      rw [List.getElem?_eq_getElem (by omega)] at hx'
      obtain ⟨g1, g2⟩ := read_good n e _ _ m _ hrd hx'
      obtain ⟨v, d, r1, r2⟩ := g2 (j % P.cellsOf e) s (by rw [List.getElem?_take, if_pos hml, List.getElem?_drop, ← hj, hdm])
      refine ⟨v, d, ?_, r2⟩
      rw [List.getElem?_take, if_pos hml, List.getElem?_drop, hdm] at r1
      exact r1
    · cases h

def tsB (P : Program) (t : TypeId) : TS → Bool
  | .c s => !aggB P t && readB P 8 t [s]
  | .g l => aggB P t && readB P 8 t l
  | _ => false

theorem read_ts {r : Reach} {b0 : Nat} {t : TypeId} {T : TS} {v : Value} {d : DataW H} {ps : List MemPlace} (hT : tsB P t T = true) (hv : Value.okWide P w r b0 t v) (h : DataW.Trod enc P w base (fun _ => true) held t v d ps) : ∃ x, RepT (M0 w) T v x := by
  obtain ⟨fuel, hf⟩ := h
  cases T with
  | c s =>
    simp only [tsB, Bool.and_eq_true, Bool.not_eq_true'] at hT
    obtain ⟨h1, h2⟩ := hT
    obtain ⟨g1, g2⟩ := read_good 8 t [s] _ fuel _ h2 hf
    obtain ⟨u, x, r1, r2⟩ := g2 0 s rfl
    have hv' : v.cells = #[v] := by
      unfold Value.okWide at hv
      unfold aggB at h1
      split at hv
      · rename_i hu; rw [hu] at h1; simp at h1
      · rename_i hu; rw [hu] at h1; simp at h1
      · have : ∀ cs, v ≠ .agg cs := by
          rintro cs rfl
          unfold Cell.okWide at hv
          split at hv
          all_goals first | (rename_i h9; cases h9) | skip
          all_goals (simp only [Cell.ok] at hv; split at hv <;> first | (rename_i h9; cases h9) | exact hv)
        cases v <;> first | rfl | exact absurd rfl (this _)
    rw [hv'] at r1
    simp at r1
    subst r1
    exact ⟨x, r2⟩
  | g l =>
    simp only [tsB, Bool.and_eq_true] at hT
    obtain ⟨h1, h2⟩ := hT
    obtain ⟨g1, g2⟩ := read_good 8 t l _ fuel _ h2 hf
    have hv' : ∃ cs, v = .agg cs := by
      unfold Value.okWide at hv
      unfold aggB at h1
      split at hv
      · obtain ⟨cs, h, _⟩ := hv; exact ⟨cs, h⟩
      · obtain ⟨cs, h, _⟩ := hv; exact ⟨cs, h⟩
      · rename_i q1 q2
        split at h1
        · rename_i fs hu; exact absurd hu (q1 fs)
        · rename_i k e hu; exact absurd hu (q2 k e)
        · cases h1
    obtain ⟨cs, rfl⟩ := hv'
    obtain ⟨ds, hds⟩ := Good.cells (es := l) (cs := cs.toList) (rd := fun o => cs.toList[o]?) (o := 0) ⟨g1, g2⟩ (fun j v hj => by simpa using hj)
    exact ⟨.rc ds, cs.toList, ds, by simp, rfl, g1, hds⟩
  | _ => simp [tsB] at hT

inductive RepTs (M : Mem) : List TS → List Value → List D → Prop
  | nil : RepTs M [] [] []
  | cons {t ts v vs d ds} : RepT M t v d → RepTs M ts vs ds → RepTs M (t :: ts) (v :: vs) (d :: ds)
theorem RepTs.args {M : Mem} {w : World} : ∀ {ts : List TS} {vs : List Value} {ds : List D}, RepTs M ts vs ds → ArgsR M w ts vs ds [] ∧ outsT ts = []
  | _, _, _, .nil => ⟨.nil, rfl⟩
  | t :: ts, v :: vs, d :: ds, .cons h1 h2 => by
    obtain ⟨g1, g2⟩ := RepTs.args (w := w) h2
    cases t with
    | c s => exact ⟨ArgsR.cons (ps := []) ⟨h1, rfl⟩ g1, g2⟩
    | g l => exact ⟨ArgsR.cons (ps := []) ⟨h1, rfl⟩ g1, g2⟩
    | r _ => exact h1.elim
    | h _ => exact h1.elim
    | p _ => exact h1.elim
    | i _ _ => exact h1.elim
def tssB (P : Program) : List TypeId → List TS → Bool
  | [], [] => true
  | t :: l, T :: Ts => tsB P t T && tssB P l Ts
  | _, _ => false
theorem read_tss : ∀ {r : Reach} {b0 : Nat} (l : List TypeId) (Ts : List TS) (vs : List Value) {ds : List (DataW H)} {ps : List MemPlace}, tssB P l Ts = true → (∀ (j : Nat) t v, l[j]? = some t → vs[j]? = some v → Value.okWide P w r b0 t v) → DataW.TrodAll enc P w base (fun _ => true) held l vs ds ps → ∃ xs, RepTs (M0 w) Ts vs xs
  | r, b0, [], [], vs, ds, ps, _, _, h => by
    obtain ⟨rfl, rfl, rfl⟩ := trodAll_nil h
    exact ⟨[], .nil⟩
  | r, b0, t :: l, T :: Ts, vs, ds, ps, hT, hv, h => by
    simp only [tssB, Bool.and_eq_true] at hT
    obtain ⟨v, vs', d, ds', p, q, rfl, rfl, rfl, h1, h2⟩ := trodAll_cons h
    obtain ⟨x, hx⟩ := read_ts hT.1 (hv 0 t v rfl rfl) h1
    obtain ⟨xs, hxs⟩ := read_tss l Ts vs' hT.2 (fun j t' v' hj hj' => hv (j + 1) t' v' (by simpa using hj) (by simpa using hj')) h2
    exact ⟨x :: xs, .cons hx hxs⟩
  | r, b0, [], _ :: _, _, _, _, hT, _, _ => by simp [tssB] at hT
  | r, b0, _ :: _, [], _, _, _, hT, _, _ => by simp [tssB] at hT

mutual
def Typ : Sh → D → Prop
  | .int k, d => ∃ n, d = .int k n ∧ k.min ≤ n ∧ n ≤ k.max
  | .bool, d => ∃ b, d = .bool b
  | .str, d => ∃ s, d = .str s ∧ s.size ≤ maxLen
  | .lst es, d => ∃ l, d = .lst l ∧ l.length ≤ maxLen ∧ ∀ x ∈ l, Typs es (x.cells es)
def Typs : List Sh → List D → Prop
  | [], ds => ds = []
  | s :: ss, ds => ∃ d ds', ds = d :: ds' ∧ Typ s d ∧ Typs ss ds'
end
mutual
theorem Rep.typ {M : Mem} : ∀ {s : Sh} {v : Value} {d : D}, Rep M s v d → Typ s d
  | .int k, v, d, h => by rw [Rep_int] at h; unfold Typ; obtain ⟨n, _, h⟩ := h; exact ⟨n, h⟩
  | .bool, v, d, h => by rw [Rep_bool] at h; unfold Typ; obtain ⟨n, _, h⟩ := h; exact ⟨n, h⟩
  | .str, v, d, h => by rw [Rep_str] at h; unfold Typ; obtain ⟨n, _, h⟩ := h; exact ⟨n, h⟩
  | .lst es, v, d, h => by
    rw [Rep_lst] at h
    unfold Typ
    obtain ⟨l, h1, h2, h3⟩ := h
    refine ⟨l, h1, h2, fun x hx => ?_⟩
    rcases h3 with ⟨_, rfl⟩ | ⟨b, off, sp, cap, _, _, _, _, h4⟩
    · cases hx
    · obtain ⟨i, hi⟩ := List.getElem?_of_mem hx
      exact RepCells.typ (h4 i x hi)
theorem RepCells.typ {M : Mem} : ∀ {es : List Sh} {rd : Nat → Option Value} {o : Nat} {ds : List D}, RepCells M es rd o ds → Typs es ds
  | [], rd, o, ds, h => by rw [RepCells_nil] at h; unfold Typs; exact h
  | s :: ss, rd, o, ds, h => by
    rw [RepCells_cons] at h
    unfold Typs
    obtain ⟨d, ds', e, ⟨v, _, h1⟩, h2⟩ := h
    exact ⟨d, ds', e, Rep.typ h1, RepCells.typ h2⟩
end
def TypT : TS → D → Prop
  | .c s, d => Typ s d
  | .g l, d => ∃ ds, d = .rc ds ∧ Typs l ds
  | _, _ => False
def TypTs : List TS → List D → Prop
  | [], ds => ds = []
  | t :: ts, ds => ∃ d ds', ds = d :: ds' ∧ TypT t d ∧ TypTs ts ds'
theorem RepT.typ {M : Mem} {T : TS} {v : Value} {d : D} (h : RepT M T v d) : TypT T d := by
  cases T with
  | c s => exact Rep.typ h
  | g l => obtain ⟨vs, ds, _, h1, _, h2⟩ := h; exact ⟨ds, h1, h2.typ⟩
  | _ => exact h.elim
theorem RepTs.typ {M : Mem} : ∀ {ts : List TS} {vs : List Value} {ds : List D}, RepTs M ts vs ds → TypTs ts ds
  | _, _, _, .nil => rfl
  | _, _, _, .cons h1 h2 => ⟨_, _, rfl, h1.typ, h2.typ⟩

theorem law_walk {f : FuncId} {fn : Func} {gl : Globs} (hG : GlobOK gl (M0 w)) {Ts : List TS} (hT : tssB P fn.params.toList Ts = true) (hF : ∀ xs, TypTs Ts xs → Fun P gl f Ts xs [.c .bool] (.ok [.bool true]))
    {r : Reach} {b0 : Nat} {args : Array Value} {ds : List (DataW H)} {ps : List MemPlace}
    (hv : ∀ (j : Nat) t v, fn.params[j]? = some t → args[j]? = some v → Value.okWide P w r b0 t v) (hA : DataW.TrodAll enc P w base (fun _ => true) held fn.params.toList args.toList ds ps) :
    Calls P f args w fun e w' => e = .returned (.bool true) ∧ Below w.heap.size w w' := by
  obtain ⟨xs, hxs⟩ := read_tss fn.params.toList Ts args.toList hT (fun j t v h1 h2 => hv j t v (by simpa using h1) (by simpa using h2)) hA
  obtain ⟨ha, ho⟩ := hxs.args (w := w)
  have := hF xs hxs.typ w (M0 w) args.toList [] (M0_ok w) hG ha (fun i j p q hi => by simp at hi)
  rw [show args.toList.toArray = args by simp] at this
  refine this.mono fun e w' h => ?_
  obtain ⟨v, M', ps1, ps2, rs1, rs2, h1, h2, hb, _, _, _, hres, hout, _, _⟩ := h
  obtain ⟨r, h4, h5⟩ := hres
  rw [ho] at hout
  have hr2 : rs2 = [] := by
    have := hout.lens.2
    exact List.length_eq_zero_iff.1 (by simpa using this)
  subst hr2
  simp at h2
  subst h4
  simp at h2
  subst h2
  obtain ⟨h5, _⟩ := h5
  rw [Rep_bool] at h5
  obtain ⟨b, rfl, h6⟩ := h5
  cases h6
  exact ⟨h1, hb.below (fun k hk => by obtain ⟨p, hp, _⟩ := hk; cases hp)⟩
end

end Go.Proofs.Ytindphofgojfbaa.Sy
set_option linter.unusedSimpArgs false
set_option linter.unusedVariables false
namespace Go.Proofs.Ytindphofgojfbaa.Sy
open Go.RowKit
section
variable {P : Program} {G : Globs} {K : FR → Prop} {Λ : List Lp} {ρ : List D}
theorem den_ite {e : E} {a b : VC} (h1 : (e.den ρ).toB = true → a.den P G K Λ ρ) (h2 : (e.den ρ).toB = false → b.den P G K Λ ρ) : (VC.ite e a b).den P G K Λ ρ := ⟨h1, h2⟩
theorem den_ret {rs : List E} (h : K (.ok (rs.map (·.den ρ)))) : (VC.ret rs).den P G K Λ ρ := h
theorem den_ev {l : List Ev} {k : VC} (h : evsP P G l ρ fun ρ' => k.den P G K Λ ρ') : (VC.ev l k).den P G K Λ ρ := h
theorem evs_nil {k : List D → Prop} (h : k ρ) : evsP P G [] ρ k := h
theorem evs_ob {e : E} {l : List Ev} {k : List D → Prop} (h : (e.den ρ).toB = true) (hk : evsP P G l ρ k) : evsP P G (.ob e :: l) ρ k := ⟨h, hk⟩
def shB : List Sh → List D → Bool
  | [], [] => true
  | .int k :: r, .int j _ :: l => decide (k = j) && shB r l
  | .bool :: r, .bool _ :: l => shB r l
  | .str :: r, .str _ :: l => shB r l
  | .lst _ :: r, .lst _ :: l => shB r l
  | _, _ => false
theorem exSh_of : ∀ {shs : List Sh} {xs : List D} {f : List D → Prop}, shB shs xs = true → f xs → ExSh shs f
  | [], [], f, _, h => h
  | .int k :: r, .int j n :: l, f, hb, h => by
    simp only [shB, Bool.and_eq_true, decide_eq_true_eq] at hb
    obtain ⟨e, hb⟩ := hb
    subst e
    exact ⟨n, exSh_of hb h⟩
  | .bool :: r, .bool b :: l, f, hb, h => ⟨b, exSh_of hb h⟩
  | .str :: r, .str b :: l, f, hb, h => ⟨b, exSh_of hb h⟩
  | .lst _ :: r, .lst b :: l, f, hb, h => ⟨b, exSh_of hb h⟩
  | [], _ :: _, f, hb, h => by simp [shB] at hb
  | .int _ :: _, [], f, hb, h | .bool :: _, [], f, hb, h | .str :: _, [], f, hb, h | .lst _ :: _, [], f, hb, h => by simp [shB] at hb
  | .int _ :: _, .bool _ :: _, f, hb, h | .int _ :: _, .str _ :: _, f, hb, h | .int _ :: _, .lst _ :: _, f, hb, h | .int _ :: _, .rc _ :: _, f, hb, h => by simp [shB] at hb
  | .bool :: _, .int _ _ :: _, f, hb, h | .bool :: _, .str _ :: _, f, hb, h | .bool :: _, .lst _ :: _, f, hb, h | .bool :: _, .rc _ :: _, f, hb, h => by simp [shB] at hb
  | .str :: _, .int _ _ :: _, f, hb, h | .str :: _, .bool _ :: _, f, hb, h | .str :: _, .lst _ :: _, f, hb, h | .str :: _, .rc _ :: _, f, hb, h => by simp [shB] at hb
  | .lst _ :: _, .int _ _ :: _, f, hb, h | .lst _ :: _, .bool _ :: _, f, hb, h | .lst _ :: _, .str _ :: _, f, hb, h | .lst _ :: _, .rc _ :: _, f, hb, h => by simp [shB] at hb
theorem evs_call {f : FuncId} {ts : List TS} {as : List E} {us : List TS} {n : Nat} {l : List Ev} {k : List D → Prop} {ds rs : List D} (xs : List D) (hx : shB ((us ++ outsT ts).flatMap TS.flat) xs = true) (h : Fun P G f ts ds us (.ok rs)) (ha : as.map (·.den ρ) = ds) (hr : datas (us ++ outsT ts) xs = rs) (hk : evsP P G l (ρ ++ xs) k) : evsP P G (.call f ts as us n :: l) ρ k := by
  subst ha hr
  exact exSh_of hx ⟨h, hk⟩
theorem den_cal {f : FuncId} {ts : List TS} {as : List E} {us : List TS} {n : Nat} {k : VC} {ds rs : List D} (xs : List D) (hx : shB ((us ++ outsT ts).flatMap TS.flat) xs = true) (h : Fun P G f ts ds us (.ok rs)) (ha : as.map (·.den ρ) = ds) (hr : datas (us ++ outsT ts) xs = rs) (hk : k.den P G K Λ (ρ ++ xs)) : (VC.cal f ts as us n k).den P G K Λ ρ := by
  subst ha hr
  exact .inl (exSh_of hx ⟨h, hk⟩)
theorem den_calP {f : FuncId} {ts : List TS} {as : List E} {us : List TS} {n : Nat} {k : VC} {ds : List D} {T : TypeId} {x : D} (h : Fun P G f ts ds us (.pan T x)) (ha : as.map (·.den ρ) = ds) (hk : K (.pan T x)) : (VC.cal f ts as us n k).den P G K Λ ρ := by
  subst ha
  exact .inr ⟨T, x, h, hk⟩
theorem den_pan {T : TypeId} {e : E} (h : K (.pan T (e.den ρ))) : (VC.pan T e).den P G K Λ ρ := h
theorem den_loop {shs : List Sh} {init : List E} {body : VC} (I : List D → Prop) (μ : List D → Nat) (h0 : I (init.map (·.den ρ))) (h : AllSh shs fun xs => I xs → body.den P G K (Λ ++ [⟨I, μ, μ xs⟩]) (ρ ++ xs)) : (VC.loop shs init body).den P G K Λ ρ := ⟨I, μ, h0, h⟩
theorem AllSh.of : ∀ {shs : List Sh} {f : List D → Prop}, (∀ xs, f xs) → AllSh shs f
  | [], _, h => h []
  | .int _ :: _, _, h => fun _ _ _ => AllSh.of fun xs => h (_ :: xs)
  | .bool :: _, _, h => fun _ => AllSh.of fun xs => h (_ :: xs)
  | .str :: _, _, h => fun _ _ => AllSh.of fun xs => h (_ :: xs)
  | .lst _ :: _, _, h => fun _ _ => AllSh.of fun xs => h (_ :: xs)
theorem den_join {shs : List Sh} {a b : VC} (I : List D → Prop) (ha : a.den P G K (Λ ++ [⟨I, fun _ => 0, 1⟩]) ρ) (h : ∀ xs, I xs → b.den P G K (Λ ++ [⟨I, fun _ => 0, 0⟩]) (ρ ++ xs)) : (VC.join shs a b).den P G K Λ ρ := ⟨I, fun _ => 0, 1, ha, AllSh.of h⟩
theorem den_loopI {shs : List Sh} {init : List E} {body : VC} (I : List D → Prop) (μ : List D → Nat) (h0 : I (init.map (·.den ρ))) (h : ∀ xs, I xs → body.den P G K (Λ ++ [⟨I, μ, μ xs⟩]) (ρ ++ xs)) : (VC.loop shs init body).den P G K Λ ρ := ⟨I, μ, h0, AllSh.of h⟩
theorem den_back {n : Nat} {xs : List E} {L : Lp} (hL : Λ[n]? = some L) (h : L.I (xs.map (·.den ρ))) (hm : L.μ (xs.map (·.den ρ)) < L.m) : (VC.back n xs).den P G K Λ ρ := by
  simp only [VC.den, hL]; exact ⟨h, hm⟩
end
abbrev I64d (n : Int) : D := .int .i64 n
abbrev tI : TS := .c (.int .i64)
abbrev tB : TS := .c .bool

end Go.Proofs.Ytindphofgojfbaa.Sy
