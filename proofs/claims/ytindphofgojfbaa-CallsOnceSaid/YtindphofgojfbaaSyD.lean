/-
  A part of a symbolic walk that is proved sound: what the functions of a program do with data. No conditions.
-/
import Derived.Test.YtindphofgojfbaaSyC
set_option linter.unusedSimpArgs false
set_option linter.unusedVariables false
namespace Go.Proofs.Ytindphofgojfbaa.Sy
open Go.RowKit
def Env.set (η : Env) (j : Nat) (p : Nat × Nat) : Env := { η with al := fun i => if i = j then some p else η.al i }
theorem Env.le_set {η : Env} {j : Nat} {p : Nat × Nat} (h : η.al j = none) : η.le (η.set j p) :=
  ⟨fun i q hi => by
    simp only [Env.set]
    by_cases e : i = j
    · subst e; rw [h] at hi; cases hi
    · rw [if_neg e]; exact hi, rfl⟩
theorem Env.set_same (η : Env) (j : Nat) (p : Nat × Nat) : (η.set j p).al j = some p := by simp [Env.set]
theorem Env.set_other (η : Env) {j i : Nat} (p : Nat × Nat) (h : i ≠ j) : (η.set j p).al i = η.al i := by simp [Env.set, h]

theorem heap_new (w : World) (o : Obj) : (w.alloc o).heap[w.heap.size]? = some o := by
  show (w.heap.push o)[w.heap.size]? = _; simp
theorem heap_old (w : World) (o : Obj) {k : Nat} (h : k < w.heap.size) : (w.alloc o).heap[k]? = w.heap[k]? := by
  show (w.heap.push o)[k]? = _; rw [Array.getElem?_push, if_neg (by omega)]
theorem lt_of_heap {w : World} {b : Nat} {o : Obj} (h : w.heap[b]? = some o) : b < w.heap.size := (Array.getElem?_eq_some_iff.1 h).1
theorem cell_of_heap {w : World} {b : Nat} {c : Array Value} {T : TypeId} {fr : Nat × Nat} (h : w.heap[b]? = some (.cells c T fr)) (o : Nat) : w.cell? ⟨b, o, none⟩ = c[o]? := by
  simp [World.cell?, h]
theorem cell_congr {w w' : World} {b o : Nat} (h : w'.heap[b]? = w.heap[b]?) : w'.cell? ⟨b, o, none⟩ = w.cell? ⟨b, o, none⟩ := by simp [World.cell?, h]
theorem lt_of_cell {w : World} {b o : Nat} {v : Value} (h : w.cell? ⟨b, o, none⟩ = some v) : b < w.heap.size := by
  simp only [World.cell?] at h
  rcases Nat.lt_or_ge b w.heap.size with hb | hb
  · exact hb
  · rw [Array.getElem?_eq_none hb] at h; cases h

theorem BlkOK.mono {η η' : Env} {M M' : Mem} {own own' : Nat → Prop} {w w' : World} {j : Nat} {B : Blk} (ho : ∀ b, own b → own' b) (he : η.le η') (hM : M.le M')
    (hn : B = .none → η'.al j = none)
    (hb : ∀ b c, η.al j = some (b, c) → 0 < c → B ≠ .dead → w'.heap[b]? = w.heap[b]? ∧ ∀ o, M' b o = M b o)
    (h : BlkOK η M own w j B) : BlkOK η' M' own' w' j B := by
  cases B with
  | none => exact hn rfl
  | dead => trivial
  | cells l =>
    obtain ⟨b, c, vs, T, h1, h0, h2, h3, h4, h5⟩ := h
    obtain ⟨g1, g2⟩ := hb b c h1 (by omega) (by simp)
    exact ⟨b, c, vs, T, he.al _ _ h1, h0, ho _ h2, g1.trans h3, h4.mono he hM, fun o => (g2 o).trans (h5 o)⟩
  | row es l fr =>
    obtain ⟨b, c, xs, h1, h4, h6, h7, hr⟩ := h
    refine ⟨b, c, xs, he.al _ _ h1, by rw [he.ρ]; exact h4, h6, h7, fun h0 => ?_⟩
    obtain ⟨h2, vs, T, h3, h5, h8, h9, h10⟩ := hr h0
    obtain ⟨g1, g2⟩ := hb b c h1 h0 (by simp)
    exact ⟨ho _ h2, vs, T, g1.trans h3, h5, h8,
      fun i x hx => RepCells.mono hM _ _ _ _ _ (fun _ _ h => h) (h9 i x hx), fun o => (g2 o).trans (h10 o)⟩

section
variable {Z : Base} {η : Env} {M : Mem} {blks : List Blk} {w : World}

theorem WR.live_lt (h : WR Z η M blks w) {j : Nat} {B : Blk} {p : Nat × Nat} (hB : blks[j]? = some B) (hd : B ≠ .dead) (hj : η.al j = some p) (h0 : 0 < p.2) : p.1 < w.heap.size ∧ Z.own p.1 := by
  have hk := h.blk j B hB
  cases B with
  | none => simp only [BlkOK] at hk; rw [hk] at hj; cases hj
  | dead => exact absurd rfl hd
  | cells l =>
    obtain ⟨b, c, vs, T, h1, _, h2, h3, _⟩ := hk
    rw [h1] at hj; cases hj
    exact ⟨lt_of_heap h3, h2⟩
  | row es l fr =>
    obtain ⟨b, c, xs, h1, _, _, _, hr⟩ := hk
    rw [h1] at hj; cases hj
    obtain ⟨h2, vs, T, h3, _⟩ := hr h0
    exact ⟨lt_of_heap h3, h2⟩

theorem WR.drew (h : WR Z η M blks w) : WR Z η M blks w.drew :=
  ⟨h.below.trans ⟨rfl, rfl, rfl, Nat.le_refl _, fun _ _ _ => rfl⟩, h.size, h.base, h.new, h.mem, h.one, fun j B hB => BlkOK.mono (fun _ h => h) (Env.le.refl _) (Mem.le.refl _) (fun e => by have := h.blk j B hB; subst e; exact this) (fun _ _ _ _ _ => ⟨rfl, fun _ => rfl⟩) (h.blk j B hB), h.inj, h.out, h.pal, h.glob⟩

theorem WR.alloc (h : WR Z η M blks w) {nb : Nat} (hnb : blks[nb]? = some .none) {vs : List Value} {T : TypeId} {c : Nat} {B : Blk}
    (hB : BlkOK (η.set nb (w.heap.size, c)) M Z.own (w.alloc (.cells vs.toArray T)) nb B) (hne : B ≠ .none) :
    WR Z (η.set nb (w.heap.size, c)) M (blks.set nb B) (w.alloc (.cells vs.toArray T)) := by
  have hal : η.al nb = none := h.blk nb _ hnb
  have hlt : nb < blks.length := (List.getElem?_eq_some_iff.1 hnb).1
  refine ⟨h.below.trans (BelowX.of ((Below.refl _ _).alloc h.size _)), by simp; have := h.size; omega, h.base, h.new, fun b o v hv => ?_, h.one, fun j C hC => ?_, fun i j C D p q hi hj hCd hDd hpi hqj hp0 hq0 hpq => ?_, fun j hj => ?_, fun j p hp => (Env.le_set hal).al j p (h.pal j p hp), h.glob⟩
  · rw [cell_congr (heap_old _ _ (lt_of_cell (h.mem b o v hv)))]; exact h.mem b o v hv
  · rw [List.getElem?_set] at hC
    by_cases e : nb = j
    · subst e
      simp [hlt] at hC
      subst hC
      exact hB
    · rw [if_neg e] at hC
      refine BlkOK.mono (fun _ h => h) (Env.le_set hal) (Mem.le.refl _) (fun e' => ?_) (fun b c' hb h0 hd => ⟨heap_old _ _ (h.live_lt hC hd hb h0).1, fun _ => rfl⟩) (h.blk j C hC)
      have := h.blk j C hC
      subst e'
      rw [Env.set_other _ _ (fun e' => e e'.symm)]
      exact this
  · have key : ∀ (i : Nat) (C : Blk), (blks.set nb B)[i]? = some C → C ≠ Blk.dead → ∀ p : Nat × Nat, (η.set nb (w.heap.size, c)).al i = some p → i ≠ nb → blks[i]? = some C ∧ η.al i = some p := by
      intro i C hC _ p hp hne
      rw [List.getElem?_set, if_neg (fun e => hne e.symm)] at hC
      rw [Env.set_other _ _ hne] at hp
      exact ⟨hC, hp⟩
    by_cases ei : i = nb
    · by_cases ej : j = nb
      · rw [ei, ej]
      · exfalso
        obtain ⟨h1, h2⟩ := key j D hj hDd q hqj ej
        have := (h.live_lt h1 hDd h2 hq0).1
        rw [ei, Env.set_same] at hpi
        cases hpi
        simp at hpq; omega
    · obtain ⟨h1, h2⟩ := key i C hi hCd p hpi ei
      by_cases ej : j = nb
      · exfalso
        have := (h.live_lt h1 hCd h2 hp0).1
        rw [ej, Env.set_same] at hqj
        cases hqj
        simp at hpq; omega
      · obtain ⟨h3, h4⟩ := key j D hj hDd q hqj ej
        exact h.inj i j C D p q h1 h3 hCd hDd h2 h4 hp0 hq0 hpq
  · rw [Env.set_other _ _ (by simp at hj; omega)]
    exact h.out j (by simpa using hj)

theorem heap_setCell_same {b o : Nat} {vs : List Value} {T : TypeId} {fr : Nat × Nat} {v : Value} (hh : w.heap[b]? = some (.cells vs.toArray T fr)) :
    (w.setCell ⟨b, o, none⟩ v).heap[b]? = some (.cells (vs.set o v).toArray T fr) := by
  simp [World.setCell, Array.getElem?_modify, hh]
theorem heap_setCell_other {b o k : Nat} {v : Value} (hk : k ≠ b) : (w.setCell ⟨b, o, none⟩ v).heap[k]? = w.heap[k]? := by
  simp [World.setCell, Array.getElem?_modify]; intro e; exact absurd e.symm hk

theorem WR.update (h : WR Z η M blks w) {w' : World} {j : Nat} {B B' : Blk} (hj : blks[j]? = some B) (hd : B ≠ .dead) {b c : Nat} (hal : η.al j = some (b, c)) (hc0 : 0 < c)
    (hsz : w'.heap.size = w.heap.size) (hos : w'.os = w.os) (htp : w'.tape = w.tape) (hou : w'.output = w.output)
    (hoth : ∀ k, k ≠ b → w'.heap[k]? = w.heap[k]?) {M' : Mem} (hM : M.le M') (hMo : ∀ k, k ≠ b → ∀ o, M' k o = M k o)
    (hmem : ∀ o v, M' b o = some v → w'.cell? ⟨b, o, none⟩ = some v ∧ One v)
    (hB : BlkOK η M' Z.own w' j B') (hne : B' ≠ .none) : WR Z η M' (blks.set j B') w' := by
  have hb := h.live_lt hj hd hal hc0
  have hlt : j < blks.length := (List.getElem?_eq_some_iff.1 hj).1
  refine ⟨h.below.trans ⟨hos, htp, hou, by omega, fun k hk hS => hoth k (fun e => by
    rcases hb.2 with h2 | h2
    · simp only at h2; omega
    · simp only [← e] at h2; exact hS h2)⟩, by rw [hsz]; exact h.size, h.base.trans hM, fun b' o v hv => ?_, fun b' o v hv => ?_, fun b' o v hv => ?_, fun i C hC => ?_, fun i k C D p q hi hk hCd hDd hpi hqk hp0 hq0 hpq => ?_, fun i hi => h.out i (by simpa using hi), h.pal, h.glob⟩
  · by_cases e : b' = b
    · subst e; exact Or.inr hb.2
    · rw [hMo _ e] at hv; exact h.new _ _ _ hv
  · by_cases e : b' = b
    · subst e; exact (hmem o v hv).1
    · rw [hMo _ e] at hv
      rw [cell_congr (hoth _ e)]; exact h.mem _ _ _ hv
  · by_cases e : b' = b
    · subst e; exact (hmem o v hv).2
    · rw [hMo _ e] at hv; exact h.one _ _ _ hv
  · rw [List.getElem?_set] at hC
    by_cases e : j = i
    · subst e
      simp [hlt] at hC
      subst hC
      exact hB
    · rw [if_neg e] at hC
      refine BlkOK.mono (fun _ h => h) (Env.le.refl _) hM (fun e' => by have := h.blk i C hC; subst e'; exact this) (fun b' c' hb' h0' hd' => ?_) (h.blk i C hC)
      have hne' : b' ≠ b := fun e' => e (h.inj j i B C (b, c) (b', c') hj hC hd hd' hal hb' hc0 h0' e'.symm)
      exact ⟨hoth _ hne', hMo _ hne'⟩
  · have key : ∀ (i : Nat) (C : Blk), (blks.set j B')[i]? = some C → C ≠ Blk.dead → ∃ C', blks[i]? = some C' ∧ C' ≠ Blk.dead := by
      intro i C hC hCd
      rw [List.getElem?_set] at hC
      by_cases e : j = i
      · subst e; exact ⟨B, hj, hd⟩
      · rw [if_neg e] at hC; exact ⟨C, hC, hCd⟩
    obtain ⟨C', h1, h2⟩ := key i C hi hCd
    obtain ⟨D', h3, h4⟩ := key k D hk hDd
    exact h.inj i k C' D' p q h1 h3 h2 h4 hpi hqk hp0 hq0 hpq

theorem WR.grow (h : WR Z η M blks w) {w' : World} {M' : Mem} {S : Nat → Prop} (hb : BelowX w.heap.size S w w') (hS : ∀ b, S b → Z.own b) (hlive : ∀ (j : Nat) (B : Blk) (p : Nat × Nat), blks[j]? = some B → B ≠ .dead → η.al j = some p → 0 < p.2 → ¬ S p.1)
    (hM : M.le M') (hmem : ∀ b o v, M' b o = some v → w'.cell? ⟨b, o, none⟩ = some v) (hone : ∀ b o v, M' b o = some v → One v)
    (hnew : ∀ b o, b < w.heap.size → ¬ S b → M' b o = M b o) : WR Z η M' blks w' := by
  refine ⟨h.below.trans ⟨hb.os, hb.tape, hb.output, hb.size, fun k hk hs => hb.block k (Nat.lt_of_lt_of_le hk h.size) fun hk' => ?_⟩, Nat.le_trans h.size hb.size, h.base.trans hM, fun b o v hv => ?_, hmem, hone, fun j B hB => BlkOK.mono (fun _ h => h) (Env.le.refl _) hM (fun e => by have := h.blk j B hB; subst e; exact this)
    (fun b c hal h0 hd => ⟨hb.block _ (h.live_lt hB hd hal h0).1 (hlive j B _ hB hd hal h0), fun o => hnew _ _ (h.live_lt hB hd hal h0).1 (hlive j B _ hB hd hal h0)⟩) (h.blk j B hB), h.inj, h.out, h.pal, h.glob⟩
  · rcases hS k hk' with h1 | h1
    · omega
    · exact hs h1
  · rcases Nat.lt_or_ge b w.heap.size with hl | hg
    · by_cases hs : S b
      · exact .inr (hS b hs)
      · rw [hnew b o hl hs] at hv; exact h.new _ _ _ hv
    · exact .inr (.inl (Nat.le_trans h.size hg))

theorem WR.kill (h : WR Z η M blks w) (j : Nat) : WR Z η M (blks.set j .dead) w := by
  have key : ∀ (i : Nat) (B : Blk), (blks.set j .dead)[i]? = some B → B ≠ .dead → blks[i]? = some B := by
    intro i B hi hd
    rw [List.getElem?_set] at hi
    split at hi
    · split at hi
      · cases hi; exact absurd rfl hd
      · cases hi
    · exact hi
  refine ⟨h.below, h.size, h.base, h.new, h.mem, h.one, fun i B hB => ?_, fun i k B C p q hi hk hB hC => h.inj i k B C p q (key _ _ hi hB) (key _ _ hk hC) hB hC, fun i hi => h.out i (by simpa using hi), h.pal, h.glob⟩
  cases B with
  | dead => trivial
  | _ => exact h.blk i _ (key _ _ hB (by simp))

def RowAt (M : Mem) (w : World) (es : List Sh) (v : Value) (xs : List D) (p : Nat × Nat) : Prop :=
  xs.length ≤ p.2 ∧ p.2 ≤ maxLen ∧ ((0 < p.2 ∧ v = .slice (some ⟨p.1, 0, none⟩) xs.length p.2) ∨ (p.2 = 0 ∧ ∃ a, v = .slice a 0 0)) ∧
    (0 < p.2 → ∃ (vs : List Value) (T : TypeId), w.heap[p.1]? = some (.cells vs.toArray T (0, 0)) ∧ vs.length = p.2 * es.length ∧ (∀ v ∈ vs, One v) ∧
      (∀ i x, xs[i]? = some x → RepCells M es (fun o => vs[i * es.length + o]?) 0 (x.cells es)) ∧ ∀ o, M p.1 o = none)

def Far (η : Env) (blks : List Blk) (p : Nat × Nat) : Prop := 0 < p.2 → ∀ (j : Nat) (B : Blk) (q : Nat × Nat), blks[j]? = some B → B ≠ .dead → η.al j = some q → 0 < q.2 → q.1 ≠ p.1

theorem WR.place (h : WR Z η M blks w) {η' : Env} (he : η.le η') {nb : Nat} {p : Nat × Nat} {B : Blk} (hlt : nb < blks.length) (hoth : ∀ j, j ≠ nb → η'.al j = η.al j) (hp : η'.al nb = some p) (hfar : Far η (blks.set nb .dead) p) (hB : BlkOK η' M Z.own w nb B) : WR Z η' M (blks.set nb B) w := by
  have key : ∀ (i : Nat) (C : Blk), (blks.set nb B)[i]? = some C → i ≠ nb → blks[i]? = some C := fun i C hC hne => by
    rw [List.getElem?_set, if_neg (fun e => hne e.symm)] at hC; exact hC
  have key2 : ∀ (i : Nat) (C : Blk), (blks.set nb B)[i]? = some C → i ≠ nb → (blks.set nb .dead)[i]? = some C := fun i C hC hne => by
    rw [List.getElem?_set, if_neg (fun e => hne e.symm)] at hC ⊢; exact hC
  refine ⟨h.below, h.size, h.base, h.new, h.mem, h.one, fun j C hC => ?_, fun i j C D p1 q1 hi hj hCd hDd hpi hqj hp0 hq0 hpq => ?_, fun j hj => ?_, fun j q hq => he.al j q (h.pal j q hq), h.glob⟩
  · by_cases e : j = nb
    · subst e
      rw [List.getElem?_set, if_pos rfl, if_pos hlt] at hC
      cases hC; exact hB
    · have hC' := key j C hC e
      refine BlkOK.mono (fun _ h => h) he (Mem.le.refl _) (fun e' => ?_) (fun b c _ _ _ => ⟨rfl, fun _ => rfl⟩) (h.blk j C hC')
      have := h.blk j C hC'
      subst e'
      rw [hoth j e]; exact this
  · by_cases ei : i = nb
    · by_cases ej : j = nb
      · rw [ei, ej]
      · exfalso
        rw [ei, hp] at hpi
        cases hpi
        rw [hoth j ej] at hqj
        exact hfar hp0 j D q1 (key2 j D hj ej) hDd hqj hq0 hpq.symm
    · by_cases ej : j = nb
      · exfalso
        rw [ej, hp] at hqj
        cases hqj
        rw [hoth i ei] at hpi
        exact hfar hq0 i C p1 (key2 i C hi ei) hCd hpi hp0 hpq
      · rw [hoth i ei] at hpi
        rw [hoth j ej] at hqj
        exact h.inj i j C D p1 q1 (key i C hi ei) (key j D hj ej) hCd hDd hpi hqj hp0 hq0 hpq
  · have : j ≠ nb := by rintro rfl; simp at hj; omega
    rw [hoth j this]
    exact h.out j (by simpa using hj)

theorem WR.adoptRow (h : WR Z η M blks w) {nb : Nat} {p : Nat × Nat} {es : List Sh} {l n : E} {xs : List D} {v : Value} (hnb : blks[nb]? = some .none) (hr : RowAt M w es v xs p) (hd : l.den η.ρ = .lst xs) (hn : n.den η.ρ = .int .i64 xs.length) (hown : 0 < p.2 → Z.own p.1) (hfar : Far η blks p) :
    WR Z (η.set nb p) M (blks.set nb (.row es l false)) w ∧ AbsA (η.set nb p) M (.row nb es n) v ∧ One v := by
  have hal : η.al nb = none := h.blk nb _ hnb
  have hlt : nb < blks.length := (List.getElem?_eq_some_iff.1 hnb).1
  obtain ⟨h1, h2, h3, h4⟩ := hr
  refine ⟨h.place (Env.le_set hal) hlt (fun j hj => Env.set_other _ _ hj) (Env.set_same _ _ _) (fun hp0 j B q hB hBd hq hq0 => ?_) ?_, ?_, ?_⟩
  · rw [List.getElem?_set] at hB
    by_cases e : nb = j
    · subst e
      simp [hlt] at hB
      exact absurd hB.symm hBd
    · rw [if_neg e] at hB; exact hfar hp0 j B q hB hBd hq hq0
  · refine ⟨p.1, p.2, xs, Env.set_same _ _ _, hd, h1, h2, fun h0 => ?_⟩
    obtain ⟨vs, T, g1, g2, g3, g4, g5⟩ := h4 h0
    exact ⟨hown h0, vs, T, g1, g2, g3, g4, fun o => by rw [g5 o]; simp⟩
  · refine ⟨p.1, p.2, xs.length, Env.set_same _ _ _, hn, h1, h2, ?_⟩
    rcases h3 with ⟨h5, h6⟩ | ⟨h5, h6⟩
    · exact .inl ⟨h5, h6⟩
    · exact .inr ⟨h5, h6⟩
  · rcases h3 with ⟨h5, rfl⟩ | ⟨h5, a, rfl⟩ <;> rfl

theorem WR.rowAt (h : WR Z η M blks w) {j : Nat} {es : List Sh} {l n : E} {v : Value} (hj : blks[j]? = some (.row es l false)) (hn : n.den η.ρ = (E.len l).den η.ρ) (ha : AbsA η M (.row j es n) v) :
    ∃ xs p, η.al j = some p ∧ l.den η.ρ = .lst xs ∧ RowAt M w es v xs p := by
  obtain ⟨b, c, m, h1, h2, h3, h4, h5⟩ := ha
  obtain ⟨b', c', xs, k1, k2, k3, k4, k5⟩ := h.blk j _ hj
  rw [h1] at k1
  cases k1
  have hm : m = xs.length := by
    rw [hn] at h2
    simp [E.den, k2, D.len] at h2
    omega
  subst hm
  refine ⟨xs, (b, c), h1, k2, h3, h4, ?_, fun h0 => ?_⟩
  · rcases h5 with ⟨h5, h6⟩ | ⟨h5, h6⟩
    · exact .inl ⟨h5, h6⟩
    · exact .inr ⟨h5, h6⟩
  · obtain ⟨_, vs, T, g1, g2, g3, g4, g5⟩ := k5 h0
    exact ⟨vs, T, g1, g2, g3, g4, fun o => by rw [g5 o]; simp⟩
end

end Go.Proofs.Ytindphofgojfbaa.Sy
