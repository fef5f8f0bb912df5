/-
  A part of a symbolic walk that is proved sound: what the functions of a program do with data. No conditions.
-/
import Derived.Test.YtighdhddeidmcaaSyRg
import Derived.Test.YtighdhddeidmcaaSyXq
import Derived.RangeFuncNested
import Derived.RangeFuncLeaves
import Derived.RangeFuncCalls
set_option linter.unusedSimpArgs false
set_option linter.unusedVariables false
namespace Go.Proofs.Ytighdhddeidmcaa.Sy
open Go.RowKit

/-! A loop over an iterator: what its rounds keep. -/
def KpM (Mx : Nat → Nat → Option Value) (A C : World) : Prop := ∀ b o v, Mx b o = some v → A.cell? ⟨b, o, none⟩ = some v → C.cell? ⟨b, o, none⟩ = some v
theorem kpM_t {Mx : Nat → Nat → Option Value} {A B C : World} (h : KpM Mx A B) (k : KpM Mx B C) : KpM Mx A C := fun b o v hm ha => k b o v hm (h b o v hm ha)
theorem kpM_r {Mx : Nat → Nat → Option Value} {A : World} : KpM Mx A A := fun _ _ _ _ h => h
theorem heap_of_cell {W : World} {b o : Nat} {v : Value} (h : W.cell? ⟨b, o, none⟩ = some v) : ∃ c T fr, W.heap[b]? = some (.cells c T fr) := by
  simp only [World.cell?] at h
  split at h
  · exact ⟨_, _, _, by assumption⟩
  · cases h
theorem kpM_b {Mx : Nat → Nat → Option Value} (W : World) (l : Nat) (o o' : Obj) (hl : W.heap[l]? = some o) (ho : o.isCells = false) : KpM Mx W (W.putObj l o') := by
  intro b i v _ hc
  refine cell_kept hc (grownBy_putObj' W l o') (fun r e => by cases e; exact ⟨o, hl, ho⟩)

section
variable {Z : Base} {η : Env} {M : Mem} {blks : List Blk} {w w' : World} {σ : St} {tmps : Array Value}
def nonCells (w : World) (B : Nat) (row : Option Nat) : Prop := ∀ r, row = some r → B ≤ r ∧ ∃ o : Obj, w.heap[r]? = some o ∧ o.isCells = false
theorem WR.grown (h : WR Z η M blks w) {row : Option Nat} (hg : w.grownBy w' row) {B : Nat} (hB : Z.n0 ≤ B) (hr : nonCells w B row) : WR Z η M blks w' := by
  have hcell : ∀ {b : Nat} {c : Array Value} {T : TypeId} {fr : Nat × Nat}, w.heap[b]? = some (.cells c T fr) → w'.heap[b]? = w.heap[b]? := by
    intro b c T fr hb
    refine hg.block b (lt_of_heap hb) (fun e => ?_)
    obtain ⟨_, o, ho, hc⟩ := hr b e.symm
    rw [hb] at ho
    cases ho
    cases hc
  refine ⟨⟨hg.os.trans h.below.os, hg.tape.trans h.below.tape, hg.output.trans h.below.output, Nat.le_trans h.below.size hg.size, fun k hk hs => ?_⟩, Nat.le_trans h.size hg.size, h.base, h.new, fun b o v hv => ?_, h.one, fun j C hC => ?_, h.inj, h.out, h.pal, h.glob⟩
  · refine (hg.block k (by have := h.size; omega) (fun e => ?_)).trans (h.below.block k hk hs)
    have := (hr k e.symm).1
    omega
  · exact cell_kept (h.mem b o v hv) hg (fun r e => (hr r e).2)
  · refine BlkOK.mono (fun _ h => h) (Env.le.refl _) (Mem.le.refl _) (fun e => by have := h.blk j C hC; subst e; exact this) (fun b c hb h0 hd => ⟨?_, fun _ => rfl⟩) (h.blk j C hC)
    have hk := h.blk j C hC
    cases C with
    | none => simp only [BlkOK] at hk; rw [hk] at hb; cases hb
    | dead => exact absurd rfl hd
    | cells l =>
      obtain ⟨b', c', vs, T, h1, _, _, h3, _⟩ := hk
      rw [h1] at hb
      cases hb
      exact hcell h3
    | row es l fr =>
      obtain ⟨b', c', xs, h1, _, _, _, hr'⟩ := hk
      rw [h1] at hb
      cases hb
      obtain ⟨_, vs, T, h3, _⟩ := hr' h0
      exact hcell h3
theorem Rel.grown (h : Rel Z η M σ tmps w) {row : Option Nat} (hg : w.grownBy w' row) {B : Nat} (hB : Z.n0 ≤ B) (hr : nonCells w B row) : Rel Z η M σ tmps w' :=
  ⟨h.wr.grown hg hB hr, h.sz, h.tmp, h.asm, h.pj, h.gl⟩
/-- The blocks that one owns. -/
def liveS (η : Env) (blks : List Blk) (b : Nat) : Prop := ∃ (j : Nat) (B : Blk) (p : Nat × Nat), blks[j]? = some B ∧ B ≠ .dead ∧ η.al j = some p ∧ 0 < p.2 ∧ p.1 = b
def Base.re (Z : Base) (w : World) (M : Mem) (η : Env) (blks : List Blk) : Base := ⟨w.heap.size, w, M, liveS η blks, Z.pal, Z.G⟩
theorem WR.liveO (h : WR Z η M blks w) {b : Nat} (hb : liveS η blks b) : Z.own b := by
  obtain ⟨j, B, p, h1, h2, h3, h4, rfl⟩ := hb
  exact (h.live_lt h1 h2 h3 h4).2
theorem WR.liveC (h : WR Z η M blks w) {b : Nat} (hb : liveS η blks b) : ∃ c T fr, w.heap[b]? = some (.cells c T fr) := by
  obtain ⟨j, B, p, h1, h2, h3, h4, rfl⟩ := hb
  have hk := h.blk j B h1
  cases B with
  | none => simp only [BlkOK] at hk; rw [hk] at h3; cases h3
  | dead => exact absurd rfl h2
  | cells l => obtain ⟨b', c', vs, T, g1, _, _, g3, _⟩ := hk; rw [g1] at h3; cases h3; exact ⟨_, _, _, g3⟩
  | row es l fr => obtain ⟨b', c', xs, g1, _, _, _, hr'⟩ := hk; rw [g1] at h3; cases h3; obtain ⟨_, vs, T, g3, _⟩ := hr' h4; exact ⟨_, _, _, g3⟩
/-- A new start, from here. -/
theorem WR.re (h : WR Z η M blks w) : WR (Z.re w M η blks) η M blks w := by
  refine ⟨BelowX.refl _ _ _, Nat.le_refl _, Mem.le.refl _, fun b o v hv => .inl hv, h.mem, h.one, fun j C hC => ?_, h.inj, h.out, h.pal, h.glob.mono h.base⟩
  have hk := h.blk j C hC
  cases C with
  | none => exact hk
  | dead => trivial
  | cells l =>
    obtain ⟨b, c, vs, T, h1, h0, h2, h3⟩ := hk
    exact ⟨b, c, vs, T, h1, h0, .inr ⟨j, _, _, hC, by simp, h1, by simp; omega, rfl⟩, h3⟩
  | row es l fr =>
    obtain ⟨b, c, xs, h1, h2, h3, h4, hr⟩ := hk
    exact ⟨b, c, xs, h1, h2, h3, h4, fun h0 => ⟨.inr ⟨j, _, _, hC, by simp, h1, h0, rfl⟩, (hr h0).2⟩⟩
theorem Rel.re (h : Rel Z η M σ tmps w) : Rel (Z.re w M η σ.blks) η M σ tmps w := ⟨h.wr.re, h.sz, h.tmp, h.asm, h.pj, h.gl⟩
/-- .. and back. -/
theorem WR.back (h : WR Z η M blks w) {η' : Env} {M' : Mem} {blks' : List Blk} (k : WR (Z.re w M η blks) η' M' blks' w') : WR Z η' M' blks' w' := by
  have hown : ∀ b, (Z.re w M η blks).own b → Z.own b := by
    rintro b (hb | hb)
    · exact .inl (Nat.le_trans h.size hb)
    · exact h.liveO hb
  refine ⟨⟨k.below.os.trans h.below.os, k.below.tape.trans h.below.tape, k.below.output.trans h.below.output, Nat.le_trans h.below.size k.below.size, fun i hi hs => ?_⟩, Nat.le_trans h.size k.size, fun b o v hv => k.base b o v (h.base b o v hv), fun b o v hv => ?_, k.mem, k.one, fun j C hC => ?_, k.inj, k.out, k.pal, h.glob⟩
  · refine (k.below.block i (Nat.lt_of_lt_of_le hi h.size) (fun hl => ?_)).trans (h.below.block i hi hs)
    rcases h.liveO hl with h1 | h1
    · omega
    · exact hs h1
  · rcases k.new b o v hv with h1 | h1
    · exact h.new b o v h1
    · exact .inr (hown b h1)
  · exact BlkOK.mono hown (Env.le.refl _) (Mem.le.refl _) (fun e => by have := k.blk j C hC; subst e; exact this) (fun _ _ _ _ _ => ⟨rfl, fun _ => rfl⟩) (k.blk j C hC)
theorem Rel.back (h : WR Z η M blks w) {η' : Env} {M' : Mem} {σ' : St} {tmps' : Array Value} (k : Rel (Z.re w M η blks) η' M' σ' tmps' w') : Rel Z η' M' σ' tmps' w' := ⟨h.back k.wr, k.sz, k.tmp, k.asm, k.pj, k.gl⟩
theorem WR.keeps (h : WR Z η M blks w) {η' : Env} {M' : Mem} {blks' : List Blk} (k : WR (Z.re w M η blks) η' M' blks' w') (B : Nat) : KeepsFrom B w w' := by
  refine ⟨k.below.size, fun i o _ ho hc => ?_⟩
  refine (k.below.block i (lt_of_heap ho) (fun hl => ?_)).trans ho
  obtain ⟨c, T, fr, hh⟩ := h.liveC hl
  rw [hh] at ho
  cases ho
  cases hc
theorem WR.kp {η' : Env} {M' : Mem} {blks' : List Blk} (k : WR (Z.re w M η blks) η' M' blks' w') {Mx : Mem} (hM : Mx.le M) : KpM Mx w w' := fun b o v hv _ => k.mem b o v (k.base b o v (hM b o v hv))

/-! What a variable's box holds, read in the world. -/
def memW (W : World) : Mem := fun b o => W.cell? ⟨b, o, none⟩
def Holds (tm : Array Value) (t : Nat) (s : Sh) (d : D) (W : World) : Prop := ∃ b v, tm.getD t undef = .pointer (some ⟨b, 0, none⟩) ∧ W.cell? ⟨b, 0, none⟩ = some v ∧ Rep (memW W) s v d
theorem Holds.grown {tm : Array Value} {t : Nat} {s : Sh} {d : D} (h : Holds tm t s d w) {row : Option Nat} (hg : w.grownBy w' row) {B : Nat} (hr : nonCells w B row) : Holds tm t s d w' := by
  obtain ⟨b, v, h1, h2, h3⟩ := h
  exact ⟨b, v, h1, cell_kept h2 hg (fun r e => (hr r e).2), Rep.mono (fun b o v hv => cell_kept hv hg (fun r e => (hr r e).2)) _ _ _ h3⟩
def detB : Sh → Bool | .int _ => true | .lst [.int _] => true | _ => false
theorem Rep_det {N : Mem} {s : Sh} (hs : detB s = true) {v : Value} {d d' : D} (h : Rep N s v d) (k : Rep N s v d') : d = d' := by
  cases s with
  | int i =>
    rw [Rep_int] at h k
    obtain ⟨n, rfl, rfl, _⟩ := h
    obtain ⟨m, e, rfl, _⟩ := k
    cases e
    rfl
  | lst es =>
    match es, hs with
    | [.int i], _ =>
      rw [Rep_lst] at h k
      obtain ⟨l, rfl, _, h⟩ := h
      obtain ⟨l', rfl, _, k⟩ := k
      rcases h with ⟨rfl, rfl⟩ | ⟨b, off, sp, cap, rfl, _, _, _, hc⟩
      · rcases k with ⟨_, rfl⟩ | ⟨b, off, sp, cap, e, _⟩
        · rfl
        · cases e
      · rcases k with ⟨e, rfl⟩ | ⟨b', off', sp', cap', e, _, _, _, kc⟩
        · cases e
        · injection e with e1 e2 e3
          injection e1 with e1
          injection e1 with e4 e5 e6
          subst e4 e5
          have hl : l.length = l'.length := e2
          congr 1
          refine List.ext_getElem hl fun i h1 h2 => ?_
          have a1 := hc i l[i] (by simp [h1])
          have a2 := kc i l'[i] (by simp [h2])
          simp only [D.cells, List.length_singleton, if_true, RepCells] at a1 a2
          obtain ⟨⟨v1, b1, c1⟩, _⟩ := a1
          obtain ⟨⟨v2, b2, c2⟩, _⟩ := a2
          rw [b1] at b2
          cases b2
          rw [Rep_int] at c1 c2
          obtain ⟨n, rfl, q1, _⟩ := c1
          obtain ⟨m, e, q2, _⟩ := c2
          cases e
          rw [q1, q2]
  | bool => cases hs
  | str => cases hs
theorem Holds.det {tm : Array Value} {t : Nat} {s : Sh} {d d' : D} (hs : detB s = true) (h : Holds tm t s d w) (k : Holds tm t s d' w) : d = d' := by
  obtain ⟨b, v, h1, h2, h3⟩ := h
  obtain ⟨b', v', k1, k2, k3⟩ := k
  rw [h1] at k1
  cases k1
  rw [h2] at k2
  cases k2
  exact Rep_det hs h3 k3
/-- The box of a loop's one variable: n is its number. -/
def boxSh (h : St) (t n : Nat) : Option Sh :=
  match h.tmps[t]? with
  | some (.v (.c (.ptr j 0))) => (match h.blks[j]? with
    | some (.cells [.d s (.v m)]) => if Nat.beq m n then some s else none
    | some (.cells [.row i es k]) => (match h.blks[i]? with
      | some (.row es' (.v m) false) => if Nat.beq m n && Sh.sames es es' && E.same (lenE (.v m)) k then some (.lst es') else none
      | _ => none)
    | _ => none)
  | _ => none
theorem boxSh_sound {t n : Nat} {s : Sh} (hb : boxSh σ t n = some s) (h : Rel Z η M σ tmps w) : Holds tmps t s (η.ρ.getD n default) w := by
  unfold boxSh at hb
  split at hb
  · rename_i j ht
    have hp := h.tmp _ _ ht
    obtain ⟨⟨b, c, hal, hv⟩, _⟩ := hp
    have hMW : M.le (memW w) := fun b o v hv => h.wr.mem b o v hv
    split at hb
    · rename_i s' m hj
      split at hb
      · rename_i hc
        cases hb
        have := Nat.eq_of_beq_eq_true hc
        subst this
        obtain ⟨b', c', vs, T, h1, _, _, h3, h4, _⟩ := h.wr.blk _ _ hj
        rw [hal] at h1
        cases h1
        cases h4 with
        | cons a1 _ a3 =>
          cases a3
          exact ⟨b, _, hv, by rw [cell_of_heap h3]; rfl, Rep.mono hMW _ _ _ a1⟩
      · cases hb
    · rename_i i es k hj
      split at hb
      · rename_i es' m hi
        split at hb
        · rename_i hc
          cases hb
          simp only [Bool.and_eq_true] at hc
          have e1 := Nat.eq_of_beq_eq_true hc.1.1
          subst e1
          have e2 := Sh.sames_eq _ _ hc.1.2
          subst e2
          have e3 := E.same_eq _ _ hc.2
          subst e3
          obtain ⟨b', c', vs, T, h1, _, _, h3, h4, _⟩ := h.wr.blk _ _ hj
          rw [hal] at h1
          cases h1
          cases h4 with
          | cons a1 _ a3 =>
            cases a3
            refine ⟨b, _, hv, by rw [cell_of_heap h3]; rfl, ?_⟩
            obtain ⟨b2, c2, m2, k1, k2, k3, k4, k5⟩ := a1
            obtain ⟨b3, c3, xs, g1, g2, g3, g4, g5⟩ := h.wr.blk _ _ hi
            rw [k1] at g1
            cases g1
            have g2' : η.ρ.getD m default = .lst xs := g2
            have hm : m2 = xs.length := by
              have : (lenE (.v m)).den η.ρ = .int .i64 xs.length := by
                show D.int .i64 (D.len (η.ρ.getD m default)) = _
                rw [g2']
                rfl
              rw [this] at k2
              injection k2 with _ k2
              omega
            subst hm
            rw [g2']
            rcases k5 with ⟨h0, rfl⟩ | ⟨h0, a, rfl⟩
            · obtain ⟨_, vs', T', q1, q2, q3, q4, q5⟩ := g5 h0
              rw [Rep_lst]
              refine ⟨xs, rfl, by omega, .inr ⟨b2, 0, none, c2, rfl, fun _ => rfl, g3, g4, fun i x hx => ?_⟩⟩
              refine RepCells.mono hMW _ _ _ _ _ (fun o v hv => ?_) (q4 i x hx)
              show w.cell? _ = _
              rw [cell_of_heap q1]
              simpa using hv
            · have : xs = [] := by
                apply List.eq_nil_of_length_eq_zero
                omega
              subst this
              exact nil_rep ⟨a, rfl⟩
        · cases hb
      · cases hb
    · cases hb
  · cases hb
end
end Go.Proofs.Ytighdhddeidmcaa.Sy
