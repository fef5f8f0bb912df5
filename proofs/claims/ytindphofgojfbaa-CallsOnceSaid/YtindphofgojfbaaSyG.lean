/-
  A part of a symbolic walk that is proved sound: what the functions of a program do with data. No conditions.
-/
import Derived.Test.YtindphofgojfbaaSyF
set_option linter.unusedSimpArgs false
set_option linter.unusedVariables false
namespace Go.Proofs.Ytindphofgojfbaa.Sy
open Go.RowKit
def MemOK (M : Mem) (w : World) : Prop := ∀ b o v, M b o = some v → w.cell? ⟨b, o, none⟩ = some v ∧ One v
def CellR (M : Mem) (w : World) : CK → Value → D → List (Nat × Nat) → Prop
  | .s s, v, d, ps => Rep M s v d ∧ ps = []
  | .r es, v, d, ps => ∃ xs p, d = .lst xs ∧ ps = [p] ∧ RowAt M w es v xs p
inductive CellsR (M : Mem) (w : World) : List CK → List Value → List D → List (Nat × Nat) → Prop
  | nil : CellsR M w [] [] [] []
  | cons {k ks v vs d ds ps qs} : CellR M w k v d ps → CellsR M w ks vs ds qs → CellsR M w (k :: ks) (v :: vs) (d :: ds) (ps ++ qs)
def ArgR (M : Mem) (w : World) : TS → Value → D → List (Nat × Nat) → Prop
  | .i n s, v, d, ps => ∃ b o u T cs, v = .pointer (some ⟨b, o, none⟩) ∧ w.heap[b]? = some (.cells (List.toArray cs) T (0, 0)) ∧ cs.length = n ∧ cs[o]? = some u ∧ M b o = none ∧ Rep M s u d ∧ s.sc = true ∧ (∀ x ∈ cs, One x) ∧ ps = [(b, 1)]
  | .c s, v, d, ps => Rep M s v d ∧ ps = []
  | .g l, v, d, ps => RepT M (.g l) v d ∧ ps = []
  | .r es, v, d, ps => CellR M w (.r es) v d ps
  | .h l, v, d, ps => ∃ vs ds, v = .agg vs.toArray ∧ d = .rc ds ∧ CellsR M w l vs ds ps
  | .p l, v, d, ps => ∃ b vs T ds qs, v = .pointer (some ⟨b, 0, none⟩) ∧ w.heap[b]? = some (.cells vs.toArray T (0, 0)) ∧ (∀ o, M b o = none) ∧ d = .rc ds ∧ CellsR M w l vs ds qs ∧ ps = (b, 1) :: qs
inductive ArgsR (M : Mem) (w : World) : List TS → List Value → List D → List (Nat × Nat) → Prop
  | nil : ArgsR M w [] [] [] []
  | cons {t ts v vs d ds ps qs} : ArgR M w t v d ps → ArgsR M w ts vs ds qs → ArgsR M w (t :: ts) (v :: vs) (d :: ds) (ps ++ qs)
def ResR (M : Mem) (w : World) : List TS → Value → List D → List (Nat × Nat) → Prop
  | [u], v, rs, ps => ∃ r, rs = [r] ∧ ArgR M w u v r ps
  | us, v, rs, ps => ∃ vs : List Value, v = .tuple vs.toArray ∧ ArgsR M w us vs rs ps
def outVals : List TS → List Value → List Value
  | .p _ :: ts, v :: vs => v :: outVals ts vs
  | .i _ _ :: ts, v :: vs => v :: outVals ts vs
  | _ :: ts, _ :: vs => outVals ts vs
  | _, _ => []
def InjP (ps : List (Nat × Nat)) : Prop := ∀ (i j : Nat) (p q : Nat × Nat), ps[i]? = some p → ps[j]? = some q → 0 < p.2 → 0 < q.2 → p.1 = q.1 → i = j
def ownS (ps : List (Nat × Nat)) (b : Nat) : Prop := ∃ p ∈ ps, 0 < p.2 ∧ p.1 = b
inductive FR where
  | ok (rs : List D)
  | pan (T : TypeId) (d : D)
def NewIn (M M' : Mem) (n : Nat) (S : Nat → Prop) : Prop := ∀ b o v, M' b o = some v → M b o = some v ∨ n ≤ b ∨ S b
def FunPost (M : Mem) (w : World) (S : Nat → Prop) (ts : List TS) (vs : List Value) (us : List TS) (r : FR) (e : Ending) (w' : World) : Prop :=
  match r with
  | .ok rs => ∃ v M' ps1 ps2 rs1 rs2, e = .returned v ∧ rs = rs1 ++ rs2 ∧ BelowX w.heap.size S w w' ∧ MemOK M' w' ∧ M.le M' ∧ NewIn M M' w.heap.size S ∧
      ResR M' w' us v rs1 ps1 ∧ ArgsR M' w' (outsT ts) (outVals ts vs) rs2 ps2 ∧ InjP (ps1 ++ ps2) ∧ ∀ p ∈ ps1 ++ ps2, 0 < p.2 → w.heap.size ≤ p.1 ∨ S p.1
  | .pan T d => ∃ v es, e = .panicked [{ v := .iface T v, recovered := false }] ∧ BelowX w.heap.size S w w' ∧ RepT (fun _ _ => none) (.g es) v d
def Fun (P : Program) (G : Globs) (f : FuncId) (ts : List TS) (ds : List D) (us : List TS) (r : FR) : Prop :=
  ∀ (w : World) (M : Mem) (vs : List Value) (ps : List (Nat × Nat)), MemOK M w → GlobOK G M → ArgsR M w ts vs ds ps → InjP ps →
    Calls P f vs.toArray w fun e w' => FunPost M w (ownS ps) ts vs us r e w'

theorem Rep.one {M : Mem} {s : Sh} {v : Value} {d : D} (h : Rep M s v d) : One v := by
  cases s with
  | int k => rw [Rep_int] at h; obtain ⟨n, rfl, _⟩ := h; rfl
  | bool => rw [Rep_bool] at h; obtain ⟨n, rfl, _⟩ := h; rfl
  | str => rw [Rep_str] at h; obtain ⟨n, rfl, _⟩ := h; rfl
  | lst es => rw [Rep_lst] at h; obtain ⟨l, _, _, h⟩ := h; rcases h with ⟨rfl, _⟩ | ⟨b, off, sp, cap, rfl, _⟩ <;> rfl

def EvOK (P : Program) (G : Globs) (ρ : List D) : Ev → Prop
  | .ob e => e.den ρ = .bool true
  | .call f ts as us n => Fun P G f ts (as.map (·.den ρ)) us (.ok (datas (us ++ outsT ts) (ρ.drop n)))

theorem mem_wr {Z : Base} {η : Env} {M : Mem} {blks : List Blk} {w : World} (h : WR Z η M blks w) : MemOK M w := fun b o v hv => ⟨h.mem b o v hv, h.one b o v hv⟩

theorem consE_den (ρ : List D) : ∀ l : List E, (consE l).den ρ = .lst (l.map (·.den ρ))
  | [] => rfl
  | e :: l => by simp [consE, E.den, consE_den ρ l, D.toL]

section
variable {Z : Base} {η : Env} {M : Mem} {blks : List Blk} {w : World}
theorem set_same {l : List Blk} {j : Nat} {B : Blk} (h : l[j]? = some B) : l.set j B = l := by
  apply List.ext_getElem?
  intro i
  rw [List.getElem?_set]
  by_cases e : j = i
  · subst e
    rw [if_pos rfl, h]
    have := (List.getElem?_eq_some_iff.1 h).1
    simp [this]
  · rw [if_neg e]

theorem WR.freeze (h : WR Z η M blks w) {j : Nat} {es : List Sh} {l : E} {fr : Bool} (hj : blks[j]? = some (.row es l fr)) :
    ∃ M', M.le M' ∧ WR Z η M' (blks.set j (.row es l true)) w := by
  cases fr with
  | true => exact ⟨M, Mem.le.refl _, by rw [set_same hj]; exact h⟩
  | false =>
    have hk := h.blk j _ hj
    obtain ⟨b, c, xs, h1, h2, h3, h4, hr⟩ := hk
    by_cases hc : 0 < c
    · obtain ⟨h5, vs, T, h6, h7, h8, h9, h10⟩ := hr hc
      have hnone : ∀ o, M b o = none := fun o => by rw [h10 o]; simp
      refine ⟨fun k o => if k = b then (if o < xs.length * es.length then vs[o]? else none) else M k o, ?_, ?_⟩
      · intro k o v hv
        by_cases e : k = b
        · subst e; rw [hnone] at hv; cases hv
        · simp only [if_neg e]; exact hv
      · refine h.update hj (by simp) h1 hc rfl rfl rfl rfl (fun _ _ => rfl) ?_ (fun k hk o => by simp only [if_neg hk]) ?_ ?_ (by simp)
        · intro k o v hv
          by_cases e : k = b
          · subst e; rw [hnone] at hv; cases hv
          · simp only [if_neg e]; exact hv
        · intro o v hv
          simp only [if_pos rfl] at hv
          by_cases ho : o < xs.length * es.length
          · rw [if_pos ho] at hv
            exact ⟨by rw [cell_of_heap h6]; simpa using hv, h8 v (List.mem_of_getElem? hv)⟩
          · rw [if_neg ho] at hv; cases hv
        · refine ⟨b, c, xs, h1, h2, h3, h4, fun _ => ⟨h5, vs, T, h6, h7, h8, fun i x hx => RepCells.mono ?_ _ _ _ _ _ (fun _ _ h => h) (h9 i x hx), fun o => by simp⟩⟩
          intro k o v hv
          by_cases e : k = b
          · subst e; rw [hnone] at hv; cases hv
          · simp only [if_neg e]; exact hv
    · refine ⟨M, Mem.le.refl _, ?_⟩
      have hlt : j < blks.length := (List.getElem?_eq_some_iff.1 hj).1
      refine ⟨h.below, h.size, h.base, h.new, h.mem, h.one, fun i B hB => ?_, fun i k B C p q hi hk hB hC hp hq hp0 hq0 e => ?_, fun i hi => h.out i (by simpa using hi), h.pal, h.glob⟩
      · rw [List.getElem?_set] at hB
        by_cases e : j = i
        · subst e
          simp [hlt] at hB
          subst hB
          exact ⟨b, c, xs, h1, h2, h3, h4, fun h0 => absurd h0 hc⟩
        · rw [if_neg e] at hB; exact h.blk i B hB
      · have key : ∀ (i : Nat) (B : Blk), (blks.set j (.row es l true))[i]? = some B → B ≠ Blk.dead → ∃ B', blks[i]? = some B' ∧ B' ≠ Blk.dead := by
          intro i B hB hd
          rw [List.getElem?_set] at hB
          by_cases e : j = i
          · subst e; exact ⟨_, hj, by simp⟩
          · rw [if_neg e] at hB; exact ⟨B, hB, hd⟩
        obtain ⟨B', g1, g2⟩ := key i B hi hB
        obtain ⟨C', g3, g4⟩ := key k C hk hC
        exact h.inj i k B' C' p q g1 g3 g2 g4 hp hq hp0 hq0 e
end

end Go.Proofs.Ytindphofgojfbaa.Sy
