/-
  A part of a symbolic walk that is proved sound: what the functions of a program do with data. No conditions.
-/
import Derived.Test.YtokjokbbegcceaaSxW
namespace Go.Proofs.Ytokjokbbegcceaa.Sx
open Go.RowKit

def flatD : List TS → List D → List D
  | t :: ts, d :: ds => (match t with | .c _ => [d] | .g _ => (match d with | .rc l => l | _ => [])) ++ flatD ts ds
  | _, _ => []
theorem RepT.flat {M : Mem} {t : TS} {v : Value} {d : D} (h : RepT M t v d) : (flatD [t] [d]).length = t.flat.length ∧ t.data (flatD [t] [d]) = d := by
  cases t with
  | c s => simp [flatD, TS.flat, TS.data]
  | g l =>
    obtain ⟨vs, ds, rfl, rfl, h1, h2⟩ := h
    simp [flatD, TS.flat, TS.data, h2.length]
theorem flatD_cons (t : TS) (ts : List TS) (d : D) (ds : List D) : flatD (t :: ts) (d :: ds) = flatD [t] [d] ++ flatD ts ds := by simp [flatD]
theorem RepTs.flat {M : Mem} : ∀ {ts : List TS} {vs : List Value} {ds : List D}, RepTs M ts vs ds → (flatD ts ds).length = flatLen ts ∧ datas ts (flatD ts ds) = ds
  | _, _, _, .nil => ⟨rfl, rfl⟩
  | t :: ts, _, d :: ds, .cons h1 h2 => by
    obtain ⟨a1, a2⟩ := h1.flat
    obtain ⟨b1, b2⟩ := RepTs.flat h2
    rw [flatD_cons]
    refine ⟨by simp only [List.length_append, a1, b1, flatLen, List.map_cons, List.sum_cons], ?_⟩
    simp only [datas]
    rw [← a1, List.take_left, List.drop_left, a2, b2]
theorem RepTs.length {M : Mem} {ts : List TS} {vs : List Value} {ds : List D} (h : RepTs M ts vs ds) : vs.length = ts.length := by
  induction h with
  | nil => rfl
  | cons _ _ ih => simp [ih]
theorem AbsTs.get {η : Env} {M : Mem} {l : List TV} {vs : List Value} (h : AbsTs η M l vs) (i : Nat) (a : TV) (ha : l[i]? = some a) : ∃ v, vs[i]? = some v ∧ AbsT η M a v := by
  induction h generalizing i with
  | nil => simp at ha
  | cons h1 _ ih =>
    cases i with
    | zero => simp at ha; subst ha; exact ⟨_, rfl, h1⟩
    | succ i => exact ih i (by simpa using ha)
theorem varsTs_length : ∀ (ts : List TS) (n : Nat), (varsTs n ts).length = ts.length
  | [], _ => rfl
  | t :: ts, n => by simp [varsTs, varsTs_length ts]

section
variable {Z : Base} {η : Env} {M : Mem} {w : World} {P : Program}
theorem loadA_ptr {B : Nat → Blk} {T : TypeId} {a : A} {r : TV × List Ev} (h : loadA P B T a = some r) {v : Value} (ha : AbsA η M a v) : ∃ ad, v = .pointer (some ad) := by
  unfold loadA at h
  split at h
  · obtain ⟨b, c, _, rfl⟩ := ha; exact ⟨_, rfl⟩
  · obtain ⟨b, q, rfl, _⟩ := ha; exact ⟨_, rfl⟩
  · obtain ⟨b, c, m, _, _, rfl⟩ := ha; exact ⟨_, rfl⟩
  · cases h
def resSem (tmps : Array Value) : ResultVar → Sem Value
  | .tmp t => pure (tmps.getD t undef)
  | .cell a t => do loadVar t (← asAddr (tmps.getD a undef))
theorem resTV_sound {σ : St} {tmps : Array Value} (hr : Rel Z η M σ tmps w) {r : ResultVar} {t : TV} (h : resTV P σ r = some t) : ∃ v, (resSem tmps r).run P w = .ok v w ∧ AbsT η M t v := by
  unfold resTV at h
  split at h
  · rename_i i
    split at h
    · rename_i a ha
      cases h
      exact ⟨_, rfl, hr.tmp i _ ha⟩
    · cases h
  · rename_i i T
    split at h
    · rename_i a ha
      split at h
      · cases h
      · rename_i hu
        have hu' : ∃ d, P.underlying T = some d := by cases hd : P.underlying T with | none => simp [hd] at hu | some d => exact ⟨d, rfl⟩
        split at h
        · rename_i t' hl
          cases h
          have hA := AbsV_c (hr.tmp i _ ha)
          obtain ⟨v, h1, h2⟩ := loadA_sound hl hu' hr.wr hA (fun e he => by cases he)
          obtain ⟨ad, had⟩ := loadA_ptr hl hA
          refine ⟨v, ?_, h2⟩
          rw [had] at h1
          simp only [Instr.loadAt, Instr.sureAddr, Sem.run_bind, Sem.run_pure, Result.andThen_ok] at h1
          simp only [resSem, had, asAddr, Sem.run_bind, Sem.run_pure, Result.andThen_ok, h1]
        · cases h
    · cases h
theorem resTVs_sound {σ : St} {tmps : Array Value} (hr : Rel Z η M σ tmps w) : ∀ {l : List ResultVar} {ts : List TV}, l.mapM (resTV P σ) = some ts → ∃ vs : List Value, (l.mapM (resSem tmps)).run P w = .ok vs w ∧ AbsTs η M ts vs
  | [], ts, h => by simp at h; subst h; exact ⟨[], rfl, .nil⟩
  | r :: l, ts, h => by
    rw [List.mapM_cons] at h
    cases hr0 : resTV P σ r with
    | none => rw [hr0] at h; simp at h
    | some t =>
      rw [hr0] at h
      simp only [Option.bind_eq_bind, Option.bind_some, Option.bind_eq_some_iff] at h
      obtain ⟨ts', h1, h2⟩ := h
      simp at h2
      subst h2
      obtain ⟨v, g1, g2⟩ := resTV_sound hr hr0
      obtain ⟨vs, g3, g4⟩ := resTVs_sound hr h1
      refine ⟨v :: vs, ?_, .cons g2 g4⟩
      rw [List.mapM_cons]
      simp only [Sem.run_bind, g1, g3, Result.andThen_ok, Sem.run_pure]
theorem fixR_abs {u : TS} {t : TV} {v : Value} (h : AbsT η M t v) : AbsT η M (fixR u t) v := by
  unfold fixR
  split
  · have := AbsT_c h
    simp only [AbsA] at this
    subst this
    exact AbsT_mk rfl rfl
  · exact h
theorem fixRs_abs : ∀ {us : List TS} {ts : List TV} {vs : List Value}, AbsTs η M ts vs → us.length = ts.length → AbsTs η M (List.zipWith fixR us ts) vs
  | [], _, _, .nil, _ => .nil
  | u :: us, _, _, .cons h1 h2, hl => .cons (fixR_abs h1) (fixRs_abs h2 (by simpa using hl))
  | [], _, _, .cons _ _, hl => by simp at hl
  | _ :: _, _, _, .nil, hl => by simp at hl

theorem results_run {fn : Func} {tmps : Array Value} {vs : List Value} (h : (fn.results.toList.mapM (resSem tmps)).run P w = .ok vs w) : (results fn tmps).run P w = .ok (if h : vs.length = 1 then vs[0] else .tuple vs.toArray) w := by
  have he : results fn tmps = (do let vs ← fn.results.mapM (resSem tmps); pure (if h : vs.size = 1 then vs[0] else .tuple vs)) := by
    unfold results
    congr 1
  rw [he, Array.mapM_eq_mapM_toList]
  simp only [Sem.run_bind, Sem.run_map, h, Result.andThen_ok, Sem.run_pure]
  rfl

theorem AbsTs.length {l : List TV} {vs : List Value} (h : AbsTs η M l vs) : vs.length = l.length := by
  induction h with
  | nil => rfl
  | cons _ _ ih => simp [ih]

/-- What a call leaves. -/
def FunPost (M : Mem) (w : World) (us : List TS) (rs : List D) (e : Ending) (w' : World) : Prop :=
  ∃ v M', e = .returned v ∧ Below w.heap.size w w' ∧ MemOK M' w' ∧ M.le M' ∧ (∀ b o v, M' b o = some v → M b o = some v ∨ w.heap.size ≤ b) ∧ RepRes M' us v rs

theorem ret_good {w0 : World} {M0 : Mem} {fn : Func} {us : List TS} {rs : List D} {Λ : List Lp} {ρ0 : List D} {Q : Exit → Act → World → Prop} {ex : Exit} (hQ : ∀ a w', (a.defers = [] ∧ ∃ v, (results fn a.tmps).run P w' = .ok v w' ∧ FunPost M0 w0 us rs (.returned v) w') → Q ex a w') :
    GoodK P (fun r => r = rs) ⟨w0.heap.size, w0, M0⟩ [] Λ ρ0 (retK P fn us) (Q ex) := by
  intro Λ' hΛ σ η M tmps w hr _ _ _ h
  apply hQ
  refine ⟨rfl, ?_⟩
  unfold retK at h
  split at h
  · exact h.elim
  · rename_i ts hts
    split at h
    · exact h.elim
    · rename_i hlen
      simp only [] at h
      split at h
      · exact h.elim
      · rename_i ps hps
        split at h
        · rename_i hsame
          simp only [VC.den] at h
          obtain ⟨vs, h1, h2⟩ := resTVs_sound hr hts
          obtain ⟨M', m1, w1, r1⟩ := args_sound hr.wr hps (fixRs_abs h2 (by simpa using hlen))
          rw [tssSame_eq hsame] at r1
          have hps2 : (ps.map fun p => p.2.den η.ρ) = rs := by rw [← h, List.map_map]; rfl
          rw [hps2] at r1
          have hvl := r1.length
          refine ⟨_, results_run h1, _, M', rfl, hr.wr.below, mem_wr w1, w1.base, w1.new, ?_⟩
          match us, rs, vs, r1, hvl with
          | [u], [r], [v], .cons h1 .nil, _ => exact ⟨r, rfl, h1⟩
          | [], [], [], .nil, _ => exact ⟨[], rfl, .nil⟩
          | u1 :: u2 :: us, _, v1 :: v2 :: vs, r1, _ => exact ⟨_, rfl, r1⟩
        · exact h.elim

theorem fun_of_gen (hP : NoNum P) {f : FuncId} {fn : Func} {c : Code} (hf : P.funcs[f]? = some fn) (hb : fn.body = some c) {ts us : List TS} {ds rs : List D} (hsz : ts.length ≤ fn.ntmps) {v : VC} (hv : genFn P f ts us = v) (h : v.den P (fun r => r = rs) [] (flatD ts ds)) : Fun P f ts ds us rs := by
  intro w M vs hM hR
  have hg : genFn P f ts us = gen P [] c (startSt fn ts) { normal := retK P fn us, exits := [], ret := retK P fn us } := by
    unfold genFn
    simp only [hf, hb]
  rw [hg] at hv
  rw [← hv] at h
  refine calls_of_wp hf hb ?_
  obtain ⟨hl, hd⟩ := hR.flat
  have hvl := hR.length
  let η : Env := ⟨fun _ => none, flatD ts ds⟩
  have hrel : Rel ⟨w.heap.size, w, M⟩ η M (startSt fn ts) (vs.toArray ++ Array.replicate (fn.ntmps - vs.toArray.size) undef) w := by
    refine ⟨⟨Below.refl _ _, Nat.le_refl _, Mem.le.refl _, fun b o v hv => .inl hv, fun b o v hv => (hM b o v hv).1, fun b o v hv => (hM b o v hv).2, fun j B hB => by simp [startSt] at hB, fun i j B C p q hi => by simp [startSt] at hi, fun j _ => rfl⟩, ?_, fun t A hA => ?_, fun e b he => by simp [startSt] at he⟩
    · simp [startSt, varsTs_length, hvl]
    · simp only [startSt] at hA
      rw [List.getElem?_append] at hA
      split at hA
      · rename_i ht
        simp only [List.length_map, varsTs_length] at ht
        simp only [List.getElem?_map, Option.map_eq_some_iff] at hA
        obtain ⟨T, hT, rfl⟩ := hA
        have habs : AbsTs η M (varsTs 0 ts) vs := varsTs_abs ts 0 vs (by simp only [List.drop_zero]; show RepTs M ts vs (datas ts (flatD ts ds)); rw [hd]; exact hR)
        obtain ⟨v, hv1, hv2⟩ := habs.get t T hT
        have : (vs.toArray ++ Array.replicate (fn.ntmps - vs.toArray.size) undef).getD t undef = v := by
          rw [Array.getD_eq_getD_getElem?, Array.getElem?_append]
          simp only [List.size_toArray]
          rw [if_pos (by omega)]
          simp [hv1]
        rw [this]
        exact hv2
      · have := List.mem_of_getElem? hA
        simp at this
        rw [this.2]
        exact trivial
  have hgood := gen_sound hP (K := fun r => r = rs) (Z := ⟨w.heap.size, w, M⟩) (d := []) (hints := []) c [] [] { normal := retK P fn us, exits := [], ret := retK P fn us } (bodyPost P fn (FunPost M w us rs))
    ⟨ret_good (fun a w' h => h), ret_good (fun a w' h => h), fun i f hf => by simp [lookX] at hf⟩
  exact hgood [] (List.prefix_refl _) (startSt fn ts) η M _ w hrel (List.nil_prefix) (by simpa [startSt] using hl) rfl h
end
end Go.Proofs.Ytokjokbbegcceaa.Sx
