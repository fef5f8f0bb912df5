/-
  A part of a symbolic walk that is proved sound: what the functions of a program do with data. No conditions.
-/
import Derived.Test.YtindphofgojfbaaSyW
set_option linter.unusedSimpArgs false
set_option linter.unusedVariables false
namespace Go.Proofs.Ytindphofgojfbaa.Sy
open Go.RowKit
def flatD : List TS → List D → List D
  | t :: ts, d :: ds => (match t with | .c _ | .r _ | .i _ _ => [d] | _ => (match d with | .rc l => l | _ => [])) ++ flatD ts ds
  | _, _ => []
section
variable {M : Mem} {w : World}
theorem CellsR.len {ks : List CK} {vs : List Value} {ds : List D} {ps : List (Nat × Nat)} (h : CellsR M w ks vs ds ps) : ds.length = ks.length := by
  induction h with
  | nil => rfl
  | cons _ _ ih => simp [ih]
theorem ArgR.flat {t : TS} {v : Value} {d : D} {ps : List (Nat × Nat)} (h : ArgR M w t v d ps) : (flatD [t] [d]).length = t.flat.length ∧ t.data (flatD [t] [d]) = d := by
  cases t with
  | c s => simp [flatD, TS.flat, TS.data]
  | r s => simp [flatD, TS.flat, TS.data]
  | i _ _ => simp [flatD, TS.flat, TS.data]
  | g l =>
    obtain ⟨⟨vs, ds, rfl, rfl, h1, h2⟩, _⟩ := h
    simp [flatD, TS.flat, TS.data, h2.length]
  | h l =>
    obtain ⟨vs, ds, rfl, rfl, h2⟩ := h
    simp [flatD, TS.flat, TS.data, h2.len]
  | p l =>
    obtain ⟨b, vs, T, ds, qs, rfl, _, _, rfl, h2, _⟩ := h
    simp [flatD, TS.flat, TS.data, h2.len]
theorem flatD_cons (t : TS) (ts : List TS) (d : D) (ds : List D) : flatD (t :: ts) (d :: ds) = flatD [t] [d] ++ flatD ts ds := by simp [flatD]
theorem ArgsR.flat : ∀ {ts : List TS} {vs : List Value} {ds : List D} {ps : List (Nat × Nat)}, ArgsR M w ts vs ds ps → (flatD ts ds).length = flatLen ts ∧ datas ts (flatD ts ds) = ds
  | _, _, _, _, .nil => ⟨rfl, rfl⟩
  | t :: ts, _, d :: ds, _, .cons h1 h2 => by
    obtain ⟨a1, a2⟩ := h1.flat
    obtain ⟨b1, b2⟩ := ArgsR.flat h2
    rw [flatD_cons]
    refine ⟨by simp only [List.length_append, a1, b1, flatLen, List.map_cons, List.sum_cons], ?_⟩
    simp only [datas]
    rw [← a1, List.take_left, List.drop_left, a2, b2]
theorem ArgsR.split : ∀ {a b : List TS} {v1 v2 : List Value} {ds : List D} {ps : List (Nat × Nat)}, v1.length = a.length → ArgsR M w (a ++ b) (v1 ++ v2) ds ps → ∃ ds1 ds2 ps1 ps2, ds = ds1 ++ ds2 ∧ ps = ps1 ++ ps2 ∧ ArgsR M w a v1 ds1 ps1 ∧ ArgsR M w b v2 ds2 ps2
  | [], b, [], v2, ds, ps, _, h => ⟨[], ds, [], ps, rfl, rfl, .nil, h⟩
  | t :: a, b, v :: v1, v2, _, _, hl, .cons h1 h2 => by
    obtain ⟨ds1, ds2, ps1, ps2, rfl, rfl, g1, g2⟩ := ArgsR.split (by simpa using hl) h2
    exact ⟨_, _, _, _, rfl, (List.append_assoc _ _ _).symm, .cons h1 g1, g2⟩
  | [], _, _ :: _, _, _, _, hl, _ => by simp at hl
  | _ :: _, _, [], _, _, _, hl, _ => by simp at hl
end
theorem AbsTs.get {η : Env} {M : Mem} {l : List TV} {vs : List Value} (h : AbsTs η M l vs) (i : Nat) (a : TV) (ha : l[i]? = some a) : ∃ v, vs[i]? = some v ∧ AbsT η M a v := by
  induction h generalizing i with
  | nil => simp at ha
  | cons h1 _ ih =>
    cases i with
    | zero => simp at ha; subst ha; exact ⟨_, rfl, h1⟩
    | succ i => exact ih i (by simpa using ha)

section
variable {Z : Base} {η : Env} {M : Mem} {w : World} {P : Program}
theorem loadA_ptr {B : Nat → Blk} {T : TypeId} {a : A} {r : TV × List Ev} (h : loadA P B T a = some r) {v : Value} (ha : AbsA η M a v) : ∃ ad, v = .pointer (some ad) := by
  unfold loadA at h
  split at h
  · obtain ⟨b, c, _, rfl⟩ := ha; exact ⟨_, rfl⟩
  · obtain ⟨b, q, rfl, _⟩ := ha; exact ⟨_, rfl⟩
  · obtain ⟨b, c, m, _, _, rfl⟩ := ha; exact ⟨_, rfl⟩
  · cases h
def resSem (tmps : Array Value) : ResultVar → Sem Value
  | .tmp t => pure (tmps.getD t undef)
  | .cell a t => do loadVar t (← asAddr (tmps.getD a undef))
theorem resTV_sound {σ : St} {tmps : Array Value} (hr : Rel Z η M σ tmps w) {r : ResultVar} {t : TV} (h : resTV P σ r = some t) : ∃ v, (resSem tmps r).run P w = .ok v w ∧ AbsT η M t v := by
  unfold resTV at h
  split at h
  · rename_i i
    split at h
    · rename_i a ha
      cases h
      exact ⟨_, rfl, hr.tmp i _ ha⟩
    · cases h
  · rename_i i T
    split at h
    · rename_i a ha
      split at h
      · cases h
      · rename_i hu
        have hu' : ∃ d, P.underlying T = some d := by cases hd : P.underlying T with | none => simp [hd] at hu | some d => exact ⟨d, rfl⟩
        split at h
        · rename_i t' hl
          cases h
          have hA := AbsV_c (hr.tmp i _ ha)
          obtain ⟨v, h1, h2⟩ := loadA_sound (G := []) hl hu' hr.wr hA (fun e he => by cases he)
          obtain ⟨ad, had⟩ := loadA_ptr hl hA
          refine ⟨v, ?_, h2⟩
          rw [had] at h1
          simp only [Instr.loadAt, Instr.sureAddr, Sem.run_bind, Sem.run_pure, Result.andThen_ok] at h1
          simp only [resSem, had, asAddr, Sem.run_bind, Sem.run_pure, Result.andThen_ok, h1]
        · cases h
    · cases h
theorem resTVs_sound {σ : St} {tmps : Array Value} (hr : Rel Z η M σ tmps w) : ∀ {l : List ResultVar} {ts : List TV}, l.mapM (resTV P σ) = some ts → ∃ vs : List Value, (l.mapM (resSem tmps)).run P w = .ok vs w ∧ AbsTs η M ts vs
  | [], ts, h => by simp at h; subst h; exact ⟨[], rfl, .nil⟩
  | r :: l, ts, h => by
    rw [List.mapM_cons] at h
    cases hr0 : resTV P σ r with
    | none => rw [hr0] at h; simp at h
    | some t =>
      rw [hr0] at h
      simp only [Option.bind_eq_bind, Option.bind_some, Option.bind_eq_some_iff] at h
      obtain ⟨ts', h1, h2⟩ := h
      simp at h2
      subst h2
      obtain ⟨v, g1, g2⟩ := resTV_sound hr hr0
      obtain ⟨vs, g3, g4⟩ := resTVs_sound hr h1
      refine ⟨v :: vs, ?_, .cons g2 g4⟩
      rw [List.mapM_cons]
      simp only [Sem.run_bind, g1, g3, Result.andThen_ok, Sem.run_pure]
theorem fixR_abs {u : TS} {t : TV} {v : Value} (h : AbsT η M t v) : AbsT η M (fixR u t) v := by
  unfold fixR
  split
  · have := AbsT_c h
    simp only [AbsA] at this
    subst this
    exact AbsT_mk (a := .nilS _) ⟨none, rfl⟩ rfl
  · have := AbsT_c h
    simp only [AbsA] at this
    subst this
    exact AbsT_mk (a := .nilS _) ⟨none, rfl⟩ rfl
  · exact h
theorem fixRs_abs : ∀ {us : List TS} {ts : List TV} {vs : List Value}, AbsTs η M ts vs → AbsTs η M (fixRs us ts) vs
  | [], _, _, h => by simpa [fixRs] using h
  | u :: us, _, _, .nil => .nil
  | u :: us, _, _, .cons h1 h2 => .cons (fixR_abs h1) (fixRs_abs h2)

theorem results_run {fn : Func} {tmps : Array Value} {vs : List Value} (h : (fn.results.toList.mapM (resSem tmps)).run P w = .ok vs w) : (results fn tmps).run P w = .ok (if h : vs.length = 1 then vs[0] else .tuple vs.toArray) w := by
  have he : results fn tmps = (do let vs ← fn.results.mapM (resSem tmps); pure (if h : vs.size = 1 then vs[0] else .tuple vs)) := by
    unfold results
    congr 1
  rw [he, Array.mapM_eq_mapM_toList]
  simp only [Sem.run_bind, Sem.run_map, h, Result.andThen_ok, Sem.run_pure]
  rfl
theorem AbsTs.length {l : List TV} {vs : List Value} (h : AbsTs η M l vs) : vs.length = l.length := by
  induction h with
  | nil => rfl
  | cons _ _ ih => simp [ih]
theorem pal_abs : ∀ (pal : List (Nat × (Nat × Nat))), (∀ (j : Nat) (p : Nat × Nat), (j, p) ∈ pal → η.al j = some p) → AbsTs η M ((pal.map (·.1)).map fun j => TV.c (.ptr j 0)) (pal.map fun q => Value.pointer (some ⟨q.2.1, 0, none⟩))
  | [], _ => .nil
  | (j, p) :: pal, h => .cons (AbsT_mk (a := .ptr j 0) ⟨p.1, p.2, h j p (by simp), rfl⟩ rfl) (pal_abs pal fun j p hp => h j p (by simp [hp]))

theorem retE_sound {σ : St} {tmps : Array Value} {ts us : List TS} {tvs : List TV} {vs : List Value} {K : FR → Prop} {Λ : List Lp} (hr : Rel Z η M σ tmps w) (hvs : AbsTs η M tvs vs) (h : (retE σ ts us tvs).den P Z.G K Λ η.ρ) :
    ∃ rs, K (.ok rs) ∧ us.length = vs.length ∧ ∀ args : List Value, outVals ts args = Z.pal.map (fun q => Value.pointer (some ⟨q.2.1, 0, none⟩)) → Z.n0 = Z.W0.heap.size →
      FunPost Z.M0 Z.W0 Z.S ts args us (.ok rs) (.returned (if h : vs.length = 1 then vs[0] else .tuple vs.toArray)) w := by
  unfold retE at h
  split at h
  · exact h.elim
  rename_i hlen
  split at h
  · exact h.elim
  rename_i es frz own hprep
  simp only [] at h
  split at h
  rotate_left
  · exact h.elim
  rename_i hc
  simp only [Bool.and_eq_true, Bool.not_eq_true'] at hc
  obtain ⟨hdist, hapart⟩ := hc
  simp only [VC.den] at h
  have hnd := distinctN_nodup hdist
  have hapart' : ∀ j, some j ∈ own → ∀ i ∈ frz, j ≠ i := by
    intro j hj i hi e
    have h1 := List.any_eq_false.1 hapart j (List.mem_filterMap.2 ⟨some j, hj, rfl⟩)
    subst e
    exact h1 (List.any_eq_true.2 ⟨j, hi, by simp⟩)
  obtain ⟨M1, m1, w1, fz⟩ := freezeAll frz σ.blks hr.wr (fun j hj => by
    obtain ⟨es, l, fr, he⟩ := rows_of_prepTs hprep j hj
    exact ⟨es, l, fr, he, .inl (getD_some he (by simp))⟩)
  have hfz_other : ∀ j, j ∉ frz → (applyU σ.blks (frz.map fun j => (j, frozenB (σ.blks.getD j .dead))))[j]? = σ.blks[j]? := fun j hj => applyU_other _ _ _ (fun p hp e => by
    obtain ⟨i, hi, rfl⟩ := List.mem_map.1 hp
    exact hj (by rw [← e]; exact hi))
  have hall := ((fixRs_abs (us := us) hvs).append (pal_abs (M := M) Z.pal hr.wr.pal)).mono (Env.le.refl _) m1
  rw [hr.pj] at hall
  obtain ⟨hA, hlive, _, _, _⟩ := prepTs_sound w1 hprep fz (fun j hj => by
    rw [List.getD_eq_getElem?_getD, List.getD_eq_getElem?_getD, hfz_other j fun hm => hapart' j hj j hm rfl]) hall
  have hinjP := own_injP w1 hnd hlive
  have hvl := hvs.length
  have hlen' : us.length = vs.length := by rw [hvl]; simpa using hlen
  obtain ⟨rs1, rs2, ps1, ps2, hrs, hps, g1, g2⟩ := ArgsR.split (by omega) hA
  refine ⟨_, h, hlen', fun args hargs hn0 => ⟨_, M1, ps1, ps2, rs1, rs2, rfl, hrs, ?_, mem_wr w1, w1.base, fun b o v hv => ?_, ?_, by rw [hargs]; exact g2, by rw [← hps]; exact hinjP, fun p hp hp0 => ?_⟩⟩
  · rw [← hn0]; exact w1.below
  · rw [← hn0]
    rcases w1.new b o v hv with h1 | h1
    · exact .inl h1
    · exact .inr h1
  · match us, vs, g1, hlen' with
    | [u], [v], g1, _ =>
      cases g1 with
      | cons h1 h2 =>
        cases h2
        exact ⟨_, rfl, by simpa using h1⟩
    | [], [], g1, _ => exact ⟨_, rfl, g1⟩
    | _ :: _ :: _, _ :: _ :: _, g1, _ => exact ⟨_, rfl, g1⟩
  · rw [← hps] at hp
    obtain ⟨x, hx, hxp⟩ := List.mem_map.1 hp
    obtain ⟨j, rfl, hj⟩ := adr_live hxp hp0
    obtain ⟨B, q, hB, hBd, hq⟩ := hlive j hx
    rw [← hn0]
    exact (w1.live_lt hB hBd hj hp0).2

theorem replicate_upd : ∀ (bs : List Blk) (pre : List Blk), applyU (pre ++ List.replicate bs.length Blk.none) (updFrom pre.length bs) = pre ++ bs
  | [], pre => by simp [updFrom, applyU]
  | b :: bs, pre => by
    simp only [updFrom, applyU_cons, List.length_cons, List.replicate_succ]
    rw [List.set_append_right _ _ (Nat.le_refl _), Nat.sub_self, List.set_cons_zero]
    have := replicate_upd bs (pre ++ [b])
    simp only [List.length_append, List.length_singleton, List.append_assoc, List.singleton_append] at this
    exact this
theorem ptrs_pal {η : Env} : ∀ {js : List Nat} {vs : List Value}, PtrsAt η js vs → ∃ pal : List (Nat × (Nat × Nat)), pal.map (·.1) = js ∧ (∀ (j : Nat) (p : Nat × Nat), (j, p) ∈ pal → η.al j = some p) ∧ vs = pal.map fun q => Value.pointer (some ⟨q.2.1, 0, none⟩)
  | _, _, .nil => ⟨[], rfl, (fun _ _ h => by cases h), rfl⟩
  | _, _, .cons (j := j) ⟨b, h1, h2⟩ h3 => by
    obtain ⟨pal, e1, e2, e3⟩ := ptrs_pal h3
    refine ⟨(j, (b, 1)) :: pal, by simp [e1], fun j' p hp => ?_, by simp [h1, e3]⟩
    rcases List.mem_cons.1 hp with hp | hp
    · cases hp; exact h2
    · exact e2 j' p hp

theorem start_rel {sg : Nat → Option (List TS × List TS)} {gl : Globs} {fn : Func} {ts : List TS} {ds : List D} {vs : List Value} {ps : List (Nat × Nat)} (hsz : ts.length ≤ fn.ntmps) (hnI : ts.all TS.noI = true) (hM : MemOK M w) (hG : GlobOK gl M) (hA : ArgsR M w ts vs ds ps) (hI : InjP ps) :
    ∃ η pal, η.ρ = flatD ts ds ∧ outVals ts vs = pal.map (fun q => Value.pointer (some ⟨q.2.1, 0, none⟩)) ∧
      Rel ⟨w.heap.size, w, M, ownS ps, pal, gl⟩ η M (startSt sg gl fn ts) (vs.toArray ++ Array.replicate (fn.ntmps - vs.toArray.size) undef) w := by
  obtain ⟨hl, hd⟩ := hA.flat
  have hvl := hA.lens.1
  let η0 : Env := ⟨fun _ => none, flatD ts ds⟩
  let N := (varsTs 0 0 ts).2.length
  have h0 : WR ⟨w.heap.size, w, M, ownS ps, [], gl⟩ η0 M (List.replicate N Blk.none) w := by
    refine ⟨BelowX.refl _ _ _, Nat.le_refl _, Mem.le.refl _, fun b o v hv => .inl hv, fun b o v hv => (hM b o v hv).1, fun b o v hv => (hM b o v hv).2, fun j B hB => ?_, (fun i j B C p q _ _ _ _ hp => by cases hp), fun j _ => rfl, (fun j p hp => by cases hp), hG⟩
    rw [List.getElem?_replicate] at hB
    split at hB
    · cases hB; rfl
    · cases hB
  obtain ⟨η, t, a, p⟩ := adoptTs 0 0 (qs := []) h0 hA hnI (by simpa [η0] using hd) (fun i hi => by rw [Nat.zero_add, List.getElem?_replicate, if_pos hi]) (by simpa using hI) (fun p _ _ j B q _ _ hq => by cases hq) (fun p hp hp0 => .inr ⟨p, hp, hp0, rfl⟩)
  obtain ⟨pal, e1, e2, e3⟩ := ptrs_pal p
  have hw := t.wr
  have hupd : applyU (List.replicate N Blk.none) (updFrom 0 (varsTs 0 0 ts).2) = (varsTs 0 0 ts).2 := by
    have := replicate_upd (varsTs 0 0 ts).2 []
    simpa [N] using this
  rw [hupd] at hw
  refine ⟨η, pal, t.le.ρ, e3, ⟨⟨hw.below, hw.size, hw.base, hw.new, hw.mem, hw.one, hw.blk, hw.inj, hw.out, e2, hG⟩, ?_, fun i A hA' => ?_, fun e b he => by simp [startSt] at he, e1, rfl⟩⟩
  · simp [startSt, varsTs_length, hvl]
  · simp only [startSt] at hA'
    rw [List.getElem?_append] at hA'
    split at hA'
    · rename_i ht
      simp only [List.length_map, varsTs_length] at ht
      simp only [List.getElem?_map, Option.map_eq_some_iff] at hA'
      obtain ⟨T, hT, rfl⟩ := hA'
      obtain ⟨v, hv1, hv2⟩ := a.get i T hT
      have : (vs.toArray ++ Array.replicate (fn.ntmps - vs.toArray.size) undef).getD i undef = v := by
        rw [Array.getD_eq_getD_getElem?, Array.getElem?_append]
        simp only [List.size_toArray]
        rw [if_pos (by omega)]
        simp [hv1]
      rw [this]
      exact hv2
    · have := List.mem_of_getElem? hA'
      simp at this
      rw [this.2]
      exact trivial

theorem fun_of_gen (hP : NoNum P) {f : FuncId} {fn : Func} {c : Code} (hf : P.funcs[f]? = some fn) (hb : fn.body = some c) {sg : Nat → Option (List TS × List TS)} {gl : Globs} {ts us : List TS} {ds : List D} {r : FR} (hsz : ts.length ≤ fn.ntmps) {v : VC} (hv : genFn P sg gl f ts us = v) (h : v.den P gl (fun r' => r' = r) [] (flatD ts ds)) : Fun P gl f ts ds us r := by
  intro w M vs ps hM hG hA hI
  have hnI : ts.all TS.noI = true := by
    cases hc : ts.all TS.noI with
    | true => rfl
    | false =>
      exfalso
      have hbad : genFn P sg gl f ts us = .bad 900051 := by unfold genFn; simp only [hf, hb, hc, Bool.not_false, if_true]
      rw [hbad] at hv
      subst hv
      exact h
  have hg : genFn P sg gl f ts us = gen P [] c (startSt sg gl fn ts) { normal := retK P fn ts us, exits := [], ret := retK P fn ts us } := by
    unfold genFn
    simp only [hf, hb, hnI, Bool.not_true, Bool.false_eq_true, if_false]
  rw [hg] at hv
  rw [← hv] at h
  refine calls_of_wp hf hb ?_
  obtain ⟨η, pal, hρ, hout, hrel⟩ := start_rel (sg := sg) (fn := fn) hsz hnI hM hG hA hI
  have hret : ∀ (ex : Exit) (Λ : List Lp) (ρ0 : List D), (ex = .normal ∨ ex = .ret) → GoodK P (fun r' => r' = r) ⟨w.heap.size, w, M, ownS ps, pal, gl⟩ [] Λ ρ0 (retK P fn ts us) (bodyPost P fn (FunPost M w (ownS ps) ts vs us r) ex) := by
    intro ex Λ ρ0 hex Λ' _ σ η' M' tmps w' hr _ _ _ h
    unfold retK at h
    split at h
    · exact h.elim
    · rename_i tvs htvs
      obtain ⟨vres, h1, h2⟩ := resTVs_sound hr htvs
      obtain ⟨rs, hK, hl, hpost⟩ := retE_sound hr h2 h
      subst hK
      have := hpost vs hout rfl
      have hres := results_run h1
      rcases hex with rfl | rfl <;> exact ⟨rfl, _, hres, this⟩
  have hgood := gen_sound hP (K := fun r' => r' = r) (Z := ⟨w.heap.size, w, M, ownS ps, pal, gl⟩) (d := []) (pin := []) c [] [] { normal := retK P fn ts us, exits := [], ret := retK P fn ts us } (bodyPost P fn (FunPost M w (ownS ps) ts vs us r))
    ⟨hret .normal _ _ (.inl rfl), hret .ret _ _ (.inr rfl), fun i f hf => by simp [lookX] at hf, fun tmps w' T u x es hK _ hbel hrep => ⟨rfl, by rw [← hK]; exact ⟨u, es, rfl, hbel, hrep⟩⟩⟩
  exact hgood [] (List.prefix_refl _) (startSt sg gl fn ts) η M _ w hrel (List.nil_prefix) (by rw [hρ]; simpa [startSt] using hA.flat.1) rfl (by rw [hρ]; exact h)
theorem fun_of_genH (hP : NoNum P) {f : FuncId} {fn : Func} {c : Code} (hf : P.funcs[f]? = some fn) (hb : fn.body = some c) {sg : Nat → Option (List TS × List TS)} {gl : Globs} {jn : List (Nat × List Nat)} {hd : List HdL} {ts us : List TS} {ds : List D} {r : FR} (hsz : ts.length ≤ fn.ntmps) {v : VC} (hv : genFnH P jn hd sg gl f ts us = v) (h : v.den P gl (fun r' => r' = r) [] (flatD ts ds)) : Fun P gl f ts ds us r := by
  intro w M vs ps hM hG hA hI
  have hnI : ts.all TS.noI = true := by
    cases hc : ts.all TS.noI with
    | true => rfl
    | false =>
      exfalso
      have hbad : genFnH P jn hd sg gl f ts us = .bad 900051 := by unfold genFnH; simp only [hf, hb, hc, Bool.not_false, if_true]
      rw [hbad] at hv
      subst hv
      exact h
  have hg : genFnH P jn hd sg gl f ts us = gen P [] c (startH jn hd sg gl fn ts) { normal := retK P fn ts us, exits := [], ret := retK P fn ts us } := by
    unfold genFnH
    simp only [hf, hb, hnI, Bool.not_true, Bool.false_eq_true, if_false]
  rw [hg] at hv
  rw [← hv] at h
  refine calls_of_wp hf hb ?_
  obtain ⟨η, pal, hρ, hout, hrel⟩ := start_rel (sg := sg) (fn := fn) hsz hnI hM hG hA hI
  have hret : ∀ (ex : Exit) (Λ : List Lp) (ρ0 : List D), (ex = .normal ∨ ex = .ret) → GoodK P (fun r' => r' = r) ⟨w.heap.size, w, M, ownS ps, pal, gl⟩ [] Λ ρ0 (retK P fn ts us) (bodyPost P fn (FunPost M w (ownS ps) ts vs us r) ex) := by
    intro ex Λ ρ0 hex Λ' _ σ η' M' tmps w' hr _ _ _ h
    unfold retK at h
    split at h
    · exact h.elim
    · rename_i tvs htvs
      obtain ⟨vres, h1, h2⟩ := resTVs_sound hr htvs
      obtain ⟨rs, hK, hl, hpost⟩ := retE_sound hr h2 h
      subst hK
      have := hpost vs hout rfl
      have hres := results_run h1
      rcases hex with rfl | rfl <;> exact ⟨rfl, _, hres, this⟩
  have hgood := gen_sound hP (K := fun r' => r' = r) (Z := ⟨w.heap.size, w, M, ownS ps, pal, gl⟩) (d := []) (pin := []) c [] [] { normal := retK P fn ts us, exits := [], ret := retK P fn ts us } (bodyPost P fn (FunPost M w (ownS ps) ts vs us r))
    ⟨hret .normal _ _ (.inl rfl), hret .ret _ _ (.inr rfl), fun i f hf => by simp [lookX] at hf, fun tmps w' T u x es hK _ hbel hrep => ⟨rfl, by rw [← hK]; exact ⟨u, es, rfl, hbel, hrep⟩⟩⟩
  exact hgood [] (List.prefix_refl _) (startH jn hd sg gl fn ts) η M _ w ⟨hrel.wr, hrel.sz, hrel.tmp, hrel.asm, hrel.pj, hrel.gl⟩ (List.nil_prefix) (by rw [hρ]; simpa [startH, startSt] using hA.flat.1) rfl (by rw [hρ]; exact h)
end

end Go.Proofs.Ytindphofgojfbaa.Sy
