/-
  A part of a symbolic walk that is proved sound: what the functions of a program do with data. No conditions.
-/
import Derived.Test.YtindphofgojfbaaSyPb
set_option linter.unusedSimpArgs false
set_option linter.unusedVariables false
namespace Go.Proofs.Ytindphofgojfbaa.Sy
open Go.RowKit
def NoNum (P : Program) : Prop := ((P.funcs.toList.all fun fn => !(fn.name == "runtime.NumGoroutine")) && P.follows .mixedOrders) = true

theorem NoNum.mix {P : Program} (h : NoNum P) : P.follows .mixedOrders = true := by unfold NoNum at h; rw [Bool.and_eq_true] at h; exact h.2
section
variable {Z : Base} {η : Env} {M : Mem} {blks : List Blk} {w : World} {P : Program} {G : Globs}

theorem run_callFunc (hP : NoNum P) {f : FuncId} {fn : Func} (hf : P.funcs[f]? = some fn) (hb : fn.body.isNone = false) (args : Array Value) : (callFunc f args).run P w = .ok (.enter f args) w := by
  have hn : (fn.name == "runtime.NumGoroutine") = false := by
    have := List.all_eq_true.1 (by have h := hP; unfold NoNum at h; rw [Bool.and_eq_true] at h; exact h.1) fn (by
      have := Array.mem_of_getElem? hf
      exact Array.mem_toList_iff.2 this)
    simpa using this
  have hn' : ¬ fn.name = "runtime.NumGoroutine" := by simpa using hn
  have hb' : ¬ fn.body = none := by intro h; rw [h] at hb; simp at hb
  simp [callFunc, hf, hn', hb']

theorem mapM_v {l : List AV} {ts : List TV} (h : l.mapM (fun | .v t => some t | _ => none : AV → Option TV) = some ts) {vs : List Value} (hl : vs.length = l.length) (hv : ∀ (k : Nat) (X : AV) (v : Value), l[k]? = some X → vs[k]? = some v → AbsV η M X v) : AbsTs η M ts vs := by
  induction l generalizing ts vs with
  | nil =>
    simp at h
    subst h
    have : vs = [] := List.length_eq_zero_iff.1 (by simpa using hl)
    subst this; exact .nil
  | cons X l ih =>
    cases vs with
    | nil => simp at hl
    | cons v vs =>
      rw [List.mapM_cons] at h
      cases X with
      | v t =>
        simp only [Option.bind_eq_bind, Option.bind_some, Option.bind_eq_some_iff] at h
        obtain ⟨ts', h1, h2⟩ := h
        simp at h2
        subst h2
        exact .cons (hv 0 _ v rfl rfl) (ih h1 (by simpa using hl) fun k X u hX hu => hv (k + 1) X u (by simpa using hX) (by simpa using hu))
      | tup l => simp at h
theorem AbsTs.append {l l' : List TV} {vs vs' : List Value} (h : AbsTs η M l vs) (h' : AbsTs η M l' vs') : AbsTs η M (l ++ l') (vs ++ vs') := by
  induction h with
  | nil => exact h'
  | cons h1 _ ih => exact .cons h1 ih
theorem AbsL.toTs {l : List A} {vs : List Value} (h : AbsL η M l vs) : AbsTs η M (l.map TV.c) vs := by
  induction h with
  | nil => exact .nil
  | cons h1 h2 _ ih => exact .cons (AbsT_mk h1 h2) ih

def Then (Z : Base) (η : Env) (M : Mem) (blks : List Blk) (o : Oper) (a : Act) (out : Out) (next : Act → World → Prop) : Prop :=
  ∀ v w' η' M', η.le η' → M.le M' → WR Z η' M' (applyU blks out.upd) w' → (∀ r, out.res = some r → AbsV η' M' r v) → (out.res = none → v = undef) → next (a.put o.dst v) w'

theorem rows_of_toD {blks0 : List Blk} {a : A} {p : Sh × E} (h : a.toD (fun j => blks0.getD j .dead) = some p) : ∀ j ∈ a.rows, ∃ es l fr, blks0.getD j .dead = .row es l fr := by
  intro j hj
  cases a <;> simp [A.rows] at hj
  subst hj
  unfold A.toD at h
  simp only [] at h
  split at h
  · rename_i es l fr hB; exact ⟨es, l, fr, hB⟩
  · cases h
theorem rows_of_prepA {blks0 : List Blk} {k : CK} {a : A} {e : E} {f : List Nat} {o : List (Option Nat)} (h : prepA (fun j => blks0.getD j .dead) k a = some (e, f, o)) : ∀ j ∈ f, ∃ es l fr, blks0.getD j .dead = .row es l fr := by
  unfold prepA at h
  split at h
  · split at h
    · rename_i hd
      split at h
      · simp only [Option.some.injEq, Prod.mk.injEq] at h
        obtain ⟨_, rfl, _⟩ := h
        exact rows_of_toD hd
      · cases h
    · cases h
  · split at h
    · split at h
      · simp only [Option.some.injEq, Prod.mk.injEq] at h
        obtain ⟨_, rfl, _⟩ := h
        intro j hj; cases hj
      · cases h
    · cases h
  · simp only [Option.some.injEq, Prod.mk.injEq] at h
    obtain ⟨_, rfl, _⟩ := h
    intro j hj; cases hj
  · cases h
theorem rows_of_prepAs {blks0 : List Blk} : ∀ {ks : List CK} {as : List A} {es : List E} {f : List Nat} {o : List (Option Nat)}, prepAs (fun j => blks0.getD j .dead) ks as = some (es, f, o) → ∀ j ∈ f, ∃ es l fr, blks0.getD j .dead = .row es l fr
  | [], [], es, f, o, h => by
    simp only [prepAs, Option.some.injEq, Prod.mk.injEq] at h
    obtain ⟨_, rfl, _⟩ := h
    intro j hj; cases hj
  | k :: ks, a :: as, es, f, o, h => by
    simp only [prepAs] at h
    split at h
    · rename_i hp hps
      simp only [Option.some.injEq, Prod.mk.injEq] at h
      obtain ⟨_, rfl, _⟩ := h
      exact fun j hj => (List.mem_append.1 hj).elim (rows_of_prepA hp j) (rows_of_prepAs hps j)
    · cases h
  | [], _ :: _, es, f, o, h => by simp [prepAs] at h
  | _ :: _, [], es, f, o, h => by simp [prepAs] at h
theorem rows_of_prepT {blks0 : List Blk} {t : TS} {a : TV} {e : E} {f : List Nat} {o : List (Option Nat)} (h : prepT (fun j => blks0.getD j .dead) t a = some (e, f, o)) : ∀ j ∈ f, ∃ es l fr, blks0.getD j .dead = .row es l fr := by
  unfold prepT at h
  split at h
  · exact rows_of_prepA h
  · exact rows_of_prepA h
  · split at h
    · rename_i hp
      simp only [Option.some.injEq, Prod.mk.injEq] at h
      obtain ⟨_, rfl, _⟩ := h
      exact rows_of_prepAs hp
    · cases h
  · split at h
    · rename_i hp
      simp only [Option.some.injEq, Prod.mk.injEq] at h
      obtain ⟨_, rfl, _⟩ := h
      exact rows_of_prepAs hp
    · cases h
  · split at h
    · split at h
      · rename_i hp
        simp only [Option.some.injEq, Prod.mk.injEq] at h
        obtain ⟨_, rfl, _⟩ := h
        exact rows_of_prepAs hp
      · cases h
    · cases h
  · cases h
theorem rows_of_prepTs {blks0 : List Blk} : ∀ {ks : List TS} {as : List TV} {es : List E} {f : List Nat} {o : List (Option Nat)}, prepTs (fun j => blks0.getD j .dead) ks as = some (es, f, o) → ∀ j ∈ f, ∃ es l fr, blks0.getD j .dead = .row es l fr
  | [], [], es, f, o, h => by
    simp only [prepTs, Option.some.injEq, Prod.mk.injEq] at h
    obtain ⟨_, rfl, _⟩ := h
    intro j hj; cases hj
  | k :: ks, a :: as, es, f, o, h => by
    simp only [prepTs] at h
    split at h
    · rename_i hp hps
      simp only [Option.some.injEq, Prod.mk.injEq] at h
      obtain ⟨_, rfl, _⟩ := h
      exact fun j hj => (List.mem_append.1 hj).elim (rows_of_prepT hp j) (rows_of_prepTs hps j)
    · cases h
  | [], _ :: _, es, f, o, h => by simp [prepTs] at h
  | _ :: _, [], es, f, o, h => by simp [prepTs] at h

theorem distinctN_nodup : ∀ {l : List Nat}, distinctN l = true → l.Nodup
  | [], _ => List.nodup_nil
  | n :: l, h => by
    simp only [distinctN, Bool.and_eq_true, Bool.not_eq_true'] at h
    refine List.nodup_cons.2 ⟨fun hm => ?_, distinctN_nodup h.2⟩
    have := List.any_eq_false.1 h.1 n hm
    simp at this
theorem own_inj : ∀ {own : List (Option Nat)}, (own.filterMap id).Nodup → ∀ (i k j : Nat), own[i]? = some (some j) → own[k]? = some (some j) → i = k
  | [], _, i, k, j, hi, _ => by simp at hi
  | x :: own, h, i, k, j, hi, hk => by
    have hmem : ∀ (i : Nat), own[i]? = some (some j) → j ∈ own.filterMap id := fun i hi => List.mem_filterMap.2 ⟨some j, List.mem_of_getElem? hi, rfl⟩
    cases i with
    | zero =>
      cases k with
      | zero => rfl
      | succ k =>
        simp at hi hk
        subst hi
        simp only [List.filterMap_cons, id] at h
        exact absurd (hmem k hk) (List.nodup_cons.1 h).1
    | succ i =>
      cases k with
      | zero =>
        simp at hi hk
        subst hk
        simp only [List.filterMap_cons, id] at h
        exact absurd (hmem i hi) (List.nodup_cons.1 h).1
      | succ k =>
        have := own_inj (own := own) (by
          cases x with
          | none => simpa using h
          | some y => simp only [List.filterMap_cons, id] at h; exact (List.nodup_cons.1 h).2) i k j (by simpa using hi) (by simpa using hk)
        omega
theorem adr_live {o : Option Nat} {p : Nat × Nat} (h : adr η o = p) (h0 : 0 < p.2) : ∃ j, o = some j ∧ η.al j = some p := by
  cases o with
  | none => simp [adr] at h; subst h; simp at h0
  | some j =>
    simp only [adr] at h
    cases ha : η.al j with
    | none => rw [ha] at h; simp at h; subst h; simp at h0
    | some q => rw [ha] at h; simp at h; subst h; exact ⟨j, rfl, ha⟩
theorem own_injP (hw : WR Z η M blks w) {own : List (Option Nat)} (hd : (own.filterMap id).Nodup) (hl : ∀ j, some j ∈ own → LiveAt η blks j) : InjP (own.map (adr η)) := by
  intro i k p q hi hk hp hq e
  simp only [List.getElem?_map, Option.map_eq_some_iff] at hi hk
  obtain ⟨x, hx, hxp⟩ := hi
  obtain ⟨y, hy, hyq⟩ := hk
  obtain ⟨j, rfl, hj⟩ := adr_live hxp hp
  obtain ⟨j', rfl, hj'⟩ := adr_live hyq hq
  obtain ⟨B, _, hB, hBd, _⟩ := hl j (List.mem_of_getElem? hx)
  obtain ⟨C, _, hC, hCd, _⟩ := hl j' (List.mem_of_getElem? hy)
  have := hw.inj j j' B C p q hB hC hBd hCd hj hj' hp hq e
  subst this
  exact own_inj hd i k j hx hy
theorem killAll : ∀ (js : List Nat) {blks : List Blk}, WR Z η M blks w → WR Z η M (applyU blks (js.map fun j => (j, Blk.dead))) w
  | [], _, h => h
  | j :: js, _, h => killAll js (h.kill j)
theorem killAll_get : ∀ (js : List Nat) (blks : List Blk) (j : Nat), (j ∈ js → j < blks.length → (applyU blks (js.map fun j => (j, Blk.dead)))[j]? = some .dead) ∧ (j ∉ js → (applyU blks (js.map fun j => (j, Blk.dead)))[j]? = blks[j]?)
  | [], blks, j => ⟨fun h => (by cases h), fun _ => rfl⟩
  | i :: js, blks, j => by
    obtain ⟨h1, h2⟩ := killAll_get js (blks.set i .dead) j
    simp only [List.map_cons, applyU_cons]
    refine ⟨fun hj hl => ?_, fun hj => ?_⟩
    · by_cases hm : j ∈ js
      · exact h1 hm (by simpa using hl)
      · rw [h2 hm]
        have : j = i := by simpa [hm] using hj
        subst this
        simp [hl]
    · simp only [List.mem_cons, not_or] at hj
      rw [h2 hj.2, List.getElem?_set, if_neg (fun e => hj.1 e.symm)]

theorem Rep.sc {M M' : Mem} {s : Sh} {v : Value} {d : D} (hs : s.sc = true) (h : Rep M s v d) : Rep M' s v d := by
  cases s <;> simp [Sh.sc] at hs
  · rw [Rep_int] at *; exact h
  · rw [Rep_bool] at *; exact h
  · rw [Rep_str] at *; exact h
theorem RepCells.sc {M M' : Mem} : ∀ {es : List Sh} {rd : Nat → Option Value} {o : Nat} {ds : List D}, es.all Sh.sc = true → RepCells M es rd o ds → RepCells M' es rd o ds
  | [], _, _, _, _, h => by rw [RepCells_nil] at *; exact h
  | s :: ss, rd, o, ds, hs, h => by
    simp only [List.all_cons, Bool.and_eq_true] at hs
    rw [RepCells_cons] at *
    obtain ⟨d, ds', e, ⟨v, hv, hr⟩, ht⟩ := h
    exact ⟨d, ds', e, ⟨v, hv, hr.sc hs.1⟩, ht.sc hs.2⟩
theorem RowAt.sc {M M' : Mem} {es : List Sh} {v : Value} {xs : List D} {p : Nat × Nat} (hs : es.all Sh.sc = true) (hM : ∀ b o, M b o = none → M' b o = none) (h : RowAt M w es v xs p) : RowAt M' w es v xs p := by
  obtain ⟨h1, h2, h3, h4⟩ := h
  refine ⟨h1, h2, h3, fun h0 => ?_⟩
  obtain ⟨vs, T, g1, g2, g3, g4, g5⟩ := h4 h0
  exact ⟨vs, T, g1, g2, g3, fun i x hx => (g4 i x hx).sc hs, fun o => hM _ _ (g5 o)⟩
theorem CellR.sc {M M' : Mem} {k : CK} {v : Value} {d : D} {ps : List (Nat × Nat)} (hs : k.sc = true) (hM : ∀ b o, M b o = none → M' b o = none) (h : CellR M w k v d ps) : CellR M' w k v d ps := by
  cases k with
  | s s => exact ⟨h.1.sc hs, h.2⟩
  | r es => obtain ⟨xs, p, h1, h2, h3⟩ := h; exact ⟨xs, p, h1, h2, h3.sc hs hM⟩
theorem CellsR.sc {M M' : Mem} {ks : List CK} {vs : List Value} {ds : List D} {ps : List (Nat × Nat)} (hs : ks.all CK.sc = true) (hM : ∀ b o, M b o = none → M' b o = none) (h : CellsR M w ks vs ds ps) : CellsR M' w ks vs ds ps := by
  induction h with
  | nil => exact .nil
  | cons h1 _ ih => simp only [List.all_cons, Bool.and_eq_true] at hs; exact .cons (h1.sc hs.1 hM) (ih hs.2)
theorem ArgR.sc {M M' : Mem} {t : TS} {v : Value} {d : D} {ps : List (Nat × Nat)} (hs : t.sc = true) (hM : ∀ b o, M b o = none → M' b o = none) (h : ArgR M w t v d ps) : ArgR M' w t v d ps := by
  cases t with
  | c s => exact ⟨h.1.sc hs, h.2⟩
  | g l => obtain ⟨⟨vs, ds, h1, h2, h3, h4⟩, h5⟩ := h; exact ⟨⟨vs, ds, h1, h2, h3, h4.sc hs⟩, h5⟩
  | r es => exact CellR.sc (k := .r es) hs hM h
  | i n s => obtain ⟨b, o, u, T, cs, h1, h2, h3, h4, h5, h6, h7, h8⟩ := h; exact ⟨b, o, u, T, cs, h1, h2, h3, h4, hM _ _ h5, h6.sc hs, h7, h8⟩
  | h l => obtain ⟨vs, ds, h1, h2, h3⟩ := h; exact ⟨vs, ds, h1, h2, h3.sc hs hM⟩
  | p l => obtain ⟨b, vs, T, ds, qs, h1, h2, h3, h4, h5, h6⟩ := h; exact ⟨b, vs, T, ds, qs, h1, h2, fun o => hM _ _ (h3 o), h4, h5.sc hs hM, h6⟩
theorem ArgsR.sc {M M' : Mem} {ts : List TS} {vs : List Value} {ds : List D} {ps : List (Nat × Nat)} (hs : ts.all TS.sc = true) (hM : ∀ b o, M b o = none → M' b o = none) (h : ArgsR M w ts vs ds ps) : ArgsR M' w ts vs ds ps := by
  induction h with
  | nil => exact .nil
  | cons h1 _ ih => simp only [List.all_cons, Bool.and_eq_true] at hs; exact .cons (h1.sc hs.1 hM) (ih hs.2)
theorem ArgsR.lens {ts : List TS} {vs : List Value} {ds : List D} {ps : List (Nat × Nat)} (h : ArgsR M w ts vs ds ps) : vs.length = ts.length ∧ ds.length = ts.length := by
  induction h with
  | nil => exact ⟨rfl, rfl⟩
  | cons _ _ ih => simp [ih.1, ih.2]
theorem datas_length : ∀ (us : List TS) (xs : List D), (datas us xs).length = us.length
  | [], _ => rfl
  | u :: us, xs => by simp [datas, datas_length us]
theorem datas_split : ∀ (us ts : List TS) (xs : List D), datas (us ++ ts) xs = datas us xs ++ datas ts (xs.drop (flatLen us))
  | [], ts, xs => by simp [datas, flatLen]
  | u :: us, ts, xs => by
    simp only [List.cons_append, datas, datas_split us ts, List.drop_drop, flatLen, List.map_cons, List.sum_cons]
theorem ResR.vs {us : List TS} {v : Value} {rs : List D} {ps : List (Nat × Nat)} (h : ResR M w us v rs ps) : ∃ vs, ArgsR M w us vs rs ps ∧ ((us.length = 1 ∧ vs = [v]) ∨ (us.length ≠ 1 ∧ v = .tuple vs.toArray)) := by
  match us, h with
  | [u], h =>
    obtain ⟨r, rfl, h1⟩ := h
    exact ⟨[v], by have := ArgsR.cons h1 .nil; simpa using this, .inl ⟨rfl, rfl⟩⟩
  | [], h =>
    obtain ⟨vs, rfl, h1⟩ := h
    exact ⟨vs, h1, .inr ⟨by simp, rfl⟩⟩
  | _ :: _ :: _, h =>
    obtain ⟨vs, rfl, h1⟩ := h
    exact ⟨vs, h1, .inr ⟨by simp, rfl⟩⟩
theorem varsTs_length : ∀ (ts : List TS) (n m : Nat), (varsTs n m ts).1.length = ts.length
  | [], _, _ => rfl
  | t :: ts, n, m => by simp [varsTs, varsTs_length ts]

theorem callA_sound (hP : NoNum P) {c : Ctx} {f : FuncId} {args : Array Operand} {tys : Array TypeId} {extra : List A} {out : Out} (h : callA c f args tys extra = some out) (hcP : c.P = P) (hcB : c.B = fun j => blks.getD j .dead) (hroom : ∀ i, i < c.room → blks[c.nb + i]? = some .none) {a : Act} {o : Oper}
    (hx : ∀ x, AbsV η M (c.x x) (a.eval x)) {ev : List Value} (hex : AbsL η M extra ev) (hw : WR Z η M blks w) (hev : ∀ e ∈ out.evs, EvOK P Z.G η.ρ e) {next : Act → World → Prop} {Q : Exit → Act → World → Prop}
    (hop : (execOp a.eval o).run P w = (callFunc f (args.map a.eval ++ ev.toArray)).run P w) (k : Then Z η M blks o a out next) : o.wp P a w next Q := by
  unfold callA at h
  rw [hcP] at h
  split at h
  · cases h
  rename_i fn hf
  split at h
  · cases h
  rename_i hb
  simp only [] at h
  split at h
  · cases h
  rename_i hsz
  split at h
  rotate_left
  · cases h
  rename_i as ts us has hsig
  split at h
  rotate_left
  · cases h
  rename_i es frz own hprep
  split at h
  rotate_left
  · cases h
  rename_i hdist
  simp only [Bool.and_eq_true, Bool.not_eq_true'] at hdist
  obtain ⟨⟨hdist, hapart⟩, husI⟩ := hdist
  split at h
  rotate_left
  · cases h
  rename_i hcount
  simp only [Option.some.injEq] at h
  subst h
  rw [hcB] at hprep
  have hnd := distinctN_nodup hdist
  have hapart' : ∀ j, some j ∈ own → ∀ i ∈ frz, j ≠ i := by
    intro j hj i hi e
    have h1 := List.any_eq_false.1 hapart j (List.mem_filterMap.2 ⟨some j, hj, rfl⟩)
    subst e
    exact h1 (List.any_eq_true.2 ⟨j, hi, by simp⟩)
  unfold Oper.wp
  rw [hop, run_callFunc hP hf (by cases hfb : fn.body <;> simp_all)]
  simp only [Oper.upon]
  have hargs : AbsTs η M as (args.toList.map a.eval) := by
    refine mapM_v has (by simp; omega) fun j X v hX hv => ?_
    simp only [List.getElem?_map, Option.map_eq_some_iff] at hX hv
    obtain ⟨p, hp1, rfl⟩ := hX
    obtain ⟨y, hy1, rfl⟩ := hv
    have : p.1 = y := by
      rw [List.getElem?_zip_eq_some] at hp1
      have := hp1.1
      rw [hy1] at this; cases this; rfl
    rw [← this]
    exact fixA_abs (hx _)
  have hargs := hargs.append hex.toTs
  obtain ⟨M1, m1, w1, fz⟩ := freezeAll frz blks hw (fun j hj => by
    obtain ⟨es, l, fr, he⟩ := rows_of_prepTs hprep j hj
    exact ⟨es, l, fr, he, .inl (getD_some he (by simp))⟩)
  have hfz_other : ∀ j, j ∉ frz → (applyU blks (frz.map fun j => (j, frozenB (blks.getD j .dead))))[j]? = blks[j]? := fun j hj => applyU_other _ _ _ (fun p hp e => by
    obtain ⟨i, hi, rfl⟩ := List.mem_map.1 hp
    exact hj (by rw [← e]; exact hi))
  obtain ⟨hA, hlive, houts, hptrs, hsub⟩ := prepTs_sound w1 hprep fz (fun j hj => by
    rw [List.getD_eq_getElem?_getD, List.getD_eq_getElem?_getD, hfz_other j fun hm => hapart' j hj j hm rfl]) (hargs.mono (Env.le.refl _) m1)
  have hinjP := own_injP w1 hnd hlive
  have hfun := hev _ (List.mem_singleton.2 rfl)
  simp only [EvOK] at hfun
  have hglob : GlobOK Z.G M1 := w1.glob.mono w1.base
  have hcall := hfun w M1 (args.toList.map a.eval ++ ev) _ (mem_wr w1) hglob hA hinjP
  have hveq : (args.toList.map a.eval ++ ev).toArray = args.map a.eval ++ ev.toArray := by
    apply Array.ext'; simp
  rw [hveq] at hcall
  refine hcall.mono ?_
  rintro e w2 ⟨v, M2, ps1, ps2, rs1, rs2, rfl, hrs, hb2, hm2, hle, hnew, hres, ho2, hinj2, hown2⟩
  have hown : ∀ b, ownS (own.map (adr η)) b → b < w.heap.size ∧ Z.own b := by
    rintro b ⟨p, hp, hp0, rfl⟩
    obtain ⟨x, hx, hxp⟩ := List.mem_map.1 hp
    obtain ⟨j, rfl, hj⟩ := adr_live hxp hp0
    obtain ⟨B, q, hB, hBd, hq⟩ := hlive j hx
    rw [hj] at hq
    cases hq
    exact w1.live_lt hB hBd hj hp0
  have main : ∀ (blksT : List Blk) (MX MT : Mem), WR Z η MX blksT w → M.le MX → MX.le MT → MemOK MT w2 → (∀ b o, b < w.heap.size → ¬ ownS (own.map (adr η)) b → MT b o = MX b o) → (∀ j, j ∉ frz → blksT[j]? = blks[j]?) → (∀ j, some j ∈ own → LiveAt η blksT j) →
      ResR MT w2 us v rs1 ps1 → ArgsR MT w2 (outsT ts) (outVals ts (args.toList.map a.eval ++ ev)) rs2 ps2 →
      ∃ η', η.le η' ∧ WR Z η' MT (applyU blksT ((own.filterMap id).map (fun j => (j, Blk.dead)) ++ updFrom c.nb (varsTs c.nv c.nb us).2 ++ outsU (c.nv + flatLen us) (c.nb + (varsTs c.nv c.nb us).2.length) (ptrsOf ts (as ++ extra.map TV.c)))) w2 ∧
        AbsV η' MT (match (varsTs c.nv c.nb us).1 with | [t] => .v t | l => .tup l) v := by
    intro blksT MX MT hwT hMX hMT hmT hnewT hothT hliveT hresT houtT
    have hk := killAll (own.filterMap id) hwT
    have hmemown : ∀ j, j ∈ own.filterMap id ↔ some j ∈ own := fun j => by simp [List.mem_filterMap]
    have hnone : ∀ i, i < c.room → c.nb + i ∉ frz := fun i hi hm => by
      obtain ⟨es, l, fr, he, _⟩ := fz _ hm
      rw [List.getD_eq_getElem?_getD, hroom i hi] at he
      cases he
    have hnown : ∀ i, i < c.room → c.nb + i ∉ own.filterMap id := fun i hi hm => by
      obtain ⟨B, p, hB, _, hp⟩ := hliveT _ ((hmemown _).1 hm)
      rw [hothT _ (hnone i hi), hroom i hi] at hB
      cases hB
      have := hwT.blk (c.nb + i) .none (by rw [hothT _ (hnone i hi)]; exact hroom i hi)
      simp only [BlkOK] at this
      rw [this] at hp; cases hp
    have hlt : ∀ j, some j ∈ own → j < blksT.length := fun j hj => by
      obtain ⟨B, _, hB, _⟩ := hliveT j hj
      exact (List.getElem?_eq_some_iff.1 hB).1
    have hkl : ∀ (j : Nat) (B : Blk) (p : Nat × Nat), (applyU blksT ((own.filterMap id).map fun j => (j, Blk.dead)))[j]? = some B → B ≠ .dead → η.al j = some p → 0 < p.2 → ¬ ownS (own.map (adr η)) p.1 := by
      rintro j B p hB hBd hp hp0 ⟨q, hq, hq0, hqp⟩
      obtain ⟨x, hx, hxq⟩ := List.mem_map.1 hq
      obtain ⟨j', rfl, hj'⟩ := adr_live hxq hq0
      have hjn : j ∉ own.filterMap id := fun hm => by
        rw [(killAll_get _ _ j).1 hm (hlt j ((hmemown j).1 hm))] at hB
        cases hB; exact hBd rfl
      rw [(killAll_get _ _ j).2 hjn] at hB
      obtain ⟨C, _, hC, hCd, _⟩ := hliveT j' hx
      have := hwT.inj j j' B C p q hB hC hBd hCd hp hj' hp0 hq0 hqp.symm
      subst this
      exact hjn ((hmemown j).2 hx)
    have hg := hk.grow hb2 (fun b hb => (hown b hb).2) hkl hMT (fun b o v hv => (hmT b o v hv).1) (fun b o v hv => (hmT b o v hv).2) hnewT
    have hfars : Fars η (applyU blksT ((own.filterMap id).map fun j => (j, Blk.dead))) (ps1 ++ ps2) := by
      intro p hp hp0 j B q hB hBd hq hq0 e
      have h1 := hk.live_lt hB hBd hq hq0
      rcases hown2 p hp hp0 with h2 | h2
      · omega
      · rw [← e] at h2
        exact hkl j B q hB hBd hq hq0 h2
    have hownp : ∀ p ∈ ps1 ++ ps2, 0 < p.2 → Z.own p.1 := fun p hp hp0 => by
      rcases hown2 p hp hp0 with h2 | h2
      · exact .inl (Nat.le_trans hw.size h2)
      · exact (hown _ h2).2
    obtain ⟨vs, hvs, hcase⟩ := hresT.vs
    have hrs' := hrs
    rw [datas_split, List.drop_drop] at hrs'
    have hl1 : rs1.length = us.length := hvs.lens.2
    obtain ⟨e1, e2⟩ := List.append_inj hrs' (by rw [datas_length, hl1])
    obtain ⟨η1, t1, a1, _⟩ := adoptTs c.nv c.nb (qs := ps2) hg hvs husI e1 (fun i hi => by
      rw [(killAll_get _ _ _).2 (hnown i (by omega)), hothT _ (hnone i (by omega))]
      exact hroom i (by omega)) hinj2 hfars (fun p hp => hownp p (by simp [hp]))
    have hptr1 : PtrsAt η1 ((ptrsOf ts (as ++ extra.map TV.c)).map (·.2)) (outVals ts (args.toList.map a.eval ++ ev)) := by
      have key : ∀ {js : List Nat} {vs : List Value}, PtrsAt η js vs → PtrsAt η1 js vs := by
        intro js vs hp
        induction hp with
        | nil => exact .nil
        | cons h1 _ ih => obtain ⟨b, e1, e2⟩ := h1; exact .cons ⟨b, e1, t1.le.al _ _ e2⟩ ih
      exact key hptrs
    obtain ⟨η2, l2, w2'⟩ := adoptOuts (c.nv + flatLen us) (c.nb + (varsTs c.nv c.nb us).2.length) t1.wr (by rw [← houts]; exact houtT) hptr1 (by rw [← houts, t1.le.ρ]; exact e2) (fun i hi => by
      rw [applyU_other _ _ _ (fun p hp => by have := updFrom_idx _ _ p hp; omega), Nat.add_assoc, (killAll_get _ _ _).2 (hnown _ (by omega)), hothT _ (hnone _ (by omega))]
      exact hroom _ (by omega)) (fun p hp => by
      have hm : p.2 ∈ own.filterMap id := hsub.subset (List.mem_map.2 ⟨p, hp, rfl⟩)
      rw [applyU_other _ _ _ (fun q hq e => by
        have := updFrom_idx _ _ q hq
        exact hnown (q.1 - c.nb) (by omega) (by rw [show c.nb + (q.1 - c.nb) = p.2 by omega]; exact hm))]
      exact (killAll_get _ _ _).1 hm (hlt _ ((hmemown _).1 hm))) (hsub.nodup hnd) hinj2.right t1.fars (fun p hp => hownp p (by simp [hp]))
    refine ⟨η2, t1.le.trans l2, ?_, ?_⟩
    · rw [applyU_append, applyU_append]; exact w2'
    · have a2 := a1.mono l2 (Mem.le.refl _)
      have hlen := varsTs_length us c.nv c.nb
      generalize (varsTs c.nv c.nb us).1 = tl at a2 hlen
      rcases hcase with ⟨h1, rfl⟩ | ⟨h1, rfl⟩
      · match tl, a2, hlen with
        | [t], .cons h2 .nil, _ => exact h2
      · match tl, a2, hlen with
        | [], h2, _ => exact ⟨_, rfl, h2⟩
        | [t], _, hl => simp at hl; omega
        | _ :: _ :: _, h2, _ => exact ⟨_, rfl, h2⟩
  by_cases hsc : ((us ++ outsT ts).all TS.sc) = true
  · -- nothing that is handed back looks into memory: the rows are the caller's as before
    have hsc' : us.all TS.sc = true ∧ (outsT ts).all TS.sc = true := by simpa using hsc
    have hN : ∀ b o, M2 b o = none → M b o = none := fun b o h2 => by
      cases hM : M b o with
      | none => rfl
      | some u => rw [hle _ _ _ (m1 _ _ _ hM)] at h2; cases h2
    obtain ⟨η', l', w', ha'⟩ := main blks M M hw (Mem.le.refl _) (Mem.le.refl _) (fun b o v hv => hm2 b o v (hle _ _ _ (m1 _ _ _ hv))) (fun _ _ _ _ => rfl) (fun _ _ => rfl) (fun j hj => by
        obtain ⟨B, p, hB, h2⟩ := hlive j hj
        exact ⟨B, p, by rw [← hfz_other j fun hm => hapart' j hj j hm rfl]; exact hB, h2⟩) (by
        match us, hres, hsc'.1 with
        | [u], ⟨r, h1, h2⟩, hs => exact ⟨r, h1, h2.sc (by simpa using hs) hN⟩
        | [], ⟨vs, h1, h2⟩, hs => exact ⟨vs, h1, h2.sc hs hN⟩
        | _ :: _ :: _, ⟨vs, h1, h2⟩, hs => exact ⟨vs, h1, h2.sc hs hN⟩) (ho2.sc hsc'.2 hN)
    refine k v w2 η' M l' (Mem.le.refl _) ?_ (fun r hr => ?_) (fun hr => by simp at hr)
    · simp only [hsc, if_true, List.nil_append]; exact w'
    · simp only [Option.some.injEq] at hr
      subst hr; exact ha'
  · obtain ⟨η', l', w', ha'⟩ := main _ M1 M2 w1 m1 hle hm2 (fun b o hlt hS => by
        cases h2 : M2 b o with
        | none =>
          cases h1 : M1 b o with
          | none => rfl
          | some u => rw [hle b o u h1] at h2; cases h2
        | some u =>
          rcases hnew b o u h2 with h | h | h
          · exact h.symm
          · omega
          · exact absurd h hS) hfz_other hlive hres ho2
    refine k v w2 η' M2 l' (m1.trans hle) ?_ (fun r hr => ?_) (fun hr => by simp at hr)
    · simp only [hsc, if_false, Bool.false_eq_true]
      rw [hcB, List.append_assoc, List.append_assoc, applyU_append, ← List.append_assoc]
      exact w'
    · simp only [Option.some.injEq] at hr
      subst hr; exact ha'

theorem callA_pan (hP : NoNum P) {c : Ctx} {f : FuncId} {args : Array Operand} {tys : Array TypeId} {extra : List A} {out : Out} (h : callA c f args tys extra = some out) (hcP : c.P = P) (hcB : c.B = fun j => blks.getD j .dead) (hroom : ∀ i, i < c.room → blks[c.nb + i]? = some .none) {a : Act} {o : Oper}
    (hx : ∀ x, AbsV η M (c.x x) (a.eval x)) {ev : List Value} (hex : AbsL η M extra ev) (hw : WR Z η M blks w) {f0 : FuncId} {ts0 us0 : List TS} {as0 : List E} {n0 : Nat} (hevs : out.evs = [.call f0 ts0 as0 us0 n0]) {T : TypeId} {x : D} (hpan : Fun P Z.G f0 ts0 (as0.map (·.den η.ρ)) us0 (.pan T x)) {next : Act → World → Prop} {Q : Exit → Act → World → Prop}
    (hop : (execOp a.eval o).run P w = (callFunc f (args.map a.eval ++ ev.toArray)).run P w) (hQ : ∀ u es w', BelowX Z.n0 Z.S Z.W0 w' → RepT (fun _ _ => none) (.g es) u x → (∀ (j : Nat) (l : List A) (b c : Nat), blks[j]? = some (.cells l) → η.al j = some (b, c) → 0 < c → (∀ p ∈ out.upd, p.1 ≠ j) → w'.heap[b]? = w.heap[b]?) → Q (.panic [{ v := .iface T u, recovered := false }]) a w') : o.wp P a w next Q := by
  unfold callA at h
  rw [hcP] at h
  split at h
  · cases h
  rename_i fn hf
  split at h
  · cases h
  rename_i hb
  simp only [] at h
  split at h
  · cases h
  rename_i hsz
  split at h
  rotate_left
  · cases h
  rename_i as ts us has hsig
  split at h
  rotate_left
  · cases h
  rename_i es frz own hprep
  split at h
  rotate_left
  · cases h
  rename_i hdist
  simp only [Bool.and_eq_true, Bool.not_eq_true'] at hdist
  obtain ⟨⟨hdist, hapart⟩, husI⟩ := hdist
  split at h
  rotate_left
  · cases h
  rename_i hcount
  simp only [Option.some.injEq] at h
  subst h
  rw [hcB] at hprep
  have hnd := distinctN_nodup hdist
  have hapart' : ∀ j, some j ∈ own → ∀ i ∈ frz, j ≠ i := by
    intro j hj i hi e
    have h1 := List.any_eq_false.1 hapart j (List.mem_filterMap.2 ⟨some j, hj, rfl⟩)
    subst e
    exact h1 (List.any_eq_true.2 ⟨j, hi, by simp⟩)
  unfold Oper.wp
  rw [hop, run_callFunc hP hf (by cases hfb : fn.body <;> simp_all)]
  simp only [Oper.upon]
  have hargs : AbsTs η M as (args.toList.map a.eval) := by
    refine mapM_v has (by simp; omega) fun j X v hX hv => ?_
    simp only [List.getElem?_map, Option.map_eq_some_iff] at hX hv
    obtain ⟨p, hp1, rfl⟩ := hX
    obtain ⟨y, hy1, rfl⟩ := hv
    have : p.1 = y := by
      rw [List.getElem?_zip_eq_some] at hp1
      have := hp1.1
      rw [hy1] at this; cases this; rfl
    rw [← this]
    exact fixA_abs (hx _)
  have hargs := hargs.append hex.toTs
  obtain ⟨M1, m1, w1, fz⟩ := freezeAll frz blks hw (fun j hj => by
    obtain ⟨es, l, fr, he⟩ := rows_of_prepTs hprep j hj
    exact ⟨es, l, fr, he, .inl (getD_some he (by simp))⟩)
  have hfz_other : ∀ j, j ∉ frz → (applyU blks (frz.map fun j => (j, frozenB (blks.getD j .dead))))[j]? = blks[j]? := fun j hj => applyU_other _ _ _ (fun p hp e => by
    obtain ⟨i, hi, rfl⟩ := List.mem_map.1 hp
    exact hj (by rw [← e]; exact hi))
  obtain ⟨hA, hlive, houts, hptrs, hsub⟩ := prepTs_sound w1 hprep fz (fun j hj => by
    rw [List.getD_eq_getElem?_getD, List.getD_eq_getElem?_getD, hfz_other j fun hm => hapart' j hj j hm rfl]) (hargs.mono (Env.le.refl _) m1)
  have hinjP := own_injP w1 hnd hlive
  simp only [List.cons.injEq, Ev.call.injEq, and_true] at hevs
  obtain ⟨rfl, rfl, rfl, rfl, rfl⟩ := hevs
  have hfun := hpan
  have hglob : GlobOK Z.G M1 := w1.glob.mono w1.base
  have hcall := hfun w M1 (args.toList.map a.eval ++ ev) _ (mem_wr w1) hglob hA hinjP
  have hveq : (args.toList.map a.eval ++ ev).toArray = args.map a.eval ++ ev.toArray := by
    apply Array.ext'; simp
  rw [hveq] at hcall
  refine hcall.mono ?_
  rintro e w2 ⟨u, es, rfl, hb2, hrep⟩
  refine hQ u es w2 (hw.below.trans ⟨hb2.os, hb2.tape, hb2.output, hb2.size, fun k hk hs => hb2.block k (Nat.lt_of_lt_of_le hk hw.size) ?_⟩) hrep ?_
  rotate_left
  · intro j l b c hj hal hc0 hno
    have hjf : j ∉ frz := by
      intro hm
      obtain ⟨es', l', fr', he'⟩ := rows_of_prepTs hprep j hm
      rw [List.getD_eq_getElem?_getD, hj] at he'
      cases he'
    have hjo : some j ∉ own := by
      intro hm
      refine hno (j, .dead) ?_ rfl
      simp only [List.mem_append, List.mem_map]
      exact .inl (.inl (.inr ⟨j, List.mem_filterMap.2 ⟨some j, hm, rfl⟩, rfl⟩))
    have hj1 := (hfz_other j hjf).trans hj
    have hlt := w1.live_lt hj1 (by simp) hal hc0
    refine hb2.block b hlt.1 ?_
    rintro ⟨p, hp, hp0, hpb⟩
    obtain ⟨x, hx, hxp⟩ := List.mem_map.1 hp
    obtain ⟨j', rfl, hj'⟩ := adr_live hxp hp0
    obtain ⟨B, q, hB, hBd, hq⟩ := hlive j' hx
    have := w1.inj j j' _ B (b, c) p hj1 hB (by simp) hBd hal hj' hc0 hp0 hpb.symm
    subst this
    exact hjo hx
  rintro ⟨p, hp, hp0, rfl⟩
  obtain ⟨x, hx, hxp⟩ := List.mem_map.1 hp
  obtain ⟨j, rfl, hj⟩ := adr_live hxp hp0
  obtain ⟨B, q, hB, hBd, hq⟩ := hlive j hx
  rcases (w1.live_lt hB hBd hj hp0).2 with h1 | h1
  · omega
  · exact hs h1
theorem ArgsR.isD {M : Mem} {w : World} : ∀ {ts : List TS} {vs : List Value} {ds : List D} {ps : List (Nat × Nat)}, ArgsR M w ts vs ds ps → ts.all TS.isD = true → ps = [] ∧ outsT ts = [] ∧ outVals ts vs = [] ∧ ∀ {M' : Mem}, M.le M' → ArgsR M' w ts vs ds []
  | _, _, _, _, .nil, _ => ⟨rfl, rfl, rfl, fun _ => .nil⟩
  | _, _, _, _, .cons (t := t) (ts := ts) h1 h2, h => by
    simp only [List.all_cons, Bool.and_eq_true] at h
    obtain ⟨e1, e2, e3, e4⟩ := ArgsR.isD h2 h.2
    cases t with
    | c s => exact ⟨by rw [h1.2, e1]; rfl, e2, e3, fun hM => ArgsR.cons (ps := []) ⟨Rep.mono hM _ _ _ h1.1, rfl⟩ (e4 hM)⟩
    | g l => exact ⟨by rw [h1.2, e1]; rfl, e2, e3, fun hM => ArgsR.cons (ps := []) ⟨RepT.mono hM h1.1, rfl⟩ (e4 hM)⟩
    | _ => have := h.1; simp [TS.isD] at this
def lend (M : Mem) (b o : Nat) (cs : List Value) : Mem := fun k p => if k = b then (if p = o then none else cs[p]?) else M k p
theorem lend_le {M : Mem} {b o : Nat} {cs : List Value} (h : ∀ p, M b p = none) : M.le (lend M b o cs) := by
  intro k p v hv
  unfold lend
  by_cases e : k = b
  · subst e; rw [h] at hv; cases hv
  · rw [if_neg e]; exact hv
theorem callI_facts {c : Ctx} {f : FuncId} {args : Array Operand} {tys : Array TypeId} {extra : List A} {out : Out} (h : callI c f args tys extra = some out) (hcP : c.P = P) (hcB : c.B = fun j => blks.getD j .dead) {a : Act}
    (hx : ∀ x, AbsV η M (c.x x) (a.eval x)) {ev : List Value} (hex : AbsL η M extra ev) (hw : WR Z η M blks w) :
    ∃ (fn : Func) (j o n b : Nat) (s : Sh) (ts : List TS) (l : List A) (e : E) (es : List E) (cs rest : List Value) (T : TypeId) (u : Value),
      P.funcs[f]? = some fn ∧ fn.body.isNone = false ∧ ev = [] ∧ blks[j]? = some (.cells l) ∧ l[o]? = some (.d s e) ∧ s.sc = true ∧ ts.all TS.isD = true ∧ cs.length = n ∧
      out = ⟨some (.tup []), [(j, .cells (l.set o (.d s (.v c.nv))))], [.call f (.i n s :: ts) (e :: es) [] c.nv]⟩ ∧ η.al j = some (b, 1) ∧ Z.own b ∧ w.heap[b]? = some (.cells cs.toArray T (0, 0)) ∧ AbsL η M l cs ∧ (∀ p, M b p = none) ∧ cs[o]? = some u ∧ Rep M s u (e.den η.ρ) ∧
      args.toList.map a.eval = .pointer (some ⟨b, o, none⟩) :: rest ∧ ArgsR M w ts rest (es.map (·.den η.ρ)) [] := by
  unfold callI at h
  rw [hcP] at h
  split at h
  rotate_left
  · cases h
  rename_i fn hf
  cases hex
  split at h
  · cases h
  rename_i hb
  split at h
  · cases h
  rename_i hsz
  split at h
  rotate_left
  · cases h
  rename_i j o as n s ts has hsig
  split at h
  rotate_left
  · cases h
  rename_i l hB
  split at h
  rotate_left
  · cases h
  rename_i s' e es hlo hprep
  split at h
  rotate_left
  · cases h
  rename_i hc
  simp only [Bool.and_eq_true, decide_eq_true_eq] at hc
  obtain ⟨⟨⟨hss, hsc⟩, hD⟩, hn⟩ := hc
  simp only [Option.some.injEq] at h
  subst h
  have hs' := Sh.same_eq _ _ hss
  subst hs'
  rw [hcB] at hprep hB
  have hj : blks[j]? = some (.cells l) := getD_some hB (by simp)
  have hargs : AbsTs η M (.c (.ptr j o) :: as) (args.toList.map a.eval) := by
    refine mapM_v has (by simp; omega) fun k X v hX hv => ?_
    simp only [List.getElem?_map, Option.map_eq_some_iff] at hX hv
    obtain ⟨p, hp1, rfl⟩ := hX
    obtain ⟨y, hy1, rfl⟩ := hv
    have : p.1 = y := by
      rw [List.getElem?_zip_eq_some] at hp1
      have := hp1.1
      rw [hy1] at this; cases this; rfl
    rw [← this]
    exact fixA_abs (hx _)
  generalize hvs : args.toList.map a.eval = vs at hargs
  cases hargs with
  | @cons _ _ v rest h1 h3 =>
    obtain ⟨b, c1, hal, rfl⟩ := AbsT_c h1
    obtain ⟨b', c', cs, T, g1, g2, g3, g4, g5, g6⟩ := hw.blk j _ hj
    rw [hal] at g1
    cases g1
    subst g2
    obtain ⟨u, hu, ha, _⟩ := g5.get o _ hlo
    obtain ⟨hA, _⟩ := prepTs_sound hw hprep (fun i hi => by cases hi) (fun i hi => by cases hi) h3
    exact ⟨fn, j, o, n, b, s, ts, l, e, es, cs, rest, T, u, hf, by cases hfb : fn.body <;> simp_all, rfl, hj, hlo, hsc, hD, by rw [g5.length]; exact hn, rfl, hal, g3, g4, g5, g6, hu, ha, rfl, hA⟩
theorem injP_one (p : Nat × Nat) : InjP [p] := by
  intro i j q r hi hj _ _ _
  have h1 := (List.getElem?_eq_some_iff.1 hi).1
  have h2 := (List.getElem?_eq_some_iff.1 hj).1
  simp at h1 h2
  omega
theorem lend_args {j o n b : Nat} {s : Sh} {ts : List TS} {l : List A} {cs rest : List Value} {ds : List D} {d : D} {T : TypeId} {u : Value} (hw : WR Z η M blks w) (hj : blks[j]? = some (.cells l)) (hal : η.al j = some (b, 1)) (hsc : s.sc = true) (hD : ts.all TS.isD = true) (hn : cs.length = n)
    (hh : w.heap[b]? = some (.cells cs.toArray T (0, 0))) (hl : AbsL η M l cs) (hMb : ∀ p, M b p = none) (hu : cs[o]? = some u) (hr : Rep M s u d) (hA : ArgsR M w ts rest ds []) :
    MemOK (lend M b o cs) w ∧ GlobOK Z.G (lend M b o cs) ∧ ArgsR (lend M b o cs) w (.i n s :: ts) (.pointer (some ⟨b, o, none⟩) :: rest) (d :: ds) [(b, 1)] := by
  have hle : M.le (lend M b o cs) := lend_le hMb
  refine ⟨fun k p v hv => ?_, (hw.glob.mono hw.base).mono hle, ?_⟩
  · unfold lend at hv
    by_cases e : k = b
    · subst e
      rw [if_pos rfl] at hv
      split at hv
      · cases hv
      · exact ⟨by rw [cell_of_heap hh]; simpa using hv, hl.one v (List.mem_of_getElem? hv)⟩
    · rw [if_neg e] at hv
      exact ⟨hw.mem _ _ _ hv, hw.one _ _ _ hv⟩
  · have h1 : ArgR (lend M b o cs) w (.i n s) (.pointer (some ⟨b, o, none⟩)) d [(b, 1)] := ⟨b, o, u, T, cs, rfl, hh, hn, hu, by unfold lend; rw [if_pos rfl, if_pos rfl], hr.sc hsc, hsc, hl.one, rfl⟩
    exact ArgsR.cons h1 ((hA.isD hD).2.2.2 hle)
theorem callI_sound (hP : NoNum P) {c : Ctx} {f : FuncId} {args : Array Operand} {tys : Array TypeId} {extra : List A} {out : Out} (h : callI c f args tys extra = some out) (hcP : c.P = P) (hcB : c.B = fun j => blks.getD j .dead) {a : Act} {o : Oper}
    (hx : ∀ x, AbsV η M (c.x x) (a.eval x)) {ev : List Value} (hex : AbsL η M extra ev) (hw : WR Z η M blks w) (hev : ∀ e ∈ out.evs, EvOK P Z.G η.ρ e) {next : Act → World → Prop} {Q : Exit → Act → World → Prop}
    (hop : (execOp a.eval o).run P w = (callFunc f (args.map a.eval ++ ev.toArray)).run P w) (k : Then Z η M blks o a out next) : o.wp P a w next Q := by
  obtain ⟨fn, j, oo, n, b, s, ts, l, e, es, cs, rest, T, u, hf, hb, rfl, hj, hlo, hsc, hD, hn, rfl, hal, hown, hh, hl, hMb, hu, hr, hvs, hA⟩ := callI_facts h hcP hcB hx hex hw
  unfold Oper.wp
  rw [hop, run_callFunc hP hf hb]
  simp only [Oper.upon]
  have hfun := hev _ (List.mem_singleton.2 rfl)
  simp only [EvOK] at hfun
  obtain ⟨m1, m2, m3⟩ := lend_args hw hj hal hsc hD hn hh hl hMb hu hr hA
  have hcall := hfun w (lend M b oo cs) (.pointer (some ⟨b, oo, none⟩) :: rest) [(b, 1)] m1 m2 m3 (injP_one _)
  have hveq : (Value.pointer (some ⟨b, oo, none⟩) :: rest).toArray = args.map a.eval ++ ([] : List Value).toArray := by
    rw [← hvs]; apply Array.ext'; simp
  rw [hveq] at hcall
  refine hcall.mono ?_
  rintro e2 w2 ⟨v, M2, ps1, ps2, rs1, rs2, rfl, hrs, hb2, hm2, hle, hnew, hres, ho2, hinj2, hown2⟩
  obtain ⟨vs0, rfl, hv0⟩ := hres
  cases hv0
  obtain ⟨_, d2, d3, _⟩ := hA.isD hD
  simp only [outsT, outVals, d2, d3] at ho2 hrs
  cases ho2 with
  | @cons _ _ _ _ dd dds p1 p2 h1 h2 =>
    cases h2
    obtain ⟨b2, o2, u2, T2, cs2, g1, g2, g3, g4, g5, g6, _, g7, _⟩ := h1
    simp only [Value.pointer.injEq, Option.some.injEq, Addr.mk.injEq, and_true] at g1
    obtain ⟨rfl, rfl⟩ := g1
    have hdd : η.ρ.getD c.nv default = dd := by
      simp only [List.nil_append, datas, TS.data, TS.flat, List.cons.injEq, and_true] at hrs
      exact head_get hrs
    have hMle := lend_le (o := oo) (cs := cs) hMb
    have hother : ∀ (i : Nat) (x : Value), i ≠ oo → cs[i]? = some x → cs2[i]? = some x := by
      intro i x hi hx
      have q1 : lend M b oo cs b i = some x := by unfold lend; rw [if_pos rfl, if_neg hi]; exact hx
      have q2 := (hm2 _ _ _ (hle _ _ _ q1)).1
      rw [cell_of_heap g2] at q2
      simpa using q2
    have hk := hw.kill j
    have hjl : j < blks.length := (List.getElem?_eq_some_iff.1 hj).1
    have hnotb : ∀ (i : Nat) (B : Blk) (p : Nat × Nat), (blks.set j .dead)[i]? = some B → B ≠ .dead → η.al i = some p → 0 < p.2 → p.1 ≠ b := by
      intro i B p hB hBd hp hp0 e
      rw [List.getElem?_set] at hB
      split at hB
      · first
        | (cases hB; exact hBd rfl)
        | (split at hB
           · cases hB; exact hBd rfl
           · cases hB)
      · rename_i hne
        exact hne (hw.inj i j B _ p (b, 1) hB hj hBd (by simp) hp hal hp0 Nat.one_pos e).symm
    have hg : WR Z η M (blks.set j .dead) w2 := hk.grow hb2 (fun b' ⟨p, hp, _, e⟩ => by
        simp only [List.mem_singleton] at hp; subst hp; subst e; exact hown) (fun i B p hB hBd hp hp0 ⟨q, hq, _, e⟩ => by
        simp only [List.mem_singleton] at hq; subst hq; exact hnotb i B p hB hBd hp hp0 e.symm) (Mem.le.refl _) (fun b' o' x hx => (hm2 _ _ _ (hle _ _ _ (hMle _ _ _ hx))).1) (fun b' o' x hx => hw.one _ _ _ hx) (fun _ _ _ _ => rfl)
    have hnewl : AbsL η M (l.set oo (.d s (.v c.nv))) cs2 := by
      refine AbsL.mk' (by rw [List.length_set, ← hl.length]; omega) fun i A x hA' hx => ?_
      rw [List.getElem?_set] at hA'
      split at hA'
      · rename_i e; subst e
        split at hA'
        · cases hA'
          rw [g4] at hx
          cases hx
          refine ⟨?_, g7 _ (List.mem_of_getElem? g4)⟩
          simp only [AbsA, E.den]
          rw [hdd]
          exact g6.sc hsc
        · cases hA'
      · rename_i hne
        obtain ⟨x', q1, q2, q3⟩ := hl.get i A hA'
        have := hother i x' (fun e => hne e.symm) q1
        rw [hx] at this
        cases this
        exact ⟨q2, q3⟩
    have hfin := hg.place (η' := η) (Env.le.refl _) (nb := j) (p := (b, 1)) (B := .cells (l.set oo (.d s (.v c.nv)))) (by simpa using hjl) (fun _ _ => rfl) hal (fun _ i C q hC hCd hq hq0 => by
      rw [List.set_set] at hC
      exact hnotb i C q hC hCd hq hq0) ⟨b, 1, cs2, T2, hal, rfl, hown, g2, hnewl, hMb⟩
    rw [List.set_set] at hfin
    refine k _ w2 η M (Env.le.refl _) (Mem.le.refl _) hfin (fun r hr => ?_) (fun hr => by simp at hr)
    simp only [Option.some.injEq] at hr
    subst hr
    exact ⟨[], rfl, .nil⟩
theorem callI_pan (hP : NoNum P) {c : Ctx} {f : FuncId} {args : Array Operand} {tys : Array TypeId} {extra : List A} {out : Out} (h : callI c f args tys extra = some out) (hcP : c.P = P) (hcB : c.B = fun j => blks.getD j .dead) {a : Act} {o : Oper}
    (hx : ∀ x, AbsV η M (c.x x) (a.eval x)) {ev : List Value} (hex : AbsL η M extra ev) (hw : WR Z η M blks w) {f0 : FuncId} {ts0 us0 : List TS} {as0 : List E} {n0 : Nat} (hevs : out.evs = [.call f0 ts0 as0 us0 n0]) {T : TypeId} {x : D} (hpan : Fun P Z.G f0 ts0 (as0.map (·.den η.ρ)) us0 (.pan T x)) {next : Act → World → Prop} {Q : Exit → Act → World → Prop}
    (hop : (execOp a.eval o).run P w = (callFunc f (args.map a.eval ++ ev.toArray)).run P w) (hQ : ∀ u es w', BelowX Z.n0 Z.S Z.W0 w' → RepT (fun _ _ => none) (.g es) u x → (∀ (j : Nat) (l : List A) (b c : Nat), blks[j]? = some (.cells l) → η.al j = some (b, c) → 0 < c → (∀ p ∈ out.upd, p.1 ≠ j) → w'.heap[b]? = w.heap[b]?) → Q (.panic [{ v := .iface T u, recovered := false }]) a w') : o.wp P a w next Q := by
  obtain ⟨fn, j, oo, n, b, s, ts, l, e, es, cs, rest, T1, u, hf, hb, rfl, hj, hlo, hsc, hD, hn, rfl, hal, hown, hh, hl, hMb, hu, hr, hvs, hA⟩ := callI_facts h hcP hcB hx hex hw
  unfold Oper.wp
  rw [hop, run_callFunc hP hf hb]
  simp only [Oper.upon]
  simp only [List.cons.injEq, Ev.call.injEq, and_true] at hevs
  obtain ⟨rfl, rfl, rfl, rfl, rfl⟩ := hevs
  obtain ⟨m1, m2, m3⟩ := lend_args hw hj hal hsc hD hn hh hl hMb hu hr hA
  have hcall := hpan w (lend M b oo cs) (.pointer (some ⟨b, oo, none⟩) :: rest) [(b, 1)] m1 m2 m3 (injP_one _)
  have hveq : (Value.pointer (some ⟨b, oo, none⟩) :: rest).toArray = args.map a.eval ++ ([] : List Value).toArray := by
    rw [← hvs]; apply Array.ext'; simp
  rw [hveq] at hcall
  refine hcall.mono ?_
  rintro e2 w2 ⟨u2, es2, rfl, hb2, hrep⟩
  refine hQ u2 es2 w2 (hw.below.trans ⟨hb2.os, hb2.tape, hb2.output, hb2.size, fun k hk hs => hb2.block k (Nat.lt_of_lt_of_le hk hw.size) ?_⟩) hrep ?_
  · rintro ⟨p, hp, hp0, rfl⟩
    simp only [List.mem_singleton] at hp
    subst hp
    rcases (hw.live_lt hj (by simp) hal Nat.one_pos).2 with h1 | h1
    · omega
    · exact hs h1
  · intro i l' b' c' hi hal' hc0 hno
    have hlt := hw.live_lt hi (by simp) hal' hc0
    refine hb2.block b' hlt.1 ?_
    rintro ⟨p, hp, hp0, hpb⟩
    simp only [List.mem_singleton] at hp
    subst hp
    have := hw.inj i j _ _ (b', c') (b, 1) hi hj (by simp) (by simp) hal' hal hc0 Nat.one_pos hpb.symm
    subst this
    exact hno _ (List.mem_singleton.2 rfl) rfl
end

end Go.Proofs.Ytindphofgojfbaa.Sy
