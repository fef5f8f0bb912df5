/-
  A part of a symbolic walk that is proved sound: what the functions of a program do with data. No conditions.
-/
import Derived.Test.YtokjokbbegcceaaSxP
namespace Go.Proofs.Ytokjokbbegcceaa.Sx
open Go.RowKit

/-- No function of the program bears the one name that the model treats by itself. -/
def NoNum (P : Program) : Prop := ((P.funcs.toList.all fun fn => !(fn.name == "runtime.NumGoroutine")) && P.follows .mixedOrders) = true

theorem NoNum.mix {P : Program} (h : NoNum P) : P.follows .mixedOrders = true := by unfold NoNum at h; rw [Bool.and_eq_true] at h; exact h.2
section
variable {Z : Base} {η : Env} {M : Mem} {blks : List Blk} {w : World} {P : Program}

theorem run_callFunc (hP : NoNum P) {f : FuncId} {fn : Func} (hf : P.funcs[f]? = some fn) (hb : fn.body.isNone = false) (args : Array Value) : (callFunc f args).run P w = .ok (.enter f args) w := by
  have hn : (fn.name == "runtime.NumGoroutine") = false := by
    have := List.all_eq_true.1 (by have h := hP; unfold NoNum at h; rw [Bool.and_eq_true] at h; exact h.1) fn (by
      have := Array.mem_of_getElem? hf
      exact Array.mem_toList_iff.2 this)
    simpa using this
  have hn' : ¬ fn.name = "runtime.NumGoroutine" := by simpa using hn
  have hb' : ¬ fn.body = none := by intro h; rw [h] at hb; simp at hb
  simp [callFunc, hf, hn', hb']

theorem mapM_v {l : List AV} {ts : List TV} (h : l.mapM (fun | .v t => some t | _ => none : AV → Option TV) = some ts) {vs : List Value} (hl : vs.length = l.length) (hv : ∀ (k : Nat) (X : AV) (v : Value), l[k]? = some X → vs[k]? = some v → AbsV η M X v) : AbsTs η M ts vs := by
  induction l generalizing ts vs with
  | nil =>
    simp at h
    subst h
    have : vs = [] := List.length_eq_zero_iff.1 (by simpa using hl)
    subst this; exact .nil
  | cons X l ih =>
    cases vs with
    | nil => simp at hl
    | cons v vs =>
      rw [List.mapM_cons] at h
      cases X with
      | v t =>
        simp only [Option.bind_eq_bind, Option.bind_some, Option.bind_eq_some_iff] at h
        obtain ⟨ts', h1, h2⟩ := h
        simp at h2
        subst h2
        exact .cons (hv 0 _ v rfl rfl) (ih h1 (by simpa using hl) fun k X u hX hu => hv (k + 1) X u (by simpa using hX) (by simpa using hu))
      | tup l => simp at h

/-- What the step of an operation must leave to what follows. -/
def Then (Z : Base) (η : Env) (M : Mem) (blks : List Blk) (o : Oper) (a : Act) (out : Out) (next : Act → World → Prop) : Prop :=
  ∀ v w' η' M', η.le η' → M.le M' → WR Z η' M' (applyU blks out.upd) w' → (∀ r, out.res = some r → AbsV η' M' r v) → (out.res = none → v = undef) → next (a.put o.dst v) w'

theorem rows_of_toD {blks0 : List Blk} {a : A} {p : Sh × E} (h : a.toD (fun j => blks0.getD j .dead) = some p) : ∀ j ∈ a.rows, ∃ es l fr, blks0.getD j .dead = .row es l fr := by
  intro j hj
  cases a <;> simp [A.rows] at hj
  subst hj
  unfold A.toD at h
  simp only [] at h
  split at h
  · rename_i es l fr hB; exact ⟨es, l, fr, hB⟩
  · cases h
theorem rows_of_toDs {blks0 : List Blk} : ∀ (l : List A) (ps : List (Sh × E)), l.mapM (A.toD (fun j => blks0.getD j .dead)) = some ps → ∀ j ∈ l.flatMap A.rows, ∃ es l fr, blks0.getD j .dead = .row es l fr
  | [], _, _, j, hj => by simp at hj
  | a :: l, ps, h, j, hj => by
    rw [List.mapM_cons] at h
    cases ha : a.toD (fun j => blks0.getD j .dead) with
    | none => rw [ha] at h; simp at h
    | some p =>
      rw [ha] at h
      simp only [Option.bind_eq_bind, Option.bind_some, Option.bind_eq_some_iff] at h
      obtain ⟨ps', hps, _⟩ := h
      simp only [List.flatMap_cons, List.mem_append] at hj
      rcases hj with hj | hj
      · exact rows_of_toD ha j hj
      · exact rows_of_toDs l ps' hps j hj
theorem rows_of_toT {blks0 : List Blk} {t : TV} {p : TS × E} (h : t.toD (fun j => blks0.getD j .dead) = some p) : ∀ j ∈ t.rows, ∃ es l fr, blks0.getD j .dead = .row es l fr := by
  intro j hj
  unfold TV.toD at h
  split at h
  · split at h
    · rename_i a _ _ he; exact rows_of_toD he j hj
    · cases h
  · split at h
    · rename_i l _ _ he; exact rows_of_toDs _ _ he j hj
    · cases h
theorem rows_of_toTs {blks0 : List Blk} : ∀ (l : List TV) (ps : List (TS × E)), l.mapM (TV.toD (fun j => blks0.getD j .dead)) = some ps → ∀ j ∈ l.flatMap TV.rows, ∃ es l fr, blks0.getD j .dead = .row es l fr
  | [], _, _, j, hj => by simp at hj
  | a :: l, ps, h, j, hj => by
    rw [List.mapM_cons] at h
    cases ha : a.toD (fun j => blks0.getD j .dead) with
    | none => rw [ha] at h; simp at h
    | some p =>
      rw [ha] at h
      simp only [Option.bind_eq_bind, Option.bind_some, Option.bind_eq_some_iff] at h
      obtain ⟨ps', hps, _⟩ := h
      simp only [List.flatMap_cons, List.mem_append] at hj
      rcases hj with hj | hj
      · exact rows_of_toT ha j hj
      · exact rows_of_toTs l ps' hps j hj

/-- The arguments of a call: the rows among them are frozen; then they are data. -/
theorem args_sound (hw : WR Z η M blks w) {ts : List TV} {ps : List (TS × E)} {vs : List Value} (hps : ts.mapM (TV.toD (fun j => blks.getD j .dead)) = some ps) (hv : AbsTs η M ts vs) :
    ∃ M', M.le M' ∧ WR Z η M' (applyU blks ((ts.flatMap TV.rows).map fun j => (j, frozenB (blks.getD j .dead)))) w ∧ RepTs M' (ps.map (·.1)) vs (ps.map fun p => p.2.den η.ρ) := by
  have hrows := rows_of_toTs ts ps hps
  obtain ⟨M', h1, h2, h3⟩ := freezeAll (ts.flatMap TV.rows) blks hw (fun j hj => by
    obtain ⟨es, l, fr, he⟩ := hrows j hj
    exact ⟨es, l, fr, he, .inl (getD_some he (by simp))⟩)
  exact ⟨M', h1, h2, toTs_sound h2 ts ps vs hps h3 (hv.mono (Env.le.refl _) h1)⟩

theorem callA_sound (hP : NoNum P) {c : Ctx} {f : FuncId} {args : Array Operand} {tys : Array TypeId} {out : Out} (h : callA c f args tys = some out) (hcP : c.P = P) (hcB : c.B = fun j => blks.getD j .dead) {a : Act} {o : Oper}
    (hx : ∀ x, AbsV η M (c.x x) (a.eval x)) (hw : WR Z η M blks w) (hev : ∀ e ∈ out.evs, EvOK P η.ρ e) {next : Act → World → Prop} {Q : Exit → Act → World → Prop}
    (hop : execOp a.eval o = callFunc f (#[] ++ args.map a.eval ++ #[])) (k : Then Z η M blks o a out next) : o.wp P a w next Q := by
  unfold callA at h
  rw [hcP] at h
  split at h
  · cases h
  · rename_i fn hf
    split at h
    · cases h
    · rename_i hb
      simp only [] at h
      split at h
      · cases h
      · rename_i hsz
        split at h
        · rename_i ts us hts hus
          split at h
          · rename_i ps hps
            simp only [Option.some.injEq] at h
            subst h
            rw [hcB] at hps k
            unfold Oper.wp
            rw [hop, run_callFunc hP hf (by cases hfb : fn.body <;> simp_all)]
            simp only [Oper.upon]
            have hargs : AbsTs η M ts (args.toList.map a.eval) := by
              refine mapM_v hts (by simp; omega) fun j X v hX hv => ?_
              simp only [List.getElem?_map, Option.map_eq_some_iff] at hX hv
              obtain ⟨p, hp1, rfl⟩ := hX
              obtain ⟨y, hy1, rfl⟩ := hv
              have : p.1 = y := by
                rw [List.getElem?_zip_eq_some] at hp1
                have := hp1.1
                rw [hy1] at this; cases this; rfl
              rw [← this]
              exact fixA_abs (hx _)
            obtain ⟨M1, m1, w1, r1⟩ := args_sound hw hps hargs
            have hfun := hev _ (List.mem_singleton.2 rfl)
            simp only [EvOK] at hfun
            have hcall := hfun w M1 (args.toList.map a.eval) (mem_wr w1) (by rw [List.map_map]; exact r1)
            have hveq : (args.toList.map a.eval).toArray = #[] ++ args.map a.eval ++ #[] := by
              apply Array.ext'; simp
            rw [hveq] at hcall
            refine hcall.mono ?_
            rintro e w2 ⟨v, M2, rfl, hb2, hm2, hle, hnew, hres⟩
            have hw2 := w1.grow hb2 hle (fun b o v hv => (hm2 b o v hv).1) (fun b o v hv => (hm2 b o v hv).2) (fun b o hlt => by
              cases h2 : M2 b o with
              | none =>
                cases h1 : M1 b o with
                | none => rfl
                | some u => rw [hle b o u h1] at h2; cases h2
              | some u =>
                rcases hnew b o u h2 with h | h
                · exact h.symm
                · omega)
            refine k v w2 η M2 (Env.le.refl _) (m1.trans hle) hw2 (fun r hr => ?_) (fun hr => by simp at hr)
            simp only [Option.some.injEq] at hr
            subst hr
            match us, hres with
            | [u], hres =>
              simp only [RepRes] at hres
              obtain ⟨r, hr1, hr2⟩ := hres
              simp only [datas, List.cons.injEq, and_true] at hr1
              subst hr1
              exact varsT_abs hr2
            | [], hres =>
              simp only [RepRes] at hres
              obtain ⟨vs, rfl, hvs⟩ := hres
              exact ⟨vs, rfl, varsTs_abs _ _ _ hvs⟩
            | u1 :: u2 :: us, hres =>
              simp only [RepRes] at hres
              obtain ⟨vs, rfl, hvs⟩ := hres
              exact ⟨vs, rfl, varsTs_abs _ _ _ hvs⟩
          · cases h
        · cases h
end
end Go.Proofs.Ytokjokbbegcceaa.Sx
