/-
  A part of a symbolic walk that is proved sound: what the functions of a program do with data. No conditions.
-/
import Derived.Test.YtighdhddeidmcaaSyXd
import Derived.Test.YtighdhddeidmcaaSyE2
set_option linter.unusedSimpArgs false
set_option linter.unusedVariables false
namespace Go.Proofs.Ytighdhddeidmcaa.Sy
open Go.RowKit

/-! Functions with a deferred function that finds nothing to recover. -/
def genT (P : Program) (t : Nat) (ret : St → VC) : Nat → Code → St → VC
  | 0, .seq (.region _ _ false) c, σ1 => if Nat.blt t σ1.tmps.length then gen P [] c { σ1 with tmps := σ1.tmps.set t (.v (.c .any)) } { normal := ret, exits := [], ret := ret } else .bad 900041
  | n + 1, .seq a b, σ => gen P [] a σ { normal := fun σ' => genT P t ret n b σ', exits := [], ret := ret }
  | _, _, _ => .bad 900042
def tailN : Nat → Code → Code
  | 0, c => c
  | n + 1, .seq _ b => tailN n b
  | _, _ => .skip
def genQ (P : Program) (sg : Nat → Option (List TS × List TS)) (gl : Globs) (f : FuncId) (n t : Nat) (ts us : List TS) : VC :=
  match P.funcs[f]? with
  | some fn => match fn.body with
    | some b => if !ts.all TS.noI then .bad 900051 else genT P t (retK P fn ts us) n b (startSt sg gl fn ts)
    | none => .bad 900042
  | none => .bad 900043
/-- With nothing to recover it does nothing. -/
structure Quiet (P : Program) (g : FuncId) : Prop where
  fn : ∃ gn, P.funcs[g]? = some gn ∧ gn.body.isNone = false
  ret : ∀ (p q : Value) (w : World), CallsD P g #[p, q] .returning w fun e u' w' => (∃ v, e = .returned v) ∧ u' = .returning ∧ w' = w
section
variable {P : Program}
set_option maxHeartbeats 1000000 in
theorem fun_of_q (hP : NoNum P) {f : FuncId} {fn : Func} {n i1 : Nat} {o1 o2 : Oper} {body c : Code} (hf : P.funcs[f]? = some fn)
    (hb : fn.body = some body) (htl : tailN n body = .seq (.region i1 #[o1, o2] false) c) {g : FuncId} {a b t : Nat}
    (h1 : o1.op = .makeFunc (.func g) #[] #[.tmp a, .tmp b]) (h1d : o1.dst = some t) (h1g : o1.guard = none)
    (h2 : o2.op = .defer { callee := .value (.tmp t), args := #[], argTypes := #[] }) (h2d : o2.dst = none) (h2g : o2.guard = none)
    {sg : Nat → Option (List TS × List TS)} {gl : Globs} {ts us : List TS} {ds : List D} {rs : List D} (hR : Quiet P g)
    (hsz : ts.length ≤ fn.ntmps) {v : VC} (hv : genQ P sg gl f n t ts us = v) (h : v.den P gl (fun r' => r' = .ok rs) [] (flatD ts ds)) : Fun P gl f ts ds us (.ok rs) := by
  intro w M vs ps hM hG hA hI
  have hnI : ts.all TS.noI = true := by
    cases hc : ts.all TS.noI with
    | true => rfl
    | false =>
      exfalso
      have hbad : genQ P sg gl f n t ts us = .bad 900051 := by unfold genQ; simp only [hf, hb, hc, Bool.not_false, if_true]
      rw [hbad] at hv
      subst hv
      exact h
  have hg : genQ P sg gl f n t ts us = genT P t (retK P fn ts us) n body (startSt sg gl fn ts) := by
    unfold genQ
    simp only [hf, hb, hnI, Bool.not_true, Bool.false_eq_true, if_false]
  rw [hg] at hv
  rw [← hv] at h
  clear hg hv
  refine calls_of_wp_defers hf hb ?_
  obtain ⟨η, pal, hρ, hout, hrel⟩ := start_rel (sg := sg) (fn := fn) hsz hnI hM hG hA hI
  let Z : Base := ⟨w.heap.size, w, M, ownS ps, pal, gl⟩
  let K : FR → Prop := fun r' => r' = .ok rs
  let R := FunPost M w (ownS ps) ts vs us (.ok rs)
  obtain ⟨gn, hgn, hgb⟩ := hR.fn
  let dfr : Value → Value → Deferred := fun p q => { target := .fn (.func g) #[p, q], args := #[] }
  have hinv : ∀ p q, (invoke (.fn (.func g) #[p, q]) #[]).run P = fun w => .ok (.enter g #[p, q]) w := by
    intro p q
    funext w
    simp only [invoke]
    rw [run_callFunc hP hgn hgb]
    rfl
  have hret : ∀ (dd : List Deferred), (dd = [] ∨ ∃ p q, dd = [dfr p q]) → ∀ (ex : Exit) (Λ : List Lp) (ρ0 : List D), (ex = .normal ∨ ex = .ret) → GoodK P K Z dd Λ ρ0 (retK P fn ts us) (bodyPostD P fn R ex) := by
    intro dd hdd ex Λ ρ0 hex Λ' _ σ η' M' tmps w' hr _ _ _ h
    unfold retK at h
    split at h
    · exact h.elim
    · rename_i tvs htvs
      obtain ⟨vres, h1, h2⟩ := resTVs_sound hr htvs
      obtain ⟨rs', hK, hl, hpost⟩ := retE_sound hr h2 h
      have hK : FR.ok rs' = .ok rs := hK
      cases hK
      have hpost := hpost vs hout rfl
      have hrr := results_run h1
      have hleave : Leaves P fn tmps R dd .returning w' := by
        rcases hdd with rfl | ⟨p, q, rfl⟩
        · exact ⟨_, hrr, hpost⟩
        · refine leaves_cons (by simp) (by rw [hinv]) ((hR.ret _ _ w').mono ?_)
          rintro e u' w'' ⟨⟨v, rfl⟩, rfl, rfl⟩
          exact ⟨_, hrr, hpost⟩
      rcases hex with rfl | rfl <;> exact hleave
  have hpan : ∀ (dd : List Deferred) (Q : Exit → Act → World → Prop), PanQ K Z dd [] Q := by
    intro dd Q tmps w' T u x es hK
    have hK : FR.pan T x = .ok rs := hK
    cases hK
  -- what comes behind the deferral, and ahead of it
  have hgo : ∀ (n : Nat) (body : Code), tailN n body = .seq (.region i1 #[o1, o2] false) c → ∀ (Λ : List Lp) (ρ0 : List D), GoodK P K Z [] Λ ρ0 (fun σ1 => genT P t (retK P fn ts us) n body σ1) (fun a' w' => body.wp P (bodyPostD P fn R) a' w') := by
    intro n
    induction n with
    | zero =>
      intro body htl Λ ρ0 Λ' _ σ η M1 tmps w1 hr hpr hn hdp h
      simp only [tailN] at htl
      subst htl
      simp only [genT] at h
      split at h
      rotate_left
      · exact h.elim
      rename_i hc
      have gt : t < σ.tmps.length := by simpa [Nat.blt_eq] using hc
      have hts1 : t < tmps.size := by rw [← hr.sz]; exact gt
      let va := (⟨tmps, []⟩ : Act).eval (.tmp a)
      let vb := (⟨tmps, []⟩ : Act).eval (.tmp b)
      let fv : Value := .func (.func g) #[] #[va, vb]
      have hr2 : Rel Z η M1 { σ with tmps := σ.tmps.set t (.v (.c .any)) } (tmps.setIfInBounds t fv) w1 := by
        have hput := Rel.put (dst := some t) (A := .v (.c .any)) (v := fv) (nv' := σ.nv) (d := []) hr (Env.le.refl _) (Mem.le.refl _) hr.wr trivial
        exact ⟨hr.wr, hput.sz, hput.tmp, hr.asm, hr.pj, hr.gl⟩
      have hgood := gen_sound0 hP (K := K) (Z := Z) (d := [dfr va vb]) (pin := []) c Λ' η.ρ { normal := retK P fn ts us, exits := [], ret := retK P fn ts us } (bodyPostD P fn R)
        ⟨hret _ (.inr ⟨_, _, rfl⟩) .normal _ _ (.inl rfl), hret _ (.inr ⟨_, _, rfl⟩) .ret _ _ (.inr rfl), fun i f hf => by simp [lookX] at hf, hpan _ _⟩
      refine wp_seq (wp_region ?_)
      show wpOps P #[o1, o2] _ [0, 1] _ _
      have e1 : (execOp (⟨tmps, []⟩ : Act).eval o1).run P w1 = .ok (.value fv) w1 := by
        unfold execOp
        rw [h1]
        simp [Instr.makeFunc, fv, va, vb]
      have e2 : (execOp (⟨tmps.setIfInBounds t fv, []⟩ : Act).eval o2).run P w1 = .ok (.defer (dfr va vb)) w1 := by
        unfold execOp
        rw [h2]
        have et : (⟨tmps.setIfInBounds t fv, []⟩ : Act).eval (.tmp t) = fv := by
          show (tmps.setIfInBounds t fv).getD t undef = fv
          rw [Array.getD_eq_getD_getElem?, Array.getElem?_setIfInBounds]
          simp [hts1]
        simp [resolve, et, fv, Deferred.ofValue, dfr]
      simp only [wpOps, List.getElem?_toArray, List.getElem?_cons_zero, List.getElem?_cons_succ]
      rw [if_pos (by simp [Region.wanted, h1g])]
      refine .inl ?_
      unfold Oper.wp
      rw [e1, Oper.upon_value, h1d]
      show (if _ then _ else _)
      rw [if_pos (by simp [Region.wanted, h2g])]
      refine .inl ?_
      show Oper.upon P o2 ⟨tmps.setIfInBounds t fv, []⟩ _ _ ((execOp (⟨tmps.setIfInBounds t fv, []⟩ : Act).eval o2).run P w1)
      rw [e2, Oper.upon_defer, h2d]
      exact hgood Λ' (List.prefix_refl _) _ η M1 _ w1 hr2 (List.prefix_refl _) hn hdp h
    | succ n ih =>
      intro body htl Λ ρ0 Λ' hΛ σ η M1 tmps w1 hr hpr hn hdp h
      cases body with
      | seq a b =>
        simp only [tailN] at htl
        simp only [genT] at h
        refine wp_seq (gen_sound0 hP (K := K) (Z := Z) (d := []) (pin := []) a Λ ρ0 { normal := fun σ' => genT P t (retK P fn ts us) n b σ', exits := [], ret := retK P fn ts us } (Exit.then (b.wp P (bodyPostD P fn R)) (bodyPostD P fn R))
          ⟨ih b htl Λ ρ0, hret _ (.inl rfl) .ret _ _ (.inr rfl), fun i f hf => by simp [lookX] at hf, hpan _ _⟩ Λ' hΛ σ η M1 tmps w1 hr hpr hn hdp h)
      | _ => simp [tailN] at htl
  exact hgo n body htl [] (flatD ts ds) [] (List.prefix_refl _) (startSt sg gl fn ts) η M _ w hrel (by rw [hρ]; exact List.prefix_refl _) (by rw [hρ]; simpa [startSt] using hA.flat.1) rfl (by rw [hρ]; exact h)

/-- A function whose condition is reckoned out, as long as it comes to results. -/
def runQ (Φ : Phi) (v : VC) (fuel : Nat) (ts : List TS) (ds : List D) : Option FR :=
  match v.evalS Φ (evalN Φ fuel) [] (flatD ts ds) with
  | some (.ok rs) => some (.ok rs)
  | _ => none
theorem runQ_sound {G : Globs} {Φ : Phi} (hΦ : PhiOK P G Φ) {v : VC} {fuel : Nat} {ts us : List TS} {f : FuncId} (hv : ∀ ds rs, v.den P G (fun r' => r' = .ok rs) [] (flatD ts ds) → Fun P G f ts ds us (.ok rs)) : NEntOK P G ⟨f, ts, us, runQ Φ v fuel ts⟩ := by
  intro ds r h
  simp only [runQ] at h
  split at h
  · rename_i rs hr
    cases h
    exact hv ds rs (evalS_sound hΦ v fuel [] [] _ hr rfl (fun k l hk => by simp at hk))
  · cases h
end
end Go.Proofs.Ytighdhddeidmcaa.Sy
