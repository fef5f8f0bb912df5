/-
  A part of a symbolic walk that is proved sound: what the functions of a program do with data. No conditions.
-/
import Derived.Test.YtindphofgojfbaaSyXd
import Derived.Test.YtindphofgojfbaaSyE2
set_option linter.unusedSimpArgs false
set_option linter.unusedVariables false
namespace Go.Proofs.Ytindphofgojfbaa.Sy
open Go.RowKit
def genT (P : Program) (t : Nat) (ret : St → VC) : Nat → Code → St → VC
  | 0, .seq (.region _ _ false) c, σ1 => if Nat.blt t σ1.tmps.length then gen P [] c { σ1 with tmps := σ1.tmps.set t (.v (.c .any)) } { normal := ret, exits := [], ret := ret } else .bad 900041
  | n + 1, .seq a b, σ => gen P [] a σ { normal := fun σ' => genT P t ret n b σ', exits := [], ret := ret }
  | _, _, _ => .bad 900042
def tailN : Nat → Code → Code
  | 0, c => c
  | n + 1, .seq _ b => tailN n b
  | _, _ => .skip
def genQ (P : Program) (sg : Nat → Option (List TS × List TS)) (gl : Globs) (f : FuncId) (n t : Nat) (ts us : List TS) : VC :=
  match P.funcs[f]? with
  | some fn => match fn.body with
    | some b => if !ts.all TS.noI then .bad 900051 else genT P t (retK P fn ts us) n b (startSt sg gl fn ts)
    | none => .bad 900042
  | none => .bad 900043
structure Quiet (P : Program) (g : FuncId) : Prop where
  fn : ∃ gn, P.funcs[g]? = some gn ∧ gn.body.isNone = false
  ret : ∀ (p q : Value) (w : World), CallsD P g #[p, q] .returning w fun e u' w' => (∃ v, e = .returned v) ∧ u' = .returning ∧ w' = w
section
variable {P : Program}
set_option maxHeartbeats 1000000 in
theorem fun_of_q (hP : NoNum P) {f : FuncId} {fn : Func} {n i1 : Nat} {o1 o2 : Oper} {body c : Code} (hf : P.funcs[f]? = some fn)
    (hb : fn.body = some body) (htl : tailN n body = .seq (.region i1 #[o1, o2] false) c) {g : FuncId} {a b t : Nat}
    (h1 : o1.op = .makeFunc (.func g) #[] #[.tmp a, .tmp b]) (h1d : o1.dst = some t) (h1g : o1.guard = none)
    (h2 : o2.op = .defer { callee := .value (.tmp t), args := #[], argTypes := #[] }) (h2d : o2.dst = none) (h2g : o2.guard = none)
    {sg : Nat → Option (List TS × List TS)} {gl : Globs} {ts us : List TS} {ds : List D} {rs : List D} (hR : Quiet P g)
    (hsz : ts.length ≤ fn.ntmps) {v : VC} (hv : genQ P sg gl f n t ts us = v) (h : v.den P gl (fun r' => r' = .ok rs) [] (flatD ts ds)) : Fun P gl f ts ds us (.ok rs) := by
  intro w M vs ps hM hG hA hI
  have hnI : ts.all TS.noI = true := by
    cases hc : ts.all TS.noI with
    | true => rfl
    | false =>
      exfalso
      have hbad : genQ P sg gl f n t ts us = .bad 900051 := by unfold genQ; simp only [hf, hb, hc, Bool.not_false, if_true]
      rw [hbad] at hv
      subst hv
      exact h
  have hg : genQ P sg gl f n t ts us = genT P t (retK P fn ts us) n body (startSt sg gl fn ts) := by
    unfold genQ
    simp only [hf, hb, hnI, Bool.not_true, Bool.false_eq_true, if_false]
  rw [hg] at hv
  rw [← hv] at h
  clear hg hv
  refine calls_of_wp_defers hf hb ?_
  obtain ⟨η, pal, hρ, hout, hrel⟩ := start_rel (sg := sg) (fn := fn) hsz hnI hM hG hA hI
  let Z : Base := ⟨w.heap.size, w, M, ownS ps, pal, gl⟩
  let K : FR → Prop := fun r' => r' = .ok rs
  let R := FunPost M w (ownS ps) ts vs us (.ok rs)
  obtain ⟨gn, hgn, hgb⟩ := hR.fn
  let dfr : Value → Value → Deferred := fun p q => { target := .fn (.func g) #[p, q], args := #[] }
  have hinv : ∀ p q, (invoke (.fn (.func g) #[p, q]) #[]).run P = fun w => .ok (.enter g #[p, q]) w := by
    intro p q
    funext w
    simp only [invoke]
    rw [run_callFunc hP hgn hgb]
    rfl
  have hret : ∀ (dd : List Deferred), (dd = [] ∨ ∃ p q, dd = [dfr p q]) → ∀ (ex : Exit) (Λ : List Lp) (ρ0 : List D), (ex = .normal ∨ ex = .ret) → GoodK P K Z dd Λ ρ0 (retK P fn ts us) (bodyPostD P fn R ex) := by
    intro dd hdd ex Λ ρ0 hex Λ' _ σ η' M' tmps w' hr _ _ _ h
    unfold retK at h
    split at h
    · exact h.elim
    · rename_i tvs htvs
      obtain ⟨vres, h1, h2⟩ := resTVs_sound hr htvs
      obtain ⟨rs', hK, hl, hpost⟩ := retE_sound hr h2 h
      have hK : FR.ok rs' = .ok rs := hK
      cases hK
      have hpost := hpost vs hout rfl
      have hrr := results_run h1
      have hleave : Leaves P fn tmps R dd .returning w' := by
        rcases hdd with rfl | ⟨p, q, rfl⟩
        · exact ⟨_, hrr, hpost⟩
        · refine leaves_cons (by simp) (by rw [hinv]) ((hR.ret _ _ w').mono ?_)
          rintro e u' w'' ⟨⟨v, rfl⟩, rfl, rfl⟩
          exact ⟨_, hrr, hpost⟩
      rcases hex with rfl | rfl <;> exact hleave
  have hpan : ∀ (dd : List Deferred) (Q : Exit → Act → World → Prop), PanQ K Z dd [] Q := by
    intro dd Q tmps w' T u x es hK
    have hK : FR.pan T x = .ok rs := hK
    cases hK
  -- what comes behind the deferral, and ahead of it
  have hgo : ∀ (n : Nat) (body : Code), tailN n body = .seq (.region i1 #[o1, o2] false) c → ∀ (Λ : List Lp) (ρ0 : List D), GoodK P K Z [] Λ ρ0 (fun σ1 => genT P t (retK P fn ts us) n body σ1) (fun a' w' => body.wp P (bodyPostD P fn R) a' w') := by
    intro n
    induction n with
    | zero =>
      intro body htl Λ ρ0 Λ' _ σ η M1 tmps w1 hr hpr hn hdp h
      simp only [tailN] at htl
      subst htl
      simp only [genT] at h
      split at h
      rotate_left
      · exact h.elim
      rename_i hc
      have gt : t < σ.tmps.length := by simpa [Nat.blt_eq] using hc
      have hts1 : t < tmps.size := by rw [← hr.sz]; exact gt
      let va := (⟨tmps, []⟩ : Act).eval (.tmp a)
      let vb := (⟨tmps, []⟩ : Act).eval (.tmp b)
      let fv : Value := .func (.func g) #[] #[va, vb]
      have hr2 : Rel Z η M1 { σ with tmps := σ.tmps.set t (.v (.c .any)) } (tmps.setIfInBounds t fv) w1 := by
        have hput := Rel.put (dst := some t) (A := .v (.c .any)) (v := fv) (nv' := σ.nv) (d := []) hr (Env.le.refl _) (Mem.le.refl _) hr.wr trivial
        exact ⟨hr.wr, hput.sz, hput.tmp, hr.asm, hr.pj, hr.gl⟩
      have hgood := gen_sound hP (K := K) (Z := Z) (d := [dfr va vb]) (pin := []) c Λ' η.ρ { normal := retK P fn ts us, exits := [], ret := retK P fn ts us } (bodyPostD P fn R)
        ⟨hret _ (.inr ⟨_, _, rfl⟩) .normal _ _ (.inl rfl), hret _ (.inr ⟨_, _, rfl⟩) .ret _ _ (.inr rfl), fun i f hf => by simp [lookX] at hf, hpan _ _⟩
      refine wp_seq (wp_region ?_)
      show wpOps P #[o1, o2] _ [0, 1] _ _
      have e1 : (execOp (⟨tmps, []⟩ : Act).eval o1).run P w1 = .ok (.value fv) w1 := by
        unfold execOp
        rw [h1]
        simp [Instr.makeFunc, fv, va, vb]
      have e2 : (execOp (⟨tmps.setIfInBounds t fv, []⟩ : Act).eval o2).run P w1 = .ok (.defer (dfr va vb)) w1 := by
        unfold execOp
        rw [h2]
        have et : (⟨tmps.setIfInBounds t fv, []⟩ : Act).eval (.tmp t) = fv := by
          show (tmps.setIfInBounds t fv).getD t undef = fv
          rw [Array.getD_eq_getD_getElem?, Array.getElem?_setIfInBounds]
          simp [hts1]
        simp [resolve, et, fv, Deferred.ofValue, dfr]
      simp only [wpOps, List.getElem?_toArray, List.getElem?_cons_zero, List.getElem?_cons_succ]
      rw [if_pos (by simp [Region.wanted, h1g])]
      refine .inl ?_
      unfold Oper.wp
      rw [e1, Oper.upon_value, h1d]
      show (if _ then _ else _)
      rw [if_pos (by simp [Region.wanted, h2g])]
      refine .inl ?_
      show Oper.upon P o2 ⟨tmps.setIfInBounds t fv, []⟩ _ _ ((execOp (⟨tmps.setIfInBounds t fv, []⟩ : Act).eval o2).run P w1)
      rw [e2, Oper.upon_defer, h2d]
      exact hgood Λ' (List.prefix_refl _) _ η M1 _ w1 hr2 (List.prefix_refl _) hn hdp h
    | succ n ih =>
      intro body htl Λ ρ0 Λ' hΛ σ η M1 tmps w1 hr hpr hn hdp h
      cases body with
      | seq a b =>
        simp only [tailN] at htl
        simp only [genT] at h
        refine wp_seq (gen_sound hP (K := K) (Z := Z) (d := []) (pin := []) a Λ ρ0 { normal := fun σ' => genT P t (retK P fn ts us) n b σ', exits := [], ret := retK P fn ts us } (Exit.then (b.wp P (bodyPostD P fn R)) (bodyPostD P fn R))
          ⟨ih b htl Λ ρ0, hret _ (.inl rfl) .ret _ _ (.inr rfl), fun i f hf => by simp [lookX] at hf, hpan _ _⟩ Λ' hΛ σ η M1 tmps w1 hr hpr hn hdp h)
      | _ => simp [tailN] at htl
  exact hgo n body htl [] (flatD ts ds) [] (List.prefix_refl _) (startSt sg gl fn ts) η M _ w hrel (by rw [hρ]; exact List.prefix_refl _) (by rw [hρ]; simpa [startSt] using hA.flat.1) rfl (by rw [hρ]; exact h)

def runQ (Φ : Phi) (v : VC) (fuel : Nat) (ts : List TS) (ds : List D) : Option FR :=
  match v.evalS Φ (evalN Φ fuel) [] (flatD ts ds) with
  | some (.ok rs) => some (.ok rs)
  | _ => none
theorem runQ_sound {G : Globs} {Φ : Phi} (hΦ : PhiOK P G Φ) {v : VC} {fuel : Nat} {ts us : List TS} {f : FuncId} (hv : ∀ ds rs, v.den P G (fun r' => r' = .ok rs) [] (flatD ts ds) → Fun P G f ts ds us (.ok rs)) : NEntOK P G ⟨f, ts, us, runQ Φ v fuel ts⟩ := by
  intro ds r h
  simp only [runQ] at h
  split at h
  · rename_i rs hr
    cases h
    exact hv ds rs (evalS_sound hΦ v fuel [] [] _ hr rfl (fun k l hk => by simp at hk))
  · cases h
end

end Go.Proofs.Ytindphofgojfbaa.Sy
set_option linter.unusedSimpArgs false
set_option linter.unusedVariables false
namespace Go.Proofs.Ytindphofgojfbaa.Sy
open Go.RowKit
theorem WR.onto {Z : Base} {η : Env} {M : Mem} {blks : List Blk} {w w' : World} (h : WR Z η M blks w) (hb : Below w.heap.size w w') : WR Z η M blks w' := by
  have hcell : ∀ {b o : Nat} {v : Value}, w.cell? ⟨b, o, none⟩ = some v → w'.cell? ⟨b, o, none⟩ = some v := fun {b o v} hc => (cell_congr (hb.block b (lt_of_cell hc))).trans hc
  refine ⟨⟨hb.os.trans h.below.os, hb.tape.trans h.below.tape, hb.output.trans h.below.output, Nat.le_trans h.below.size hb.size, fun k hk hs => (hb.block k (Nat.lt_of_lt_of_le hk h.size)).trans (h.below.block k hk hs)⟩, Nat.le_trans h.size hb.size, h.base, h.new, fun b o v hv => hcell (h.mem b o v hv), h.one, fun j C hC => ?_, h.inj, h.out, h.pal, h.glob⟩
  refine BlkOK.mono (fun _ h => h) (Env.le.refl _) (Mem.le.refl _) (fun e => by have := h.blk j C hC; subst e; exact this) (fun b c hj h0 hd => ⟨hb.block b (h.live_lt hC hd hj h0).1, fun _ => rfl⟩) (h.blk j C hC)
structure MidIn (M : Mem) (w : World) (tmps : Array Value) (N : Nat) (cut : Bool) (cn : Int) (L : List D) : Prop where
  sz : tmps.size = N
  mem : ∀ b o v, M b o = some v → w.cell? ⟨b, o, none⟩ = some v
  cells : ∃ (bl : Nat) (v0 v1 v4 v5 : Value) (T : TypeId), tmps.getD 2 undef = .pointer (some ⟨bl, 0, none⟩) ∧ w.heap[bl]? = some (.cells #[v0, v1, .bool cut, .int .i64 cn, v4, v5] T (0, 0)) ∧ Rep M (.lst [.int .i64]) v4 (.lst L)
def keepL (cs : List Nat) (t N : Nat) : List Nat := (List.range N).filter fun i => !(memN i cs || Nat.beq i t)
structure MidOut (cs : List Nat) (t N : Nat) (tmps tmps' : Array Value) (b : Bool) : Prop where
  sz : tmps'.size = N
  bit : tmps'.getD t undef = .bool b
  keep : (keepL cs t N).map (tmps'.getD · undef) = (keepL cs t N).map (tmps.getD · undef)
def clrT (cs : List Nat) (t : Nat) (b : Bool) (l : List AV) : List AV :=
  (List.range l.length).map fun i => if Nat.beq i t then .v (.c (.d .bool (.kb b))) else if memN i cs then .v (.c .any) else l.getD i (.v (.c .any))
def midSt (cs : List Nat) (t : Nat) (b : Bool) (σ : St) : St := { σ with tmps := clrT cs t b σ.tmps }
def midCh (N base : Nat) (σ : St) : Bool :=
  Nat.beq σ.tmps.length N && Nat.beq σ.nv base && Nat.beq σ.dep 0 && (match σ.tmps[(2 : Nat)]? with
    | some (.v (.c (.ptr j 0))) => (match σ.blks[j]? with
      | some (.cells [_, _, .d .bool (.v 2), .d (.int .i64) (.v 3), .d (.lst [.int .i64]) (.v 4), _]) => true
      | _ => false)
    | _ => false)
def genM (P : Program) (cs : List Nat) (t : Nat) (b : Bool) (N base : Nat) (ret : St → VC) : Nat → Code → St → VC
  | 0, .seq _ (.seq _ (.seq _ rest)), σ => if midCh N base σ then gen P [] rest (midSt cs t b σ) { normal := ret, exits := [], ret := ret } else .bad 900081
  | n + 1, .seq a c, σ => gen P [] a σ { normal := fun σ' => genM P cs t b N base ret n c σ', exits := [], ret := ret }
  | _, _, _ => .bad 900082
def genMF (P : Program) (cs : List Nat) (t : Nat) (b : Bool) (n : Nat) (sg : Nat → Option (List TS × List TS)) (gl : Globs) (f : FuncId) (ts us : List TS) : VC :=
  match P.funcs[f]? with
  | some fn => match fn.body with
    | some c => if !ts.all TS.noI then .bad 900051 else genM P cs t b fn.ntmps (flatLen ts) (retK P fn ts us) n c (startSt sg gl fn ts)
    | none => .bad 900014
  | none => .bad 900015
theorem mid_in {Z : Base} {η : Env} {M : Mem} {σ : St} {tmps : Array Value} {w : World} {N base : Nat} (hr : Rel Z η M σ tmps w) (hc : midCh N base σ = true) {cut : Bool} {cn : Int} {L : List D}
    (h2 : η.ρ.getD 2 default = .bool cut) (h3 : η.ρ.getD 3 default = .int .i64 cn) (h4 : η.ρ.getD 4 default = .lst L) : MidIn M w tmps σ.tmps.length cut cn L := by
  simp only [midCh, Bool.and_eq_true] at hc
  obtain ⟨_, hc⟩ := hc
  split at hc
  · rename_i j ht
    split at hc
    · rename_i a0 a1 a5 hj
      obtain ⟨⟨b, c, hal, hv⟩, _⟩ := hr.tmp _ _ ht
      obtain ⟨b', c', vs, T, g1, _, _, g3, g4, _⟩ := hr.wr.blk _ _ hj
      rw [hal] at g1
      cases g1
      cases g4 with
      | cons q0 _ g4 =>
      cases g4 with
      | cons q1 _ g4 =>
      cases g4 with
      | cons q2 _ g4 =>
      cases g4 with
      | cons q3 _ g4 =>
      cases g4 with
      | cons q4 _ g4 =>
      cases g4 with
      | cons q5 _ g4 =>
      cases g4
      have q2 : Rep M .bool _ (η.ρ.getD 2 default) := q2
      rw [h2, Rep_bool] at q2
      obtain ⟨x, rfl, e2⟩ := q2
      cases e2
      have q3 : Rep M (.int .i64) _ (η.ρ.getD 3 default) := q3
      rw [h3, Rep_int] at q3
      obtain ⟨x, rfl, e3, _⟩ := q3
      cases e3
      have q4 : Rep M (.lst [.int .i64]) _ (η.ρ.getD 4 default) := q4
      rw [h4] at q4
      exact ⟨hr.sz.symm, hr.wr.mem, b, _, _, _, _, T, hv, g3, q4⟩
    · cases hc
  · cases hc
theorem mid_out {Z : Base} {η : Env} {M : Mem} {σ : St} {tmps tmps' : Array Value} {w w' : World} {cs : List Nat} {t : Nat} {b : Bool} (hr : Rel Z η M σ tmps w) (ht : t < σ.tmps.length) (ho : MidOut cs t tmps.size tmps tmps' b) (hb : Below w.heap.size w w') : Rel Z η M (midSt cs t b σ) tmps' w' := by
  refine ⟨hr.wr.onto hb, ?_, ?_, hr.asm, hr.pj, hr.gl⟩
  · show (clrT cs t b σ.tmps).length = _
    simp only [clrT, List.length_map, List.length_range]
    rw [ho.sz]
    exact hr.sz
  · intro i A hA
    have hA : (clrT cs t b σ.tmps)[i]? = some A := hA
    simp only [clrT, List.getElem?_map, Option.map_eq_some_iff] at hA
    obtain ⟨i', hi, rfl⟩ := hA
    have hi2 := List.getElem?_eq_some_iff.1 hi
    obtain ⟨hlt, hi2⟩ := hi2
    rw [List.getElem_range] at hi2
    subst hi2
    rw [List.length_range] at hlt
    by_cases e : Nat.beq i t = true
    · rw [if_pos e]
      have e := Nat.eq_of_beq_eq_true e
      subst e
      rw [ho.bit]
      refine ⟨?_, rfl⟩
      show Rep M .bool _ (.bool b)
      rw [Rep_bool]
      exact ⟨b, rfl, rfl⟩
    · rw [if_neg e]
      by_cases hm : memN i cs = true
      · rw [if_pos hm]
        exact trivial
      · rw [if_neg hm]
        have hk := List.map_inj_left.1 ho.keep i (List.mem_filter.2 ⟨List.mem_range.2 (by rw [← hr.sz]; exact hlt), by simp only [Bool.not_eq_true] at e hm; rw [e, hm]; rfl⟩)
        rw [hk]
        refine hr.tmp i _ ?_
        rw [List.getD_eq_getElem?_getD, List.getElem?_eq_getElem hlt]
        rfl
set_option maxHeartbeats 1000000 in
theorem fun_of_mid {P : Program} (hP : NoNum P) {f : FuncId} {fn : Func} {body m1 m2 m3 rest : Code} {n : Nat} (hf : P.funcs[f]? = some fn) (hb : fn.body = some body) (htl : tailN n body = .seq m1 (.seq m2 (.seq m3 rest)))
    {cs : List Nat} {t : Nat} {b : Bool} {cut : Bool} {cn : Int} {L : List D} (ht : t < fn.ntmps)
    (hmid : ∀ (rest : Code) (Q : Exit → Act → World → Prop) (M : Mem) (tmps : Array Value) (w : World), MidIn M w tmps fn.ntmps cut cn L → (∀ tmps' w', MidOut cs t fn.ntmps tmps tmps' b → Below w.heap.size w w' → rest.wp P Q ⟨tmps', []⟩ w') → (Code.seq m1 (.seq m2 (.seq m3 rest))).wp P Q ⟨tmps, []⟩ w)
    {sg : Nat → Option (List TS × List TS)} {gl : Globs} {ts us : List TS} {ds rs : List D} (h2 : (flatD ts ds).getD 2 default = .bool cut) (h3 : (flatD ts ds).getD 3 default = .int .i64 cn) (h4 : (flatD ts ds).getD 4 default = .lst L)
    (hsz : ts.length ≤ fn.ntmps) {v : VC} (hv : genMF P cs t b n sg gl f ts us = v) (h : v.den P gl (fun r' => r' = .ok rs) [] (flatD ts ds)) : Fun P gl f ts ds us (.ok rs) := by
  intro w M vs ps hM hG hA hI
  have hnI : ts.all TS.noI = true := by
    cases hc : ts.all TS.noI with
    | true => rfl
    | false =>
      exfalso
      have hbad : genMF P cs t b n sg gl f ts us = .bad 900051 := by unfold genMF; simp only [hf, hb, hc, Bool.not_false, if_true]
      rw [hbad] at hv
      subst hv
      exact h
  have hg : genMF P cs t b n sg gl f ts us = genM P cs t b fn.ntmps (flatLen ts) (retK P fn ts us) n body (startSt sg gl fn ts) := by
    unfold genMF
    simp only [hf, hb, hnI, Bool.not_true, Bool.false_eq_true, if_false]
  rw [hg] at hv
  rw [← hv] at h
  refine calls_of_wp hf hb ?_
  obtain ⟨η, pal, hρ, hout, hrel⟩ := start_rel (sg := sg) (fn := fn) hsz hnI hM hG hA hI
  have hfl := hA.flat.1
  let Z : Base := ⟨w.heap.size, w, M, ownS ps, pal, gl⟩
  let K : FR → Prop := fun r' => r' = .ok rs
  let Q : Exit → Act → World → Prop := bodyPost P fn (FunPost M w (ownS ps) ts vs us (.ok rs))
  have hpan : ∀ (Q : Exit → Act → World → Prop), PanQ K Z [] [] Q := by
    intro Q tmps w' T u x es hK
    have hK : FR.pan T x = .ok rs := hK
    cases hK
  have hret : ∀ (ex : Exit) (Λ : List Lp) (ρ0 : List D), (ex = .normal ∨ ex = .ret) → GoodK P K Z [] Λ ρ0 (retK P fn ts us) (Q ex) := by
    intro ex Λ ρ0 hex Λ' _ σ η' M' tmps w' hr _ _ _ h
    unfold retK at h
    split at h
    · exact h.elim
    · rename_i tvs htvs
      obtain ⟨vres, h1, h2⟩ := resTVs_sound hr htvs
      obtain ⟨rs', hK, hl, hpost⟩ := retE_sound hr h2 h
      have hK : FR.ok rs' = .ok rs := hK
      cases hK
      have := hpost vs hout rfl
      have hres := results_run h1
      rcases hex with rfl | rfl <;> exact ⟨rfl, _, hres, this⟩
  have hgo : ∀ (n : Nat) (body : Code), tailN n body = .seq m1 (.seq m2 (.seq m3 rest)) → GoodK P K Z [] [] (flatD ts ds) (fun σ => genM P cs t b fn.ntmps (flatLen ts) (retK P fn ts us) n body σ) (fun a w => body.wp P Q a w) := by
    intro n
    induction n with
    | succ n ih =>
      intro body htl Λ' hΛ σ η M1 tmps w1 hr hpr hn hdp h
      cases body with
      | seq a c =>
        simp only [tailN] at htl
        simp only [genM] at h
        refine wp_seq (gen_sound hP (K := K) (Z := Z) (d := []) (pin := []) a [] (flatD ts ds) { normal := fun σ' => genM P cs t b fn.ntmps (flatLen ts) (retK P fn ts us) n c σ', exits := [], ret := retK P fn ts us } (Exit.then (c.wp P Q) Q)
          ⟨ih c htl, hret .ret _ _ (.inr rfl), fun i f hf => by simp [lookX] at hf, hpan _⟩ Λ' hΛ σ η M1 tmps w1 hr hpr hn hdp h)
      | _ => simp [tailN] at htl
    | zero =>
      intro body htl Λ' hΛ σ η M1 tmps w1 hr hpr hn hdp h
      simp only [tailN] at htl
      subst htl
      simp only [genM] at h
      split at h
      rotate_left
      · exact h.elim
      rename_i hc
      have hnv : σ.nv = flatLen ts := by
        have hc' := hc
        simp only [midCh, Bool.and_eq_true] at hc'
        exact Nat.eq_of_beq_eq_true hc'.1.1.2
      have hdp0 : σ.dep = 0 := by
        have hc' := hc
        simp only [midCh, Bool.and_eq_true] at hc'
        exact Nat.eq_of_beq_eq_true hc'.1.2
      have hsz : σ.tmps.length = fn.ntmps := by
        have hc' := hc
        simp only [midCh, Bool.and_eq_true] at hc'
        exact Nat.eq_of_beq_eq_true hc'.1.1.1
      have hρe : flatD ts ds = η.ρ := hpr.eq_of_length (by rw [hn, hnv, hfl])
      have hin := mid_in hr hc (by rw [← hρe]; exact h2) (by rw [← hρe]; exact h3) (by rw [← hρe]; exact h4)
      rw [hsz] at hin
      refine hmid rest Q M1 tmps w1 hin fun tmps' w' ho hbw => ?_
      have hr' := mid_out (cs := cs) (t := t) (b := b) hr (by rw [hsz]; exact ht) (by rw [← hr.sz, hsz]; exact ho) hbw
      exact gen_sound hP (K := K) (Z := Z) (d := []) (pin := []) rest [] η.ρ { normal := retK P fn ts us, exits := [], ret := retK P fn ts us } Q
        ⟨hret .normal _ _ (.inl rfl), hret .ret _ _ (.inr rfl), fun i f hf => by simp [lookX] at hf, hpan _⟩ Λ' (List.nil_prefix) (midSt cs t b σ) η M1 tmps' w' hr' (List.prefix_refl _) hn hdp h
  exact hgo n body htl [] (List.prefix_refl _) (startSt sg gl fn ts) η M _ w hrel (by rw [hρ]; exact List.prefix_refl _) (by rw [hρ]; simpa [startSt] using hfl) rfl (by rw [hρ]; exact h)

end Go.Proofs.Ytindphofgojfbaa.Sy
