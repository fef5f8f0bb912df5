/-
  A part of a symbolic walk that is proved sound: what the functions of a program do with data. No conditions.
-/
import Derived.Test.YtindphofgojfbaaSyVa
import Derived.Scope
set_option linter.unusedSimpArgs false
set_option linter.unusedVariables false
namespace Go.Proofs.Ytindphofgojfbaa.Sy
open Go.RowKit
section
variable {Z : Base} {P : Program} {K : FR → Prop} {d : List Deferred}

def GoodK (P : Program) (K : FR → Prop) (Z : Base) (d : List Deferred) (Λ : List Lp) (ρ0 : List D) (k : St → VC) (next : Act → World → Prop) : Prop :=
  ∀ (Λ' : List Lp), Λ <+: Λ' → ∀ (σ : St) (η : Env) (M : Mem) (tmps : Array Value) (w : World), Rel Z η M σ tmps w → ρ0 <+: η.ρ → η.ρ.length = σ.nv → Λ'.length = σ.dep → (k σ).den P Z.G K Λ' η.ρ → next ⟨tmps, d⟩ w

theorem assume_rel {η : Env} {M : Mem} {σ : St} {tmps : Array Value} {w : World} {e : E} {b : Bool} (h : Rel Z η M σ tmps w) (he : (e.den η.ρ).toB = b) : Rel Z η M (σ.assume e b) tmps w :=
  ⟨h.wr, h.sz, h.tmp, fun e' b' hm => by
    rcases List.mem_cons.1 hm with hm | hm
    · cases hm; exact he
    · exact h.asm e' b' hm, h.pj, h.gl⟩
theorem ite_cases {Λ : List Lp} {ρ : List D} {e : E} {a b : VC} (h : (VC.ite e a b).den P Z.G K Λ ρ) : ((e.den ρ).toB = true ∧ a.den P Z.G K Λ ρ) ∨ ((e.den ρ).toB = false ∧ b.den P Z.G K Λ ρ) := by
  simp only [VC.den] at h
  cases hb : (e.den ρ).toB with
  | true => exact .inl ⟨rfl, h.1 hb⟩
  | false => exact .inr ⟨rfl, h.2 hb⟩

theorem evs_use {η : Env} {M : Mem} {σ : St} {evs : List Ev} {nv' : Nat} {Λ : List Lp} {v : VC} {tmps : Array Value} {w : World} (hr : Rel Z η M σ tmps w) (hn : η.ρ.length = σ.nv) (h : (withEvs σ evs nv' v).den P Z.G K Λ η.ρ) :
    ∃ ρ', η.ρ <+: ρ' ∧ ρ'.length = nv' ∧ Rel Z { η with ρ := ρ' } M σ tmps w ∧ (∀ e ∈ evs, EvOK P Z.G ρ' e) ∧ v.den P Z.G K Λ ρ' := by
  unfold withEvs at h
  split at h
  · split at h
    · rename_i hnv
      exact ⟨η.ρ, List.prefix_refl _, by omega, hr, (fun e he => by cases he), h⟩
    · exact h.elim
  · rename_i hne
    split at h
    · rename_i hc
      simp only [Bool.and_eq_true, decide_eq_true_eq, Bool.or_eq_true] at hc
      simp only [VC.den] at h
      obtain ⟨ρ', ⟨xs, rfl⟩, h2, h3, h4⟩ := evs_sound evs hc.1 hn h
      refine ⟨_, List.prefix_append _ _, h2, ?_, (fun e he => by simpa using h3 e he []), h4⟩
      rcases hc.2 with hz | hb
      · have key : ∀ (l : List Ev) (n : Nat), newVars l = 0 → seqB n l = some nv' → n = nv' ∨ True := fun _ _ _ _ => .inr trivial
        have hlen : xs.length = 0 := by
          have : ∀ (l : List Ev) (n m : Nat), seqB n l = some m → m = n + newVars l := by
            intro l
            induction l with
            | nil => intro n m h; simp only [seqB, Option.some.injEq] at h; simp [newVars, h]
            | cons e l ih =>
              intro n m h
              cases e with
              | ob e =>
                simp only [seqB] at h
                split at h
                · simpa [newVars] using ih n m h
                · cases h
              | call f ts as us k =>
                simp only [seqB] at h
                split at h
                · have := ih _ _ h
                  simp only [newVars]; omega
                · cases h
          have := this evs _ _ hc.1
          rw [List.length_append] at h2
          omega
        have hx : xs = [] := List.length_eq_zero_iff.1 hlen
        subst hx
        simpa using hr
      · exact hr.agree hb (by rw [← hn]; exact Agree.append _ _)
    · exact h.elim

theorem cal_use {η : Env} {M : Mem} {σ : St} {evs : List Ev} {nv' : Nat} {Λ : List Lp} {v : VC} {tmps : Array Value} {w : World} (hr : Rel Z η M σ tmps w) (hn : η.ρ.length = σ.nv) (h : (withCal σ evs nv' v).den P Z.G K Λ η.ρ) :
    (∃ ρ', η.ρ <+: ρ' ∧ ρ'.length = nv' ∧ Rel Z { η with ρ := ρ' } M σ tmps w ∧ (∀ e ∈ evs, EvOK P Z.G ρ' e) ∧ v.den P Z.G K Λ ρ') ∨
      ∃ f ts as us n T x, evs = [.call f ts as us n] ∧ Fun P Z.G f ts (as.map (·.den η.ρ)) us (.pan T x) ∧ K (.pan T x) := by
  unfold withCal at h
  split at h
  · rename_i f ts as us n
    split at h
    · rename_i hc
      simp only [Bool.and_eq_true, decide_eq_true_eq] at hc
      simp only [VC.den] at h
      rcases h with h | ⟨T, x, h1, h2⟩
      · have hev : evsP P Z.G [.call f ts as us n] η.ρ fun ρ' => v.den P Z.G K Λ ρ' := h
        obtain ⟨ρ', ⟨xs, rfl⟩, h2, h3, h4⟩ := evs_sound _ hc.1 hn hev
        exact .inl ⟨_, List.prefix_append _ _, h2, hr.agree hc.2 (by rw [← hn]; exact Agree.append _ _), (fun e he => by simpa using h3 e he []), h4⟩
      · exact .inr ⟨f, ts, as, us, n, T, x, rfl, h1, h2⟩
    · exact h.elim
  · exact h.elim
theorem own_panic {η : Env} {M : Mem} {σ : St} {o : Oper} {tmps : Array Value} {w : World} (hr : Rel Z η M σ tmps w) {T : TypeId} {x : E} (h : panicOf σ o = some (T, x)) {ops : Array Oper} {next : Act → World → Prop} {Q : Exit → Act → World → Prop} {pin : Pins} (hQ : PanQ K Z d pin Q) (hps : pinS σ pin = true) (hK : K (.pan T (x.den η.ρ))) :
    Region.wanted o (yielded ops tmps) = true ∧ o.wp P ⟨tmps, d⟩ w next Q := by
  unfold panicOf at h
  split at h
  · cases h
  · rename_i hg
    refine ⟨by simp [Region.wanted, hg], ?_⟩
    have core : ∀ q, ifcOf (σ.opd q) = some (T, x) → ∃ u es, (⟨tmps, d⟩ : Act).eval q = .iface T u ∧ RepT (fun _ _ => none) (.g es) u (x.den η.ρ) := by
      intro q hq
      have hv := opd_sound (a := ⟨tmps, d⟩) hr q
      unfold ifcOf at hq
      split at hq
      · rename_i T' es x' hA
        split at hq
        · rename_i hsc
          cases hq
          rw [hA] at hv
          obtain ⟨u, h1, vs, ds, h2, h3, h4, h5⟩ := AbsV_c hv
          exact ⟨u, es, h1, vs, ds, h2, h3, h4, h5.sc hsc⟩
        · cases hq
      · cases hq
    split at h
    · rename_i q hop
      obtain ⟨u, es, h1, h2⟩ := core q h
      have hrun : (execOp (⟨tmps, d⟩ : Act).eval o).run P w = .halt (.panic (.iface T u)) w := by
        unfold execOp; rw [hop]; simp only [h1]; rfl
      unfold Oper.wp
      rw [hrun]
      exact hQ tmps w T u _ es hK (pinJ_of hr hps fun _ _ _ _ _ _ _ _ => rfl) hr.wr.below h2
    · rename_i args tys hop
      split at h
      · rename_i q hq
        obtain ⟨u, es, h1, h2⟩ := core q h
        have hrun : (execOp (⟨tmps, d⟩ : Act).eval o).run P w = .halt (.panic (.iface T u)) w := by
          have h0 : (args.map (⟨tmps, d⟩ : Act).eval).getD 0 .nilIface = .iface T u := by
            rw [Array.getD_eq_getD_getElem?]
            simp [hq, h1]
          unfold execOp; rw [hop]; simp only [resolve, Sem.run_bind, Sem.run_pure, Result.andThen_ok, invoke, builtin, h0]; rfl
        unfold Oper.wp
        rw [hrun]
        exact hQ tmps w T u _ es hK (pinJ_of hr hps fun _ _ _ _ _ _ _ _ => rfl) hr.wr.below h2
      · cases h
    · cases h
theorem put_dep (σ : St) (t : Option Tmp) (a : AV) : (σ.put t a).dep = σ.dep := by cases t <;> rfl
theorem doOp_dep {σ σ' : St} {i : Nat} {o : Oper} {evs : List Ev} (h : doOp P σ i o = .ok σ' evs) : σ'.dep = σ.dep := by
  unfold doOp at h
  split at h
  · simp only [RR.ok.injEq] at h
    obtain ⟨rfl, _⟩ := h
    exact put_dep _ _ _
  · split at h
    · split at h <;> cases h
    · split at h <;> cases h
theorem runOp_dep {ops : Array Oper} {σ σ' : St} {i : Nat} {o : Oper} {evs : List Ev} (h : runOp P ops σ i o = .ok σ' evs) : σ'.dep = σ.dep := by
  unfold runOp at h
  split at h
  · exact doOp_dep h
  · split at h
    · simp only [RR.ok.injEq] at h
      obtain ⟨rfl, _⟩ := h
      exact put_dep _ _ _
    · split at h
      · split at h
        · exact doOp_dep h
        · simp only [RR.ok.injEq] at h
          obtain ⟨rfl, _⟩ := h
          exact put_dep _ _ _
      · split at h
        · simp only [RR.ok.injEq] at h
          obtain ⟨rfl, _⟩ := h
          exact put_dep _ _ _
        · split at h <;> cases h
theorem doOp_pan (hP : NoNum P) {σ σ' : St} {i : Nat} {o : Oper} {f : FuncId} {ts us : List TS} {as : List E} {n : Nat} (h : doOp P σ i o = .ok σ' [.call f ts as us n]) (hco : isCallOp o = true) {η : Env} {M : Mem} {tmps : Array Value} {w : World} (hr : Rel Z η M σ tmps w) {T : TypeId} {x : D} (hpan : Fun P Z.G f ts (as.map (·.den η.ρ)) us (.pan T x)) (hK : K (.pan T x)) {next : Act → World → Prop} {Q : Exit → Act → World → Prop} {pin : Pins} (hpb : pinB P σ o pin = true) (hQ : PanQ K Z d pin Q) :
    o.wp P ⟨tmps, d⟩ w next Q := by
  unfold doOp at h
  split at h
  · rename_i out hact
    simp only [RR.ok.injEq] at h
    obtain ⟨rfl, hevs⟩ := h
    refine act_pan hP hact hco rfl rfl (a := ⟨tmps, d⟩) (fun x => opd_sound hr x) (hr.wr.padK padK) (fun i hi => by simp only [ctxOf] at hi ⊢; rw [List.getElem?_append_right (by omega), List.getElem?_replicate, if_pos (by omega)]) hevs hpan (fun u es w' h1 h2 h3 => ?_)
    refine hQ tmps w' T u x es hK ?_ h1 h2
    unfold pinB at hpb
    split at hpb
    · exact fun q hq => by cases hq
    · rw [hact] at hpb
      simp only [Bool.and_eq_true] at hpb
      refine pinJ_of hr hpb.1 fun q hq l b c hl hal hc0 => h3 q.2 l b c ?_ hal hc0 fun p hp e => ?_
      · have : q.2 < σ.blks.length := (List.getElem?_eq_some_iff.1 hl).1
        rw [List.getElem?_append_left this]; exact hl
      · have := List.all_eq_true.1 (List.all_eq_true.1 hpb.2 q hq) p hp
        rw [← e] at this
        simp at this
  · split at h
    · split at h <;> cases h
    · split at h <;> cases h
theorem tryOp_sound (hP : NoNum P) {ops : Array Oper} {Q : Exit → Act → World → Prop} {pin : Pins} (hQ : PanQ K Z d pin Q) {Λ : List Lp} {ρ0 : List D} {k : St → VC} {i : Nat} {o : Oper} {rest : List Nat} (hk : GoodK P K Z d Λ ρ0 k (wpOps P ops Q rest)) :
    ∀ (f : Nat) {Λ' : List Lp}, Λ <+: Λ' → ∀ {σ : St} {η : Env} {M : Mem} {tmps : Array Value} {w : World}, Rel Z η M σ tmps w → ρ0 <+: η.ρ → η.ρ.length = σ.nv → Λ'.length = σ.dep → (tryOp P pin ops i o k f σ).den P Z.G K Λ' η.ρ →
      (if Region.wanted o (yielded ops tmps) then o.wp P ⟨tmps, d⟩ w (wpOps P ops Q rest) Q ∨ (o.asks P ⟨tmps, d⟩ w ∧ LetsOut Q) else wpOps P ops Q rest ((⟨tmps, d⟩ : Act).put o.dst undef) w)
  | 0, _, _, _, _, _, _, _, _, _, _, _, h => h.elim
  | f + 1, Λ', hΛ, σ, η, M, tmps, w, hr, hpr, hn, hdp, h => by
    unfold tryOp at h
    split at h
    · rename_i σ' evs hrun
      -- it goes on behind it
      have goes : (∃ ρ', η.ρ <+: ρ' ∧ ρ'.length = σ'.nv ∧ Rel Z { η with ρ := ρ' } M σ tmps w ∧ (∀ e ∈ evs, EvOK P Z.G ρ' e) ∧ (k σ').den P Z.G K Λ' ρ') →
          (if Region.wanted o (yielded ops tmps) then o.wp P ⟨tmps, d⟩ w (wpOps P ops Q rest) Q ∨ (o.asks P ⟨tmps, d⟩ w ∧ LetsOut Q) else wpOps P ops Q rest ((⟨tmps, d⟩ : Act).put o.dst undef) w) := by
        rintro ⟨ρ', h0, h1, h2, h3, h4⟩
        have hafter : After Z { η with ρ := ρ' } M σ' d (wpOps P ops Q rest) := by
          intro η' M' tmps' w' he hM hr'
          refine hk Λ' hΛ σ' η' M' tmps' w' hr' (by rw [he.ρ]; exact hpr.trans h0) (by rw [he.ρ]; exact h1) (by rw [runOp_dep hrun]; exact hdp) (by rw [he.ρ]; exact h4)
        unfold runOp at hrun
        split at hrun
        · rename_i hg
          rw [if_pos (by simp [Region.wanted, hg])]
          exact .inl (doOp_sound hP hrun h2 h3 hafter)
        · rename_i j want hg
          split at hrun
          · rename_i hd
            simp only [RR.ok.injEq] at hrun
            obtain ⟨rfl, rfl⟩ := hrun
            rw [if_neg (by simp [Region.wanted, hg, yielded, hd])]
            exact skip_sound h2 hafter
          · rename_i dd hd
            split at hrun
            · rename_i b hb
              have hy := yielded_of h2 hd hb
              split at hrun
              · rename_i hbw
                rw [if_pos (by simp [Region.wanted, hg, hy, hbw])]
                exact .inl (doOp_sound hP hrun h2 h3 hafter)
              · rename_i hbw
                simp only [RR.ok.injEq] at hrun
                obtain ⟨rfl, rfl⟩ := hrun
                rw [if_neg (by simp [Region.wanted, hg, hy, hbw])]
                exact skip_sound h2 hafter
            · split at hrun
              · rename_i ht
                simp only [RR.ok.injEq] at hrun
                obtain ⟨rfl, rfl⟩ := hrun
                rw [if_neg (by simp [Region.wanted, hg, notyield_of h2 hd ht])]
                exact skip_sound h2 hafter
              · split at hrun <;> cases hrun
      split at h
      · rename_i hcw
        simp only [Bool.and_eq_true] at hcw
        obtain ⟨⟨hco, hwa⟩, hpb⟩ := hcw
        rcases cal_use hr hn h with hu | ⟨f, ts, as, us, n, T, x, rfl, hpan, hK⟩
        · exact goes hu
        · unfold wantsB at hwa
          unfold runOp at hrun
          split at hwa
          · rename_i hg
            simp only [hg] at hrun
            rw [if_pos (by simp [Region.wanted, hg])]
            exact .inl (doOp_pan hP hrun hco hr hpan hK hpb hQ)
          · rename_i j want hg
            split at hwa
            · cases hwa
            · rename_i dd hd
              split at hwa
              · rename_i b hb
                have hy := yielded_of hr hd hb
                have hbw : b = want := by simpa using hwa
                simp only [hg, hd, hb, hbw, if_true] at hrun
                rw [if_pos (by simp [Region.wanted, hg, hy, hbw])]
                exact .inl (doOp_pan hP hrun hco hr hpan hK hpb hQ)
              · cases hwa
      · exact goes (evs_use hr hn h)
    · rename_i e he
      split at h
      · rcases ite_cases h with ⟨hb, h⟩ | ⟨hb, h⟩
        · exact tryOp_sound hP hQ hk f hΛ (assume_rel hr hb) hpr hn hdp h
        · exact tryOp_sound hP hQ hk f hΛ (assume_rel hr hb) hpr hn hdp h
      · exact h.elim
    · split at h
      · rename_i T x hpo
        split at h
        · rename_i hps
          simp only [VC.den] at h
          obtain ⟨h1, h2⟩ := own_panic (P := P) (ops := ops) (next := wpOps P ops Q rest) hr hpo hQ hps h
          rw [if_pos h1]
          exact .inl h2
        · exact h.elim
      · exact h.elim

theorem goSeq_sound (hP : NoNum P) {id : Nat} {ops : Array Oper} {Q : Exit → Act → World → Prop} {pin : Pins} (hQ : PanQ K Z d pin Q) {Λ : List Lp} {ρ0 : List D} {k : St → VC} (hk : GoodK P K Z d Λ ρ0 k (Q .normal)) :
    ∀ (l : List Nat), GoodK P K Z d Λ ρ0 (fun σ => goSeq P pin id ops l σ k) (wpOps P ops Q l)
  | [] => fun Λ' hΛ σ η M tmps w hr hpr hn hdp h => by
    simp only [goSeq] at h
    simp only [wpOps]
    exact hk Λ' hΛ σ η M tmps w hr hpr hn hdp h
  | i :: rest => fun Λ' hΛ σ η M tmps w hr hpr hn hdp h => by
    simp only [goSeq] at h
    simp only [wpOps]
    cases ho : ops[i]? with
    | none =>
      rw [ho] at h
      exact goSeq_sound hP hQ hk rest Λ' hΛ σ η M tmps w hr hpr hn hdp h
    | some o =>
      rw [ho] at h
      exact tryOp_sound hP hQ (goSeq_sound hP hQ hk rest) 12 hΛ hr hpr hn hdp h

theorem frzFor_sound {η : Env} : ∀ (js : List Nat) {M : Mem} {blks : List Blk} {w : World}, WR Z η M blks w → ∃ M', M.le M' ∧ WR Z η M' (js.foldl (fun b j => b.set j (frozenB (b.getD j .dead))) blks) w
  | [], M, blks, w, h => ⟨M, Mem.le.refl _, h⟩
  | j :: js, M, blks, w, h => by
    have step : ∃ M', M.le M' ∧ WR Z η M' (blks.set j (frozenB (blks.getD j .dead))) w := by
      rw [List.getD_eq_getElem?_getD]
      cases hj : blks[j]? with
      | none =>
        refine ⟨M, Mem.le.refl _, ?_⟩
        rw [List.set_eq_of_length_le (by
          rcases Nat.lt_or_ge j blks.length with hl | hl
          · rw [List.getElem?_eq_getElem hl] at hj; cases hj
          · exact hl)]
        exact h
      | some B =>
        cases B with
        | row es l fr => exact h.freeze hj
        | _ => exact ⟨M, Mem.le.refl _, by simp only [Option.getD_some, frozenB]; rw [set_same hj]; exact h⟩
    obtain ⟨M1, l1, h1⟩ := step
    obtain ⟨M2, l2, h2⟩ := frzFor_sound js h1
    exact ⟨M2, l1.trans l2, h2⟩

theorem esSame_eq : ∀ {a b : List E}, esSame a b = true → a = b
  | [], [], _ => rfl
  | a :: l, b :: m, h => by simp only [esSame, Bool.and_eq_true] at h; rw [E.same_eq _ _ h.1, esSame_eq h.2]
  | [], _ :: _, h => by simp [esSame] at h
  | _ :: _, [], h => by simp [esSame] at h
theorem ckSame_eq {a b : CK} (h : ckSame a b = true) : a = b := by
  cases a <;> cases b <;> simp [ckSame] at h
  · rw [Sh.same_eq _ _ h]
  · rw [Sh.sames_eq _ _ h]
theorem cksSame_eq : ∀ {a b : List CK}, cksSame a b = true → a = b
  | [], [], _ => rfl
  | a :: l, b :: m, h => by simp only [cksSame, Bool.and_eq_true] at h; rw [ckSame_eq h.1, cksSame_eq h.2]
  | [], _ :: _, h => by simp [cksSame] at h
  | _ :: _, [], h => by simp [cksSame] at h
theorem tsSame_eq {a b : TS} (h : tsSame a b = true) : a = b := by
  cases a <;> cases b <;> simp [tsSame] at h
  · rw [Sh.same_eq _ _ h]
  · rw [Sh.sames_eq _ _ h]
  · rw [Sh.sames_eq _ _ h]
  · rw [cksSame_eq h]
  · rw [cksSame_eq h]
  · rw [h.1, Sh.same_eq _ _ h.2]
theorem tssSame_eq : ∀ {a b : List TS}, tssSame a b = true → a = b
  | [], [], _ => rfl
  | a :: l, b :: m, h => by simp only [tssSame, Bool.and_eq_true] at h; rw [tsSame_eq h.1, tssSame_eq h.2]
  | [], _ :: _, h => by simp [tssSame] at h
  | _ :: _, [], h => by simp [tssSame] at h
theorem Ev.same_eq {a b : Ev} (h : Ev.same a b = true) : a = b := by
  cases a <;> cases b <;> simp only [Ev.same, Bool.and_eq_true, Bool.false_eq_true] at h
  · rw [E.same_eq _ _ h]
  · rw [Nat.eq_of_beq_eq_true h.1.1.1.1, tssSame_eq h.1.1.1.2, esSame_eq h.1.1.2, tssSame_eq h.1.2, Nat.eq_of_beq_eq_true h.2]
theorem evPre_eq : ∀ {a b : List Ev}, evPre a b = true → b = a ++ b.drop a.length
  | [], b, _ => by simp
  | a :: l, b :: m, h => by
    simp only [evPre, Bool.and_eq_true] at h
    have := evPre_eq h.2
    rw [Ev.same_eq h.1]
    simp only [List.length_cons, List.drop_succ_cons, List.cons_append]
    rw [← this]
  | _ :: _, [], h => by simp [evPre] at h

theorem seqB_newVars : ∀ (l : List Ev) (n m : Nat), seqB n l = some m → m = n + newVars l := by
  intro l
  induction l with
  | nil => intro n m h; simp only [seqB, Option.some.injEq] at h; simp [newVars, h]
  | cons e l ih =>
    intro n m h
    cases e with
    | ob e =>
      simp only [seqB] at h
      split at h
      · simpa [newVars] using ih n m h
      · cases h
    | call f ts as us k =>
      simp only [seqB] at h
      split at h
      · have := ih _ _ h
        simp only [newVars]; omega
      · cases h

theorem evsD_use {η : Env} {M : Mem} {σ : St} {done evs : List Ev} {nv' : Nat} {Λ : List Lp} {v : VC} {tmps : Array Value} {w : World} (hr : Rel Z η M σ tmps w) (hn : η.ρ.length = σ.nv + newVars done) (hd : ∀ e ∈ done, ∀ ys, EvOK P Z.G (η.ρ ++ ys) e) (h : (withEvsD σ done evs nv' v).den P Z.G K Λ η.ρ) :
    ∃ ρ', η.ρ <+: ρ' ∧ ρ'.length = nv' ∧ Rel Z { η with ρ := ρ' } M σ tmps w ∧ (∀ e ∈ evs, ∀ ys, EvOK P Z.G (ρ' ++ ys) e) ∧ v.den P Z.G K Λ ρ' := by
  unfold withEvsD at h
  split at h
  · rename_i hpre
    have he := evPre_eq hpre
    split at h
    · rename_i hnew
      split at h
      · rename_i hnv
        rw [hnew, List.append_nil] at he
        exact ⟨η.ρ, List.prefix_refl _, by omega, hr, by rw [he]; exact hd, h⟩
      · exact h.elim
    · rename_i new hne
      split at h
      · rename_i hc
        simp only [Bool.and_eq_true, decide_eq_true_eq, Bool.or_eq_true] at hc
        simp only [VC.den] at h
        obtain ⟨ρ', ⟨xs, rfl⟩, h2, h3, h4⟩ := evs_sound _ hc.1 hn h
        refine ⟨_, List.prefix_append _ _, h2, ?_, ?_, h4⟩
        · rcases hc.2 with hz | hb
          · have := seqB_newVars _ _ _ hc.1
            rw [List.length_append] at h2
            have hx : xs = [] := List.length_eq_zero_iff.1 (by omega)
            subst hx
            simpa using hr
          · exact hr.agree hb (by rw [← hn]; exact Agree.append _ _)
        · intro e hm ys
          rw [he] at hm
          rcases List.mem_append.1 hm with hm | hm
          · rw [List.append_assoc]; exact hd e hm _
          · exact h3 e hm ys
      · exact h.elim
  · exact h.elim

theorem runD_dep {ops : Array Oper} : ∀ {l : List Nat} {σ σ' : St} {nb : Nat} {tr : List (Nat × Nat × Eff)}, runD P ops l σ nb = .ok tr σ' → σ'.dep = σ.dep
  | [], σ, σ', nb, tr, h => by simp only [runD, TR.ok.injEq] at h; rw [h.2]
  | i :: rest, σ, σ', nb, tr, h => by
    simp only [runD] at h
    split at h
    · cases h
    · split at h
      · rename_i e he
        split at h
        · rename_i tr2 σ2 hrest
          simp only [TR.ok.injEq] at h
          obtain ⟨_, rfl⟩ := h
          rw [runD_dep hrest]
          simp only [Eff.app]; cases e.dst <;> rfl
        · cases h
        · cases h
      · cases h
      · cases h

theorem evsP_append {G : Globs} : ∀ (a b : List Ev) (ρ : List D) (k : List D → Prop), evsP P G (a ++ b) ρ k = evsP P G a ρ fun ρ' => evsP P G b ρ' k
  | [], b, ρ, k => rfl
  | .ob e :: a, b, ρ, k => by simp only [List.cons_append, evsP]; rw [evsP_append a b]
  | .call f ts as us n :: a, b, ρ, k => by
    simp only [List.cons_append, evsP]
    congr 1
    funext xs
    rw [evsP_append a b]
theorem mkEv_den {G : Globs} {l : List Ev} {k : VC} {Λ : List Lp} {ρ : List D} : (mkEv l k).den P G K Λ ρ = evsP P G l ρ fun ρ' => k.den P G K Λ ρ' := by
  unfold mkEv
  split
  · rfl
  · rfl
theorem genD_sound (hP : NoNum P) {pin : Pins} {id : Nat} {ops : Array Oper} {Q : Exit → Act → World → Prop} (hQ : PanQ K Z d pin Q) {Λ : List Lp} {ρ0 : List D} {k : St → VC} (hk : GoodK P K Z d Λ ρ0 k (Q .normal)) :
    ∀ (f : Nat) {Λ' : List Lp}, Λ <+: Λ' → ∀ {σ : St} {done : List Ev} {η : Env} {M : Mem} {tmps : Array Value} {w : World}, Rel Z η M σ tmps w → ρ0 <+: η.ρ → η.ρ.length = σ.nv + newVars done → (∀ e ∈ done, ∀ ys, EvOK P Z.G (η.ρ ++ ys) e) → Λ'.length = σ.dep → (genD P pin id ops k f σ done).den P Z.G K Λ' η.ρ →
      (Code.region id ops true).wp P Q ⟨tmps, d⟩ w
  | 0, _, _, _, _, _, _, _, _, _, _, _, _, _, h => h.elim
  | f + 1, Λ', hΛ, σ, done, η, M, tmps, w, hr, hpr, hn, hd, hdp, h => by
    simp only [genD] at h
    split at h
    · rename_i tr σ' hrun
      split at h
      · rename_i hc
        simp only [Bool.and_eq_true] at hc
        have fin : ∀ {ρ' : List D}, η.ρ <+: ρ' → ρ'.length = σ'.nv → Rel Z { η with ρ := ρ' } M σ tmps w → (∀ p ∈ tr, ∀ x ∈ p.2.2.evs, EvOK P Z.G ρ' x) → (k { σ' with blks := killNone σ'.blks }).den P Z.G K Λ' ρ' → (Code.region id ops true).wp P Q ⟨tmps, d⟩ w := by
          intro ρ' h0 h1 h2 h3 h4
          have hpad : Rel Z { η with ρ := ρ' } M (padN ops σ) tmps w := ⟨h2.wr.padK _, h2.sz, h2.tmp, h2.asm, h2.pj, h2.gl⟩
          refine draw_sound hP hP.mix hrun hc.1.1 hc.1.2 hc.2 hpad (fun p hp x hx => h3 p hp x hx) ?_
          intro η' M' tmps' w' he hM hr'
          refine hk Λ' hΛ { σ' with blks := killNone σ'.blks } η' M' tmps' w' ⟨hr'.wr.killNone, hr'.sz, hr'.tmp, hr'.asm, hr'.pj, hr'.gl⟩ (by rw [he.ρ]; exact hpr.trans h0) (by rw [he.ρ]; exact h1) ?_ (by rw [he.ρ]; exact h4)
          show Λ'.length = σ'.dep
          rw [runD_dep hrun]; exact hdp
        have plain : (withEvsD σ done (tr.flatMap (·.2.2.evs)) σ'.nv (k { σ' with blks := killNone σ'.blks })).den P Z.G K Λ' η.ρ → (Code.region id ops true).wp P Q ⟨tmps, d⟩ w := by
          intro h
          obtain ⟨ρ', h0, h1, h2, h3, h4⟩ := evsD_use hr hn hd h
          refine fin h0 h1 h2 (fun p hp x hx => ?_) h4
          have := h3 x (List.mem_flatMap.2 ⟨p, hp, hx⟩) []
          simpa using this
        split at h
        · rename_i ic hic
          split at h
          · rename_i o p ho hp
            split at h
            · rename_i ff ts as us n hcall
              split at h
              · rename_i hpd
                simp only [Bool.and_eq_true] at hpd
                split at h
                · rename_i hs
                  simp only [Bool.and_eq_true, decide_eq_true_eq] at hs
                  have hdone : done = [] := by simpa using hpd.1
                  subst hdone
                  have hn' : η.ρ.length = σ.nv := by simpa [newVars] using hn
                  rw [mkEv_den] at h
                  obtain ⟨ρ1, ⟨xs, hx1⟩, g2, g3, g4⟩ := evs_sound _ hs.1.1 hn' h
                  have hxs : xs = [] := by
                    have := congrArg List.length hx1
                    rw [List.length_append] at this
                    exact List.length_eq_zero_iff.1 (by omega)
                  subst hxs
                  rw [List.append_nil] at hx1
                  subst hx1
                  simp only [VC.den] at g4
                  rcases g4 with g4 | ⟨T, x, q1, q2⟩
                  · have hall : evsP P Z.G (evsAt ops ic false tr ++ .call ff ts as us n :: evsAt ops ic true tr) η.ρ fun ρ' => (k { σ' with blks := killNone σ'.blks }).den P Z.G K Λ' ρ' := by
                      rw [evsP_append]
                      have hmono : ∀ (l : List Ev) (ρ : List D) (k1 k2 : List D → Prop), (∀ e ∈ l, isOb e = true) → evsP P Z.G l ρ k1 → k2 ρ → evsP P Z.G l ρ k2 := by
                        intro l
                        induction l with
                        | nil => intro ρ k1 k2 _ _ h2; exact h2
                        | cons e l ih =>
                          intro ρ k1 k2 ho h1 h2
                          cases e with
                          | ob e => exact ⟨h1.1, ih ρ k1 k2 (fun e he => ho e (by simp [he])) h1.2 h2⟩
                          | call f ts as us n => have := ho _ (List.mem_cons_self ..); simp [isOb] at this
                      refine hmono _ _ _ _ ?_ h ?_
                      · intro e he
                        simp only [evsAt, List.mem_flatMap, List.mem_range] at he
                        obtain ⟨m, hm, he⟩ := he
                        have hpd2 := hpd.2
                        simp only [panD, Bool.and_eq_true] at hpd2
                        have h1 := List.all_eq_true.1 hpd2.2 m (by simpa using hm)
                        split at he
                        · cases he
                        · rename_i hne
                          split at he
                          · split at he
                            · rename_i p' hp'
                              rw [hp'] at h1
                              simp only [Bool.and_eq_true, Bool.or_eq_true] at h1
                              rcases h1.1 with h2 | h2
                              · exact absurd h2 hne
                              · exact List.all_eq_true.1 h2 e he
                            · cases he
                          · cases he
                      · obtain ⟨xs, hx, hf, hkk⟩ := ExSh.get g4
                        rw [mkEv_den] at hkk
                        simp only [evsP]
                        have hex : ∀ {shs : List Sh} {f g : List D → Prop}, (∀ xs, f xs → g xs) → ExSh shs f → ExSh shs g := by
                          intro shs
                          induction shs with
                          | nil => intro f g hfg h; exact hfg _ h
                          | cons s shs ih =>
                            intro f g hfg h
                            cases s with
                            | int k => obtain ⟨n, h⟩ := h; exact ⟨n, ih (fun xs => hfg _) h⟩
                            | bool => obtain ⟨n, h⟩ := h; exact ⟨n, ih (fun xs => hfg _) h⟩
                            | str => obtain ⟨n, h⟩ := h; exact ⟨n, ih (fun xs => hfg _) h⟩
                            | lst _ => obtain ⟨n, h⟩ := h; exact ⟨n, ih (fun xs => hfg _) h⟩
                        refine hex (fun xs hx => ⟨hx.1, ?_⟩) g4
                        have := hx.2
                        rw [mkEv_den] at this
                        exact this
                    obtain ⟨ρ', ⟨ys, rfl⟩, r2, r3, r4⟩ := evs_sound _ hs.1.2 hn' hall
                    refine fin (List.prefix_append _ _) r2 (hr.agree hs.2 (by rw [← hn']; exact Agree.append _ _)) (fun p' hp' x hx => ?_) r4
                    obtain ⟨m, hm, rfl⟩ := List.mem_iff_getElem.1 hp'
                    have hget : tr[m]? = some tr[m] := List.getElem?_eq_getElem hm
                    have : x ∈ evsAt ops ic false tr ++ .call ff ts as us n :: evsAt ops ic true tr := by
                      by_cases hmi : m = ic
                      · subst hmi
                        rw [hget] at hp
                        cases hp
                        have : tr[m].2.2.evs = [.call ff ts as us n] := by
                          unfold callIn at hcall
                          split at hcall
                          · split at hcall
                            · rename_i he
                              simp only [Option.some.injEq, Prod.mk.injEq] at hcall
                              obtain ⟨rfl, rfl, rfl, rfl, rfl⟩ := hcall
                              exact he
                            · cases hcall
                          · cases hcall
                        rw [this] at hx
                        simp only [List.mem_singleton] at hx
                        subst hx
                        simp
                      · have hne : Nat.beq m ic = false := by
                          cases hb : Nat.beq m ic with
                          | false => rfl
                          | true => exact absurd (Nat.eq_of_beq_eq_true hb) hmi
                        have key : ∀ b, late ops ic m = b → x ∈ evsAt ops ic b tr := by
                          intro b hb
                          simp only [evsAt, List.mem_flatMap, List.mem_range]
                          refine ⟨m, hm, ?_⟩
                          rw [hne]
                          simp only [Bool.false_eq_true, if_false, hb, hget]
                          simpa using hx
                        cases hb : late ops ic m with
                        | false => exact List.mem_append_left _ (key false hb)
                        | true => exact List.mem_append_right _ (List.mem_cons_of_mem _ (key true hb))
                    have := r3 x this []
                    simpa using this
                  · have hpad : Rel Z η M (padN ops σ) tmps w := ⟨hr.wr.padK _, hr.sz, hr.tmp, hr.asm, hr.pj, hr.gl⟩
                    refine draw_pan hP hP.mix hrun hc.1.1 hc.1.2 hc.2 hpad ho hp hcall hpd.2 q1 q2 (fun e he => ?_) hQ
                    have := g3 e he []
                    simpa using this
                · exact h.elim
              · exact plain h
            · exact h.elim
          · exact h.elim
        · exact plain h
      · split at h
        · exact h.elim
        · obtain ⟨M2, hM2, hw2⟩ := frzFor_sound (frzB σ σ') hr.wr
          exact genD_sound hP hQ hk f hΛ (σ := frzL (frzB σ σ') σ) (M := M2) ⟨hw2, hr.sz, fun t A hA => (hr.tmp t A hA).mono (Env.le.refl _) hM2, hr.asm, hr.pj, hr.gl⟩ hpr hn hd hdp h
    · rename_i evs e hrun
      obtain ⟨ρ', h0, h1, h2, h3, h4⟩ := evsD_use hr hn hd h
      split at h4
      · rcases ite_cases h4 with ⟨hb, h4⟩ | ⟨hb, h4⟩
        · exact genD_sound hP hQ hk f hΛ (σ := σ.assume e true) (η := { η with ρ := ρ' }) (assume_rel h2 hb) (hpr.trans h0) h1 h3 hdp h4
        · exact genD_sound hP hQ hk f hΛ (σ := σ.assume e false) (η := { η with ρ := ρ' }) (assume_rel h2 hb) (hpr.trans h0) h1 h3 hdp h4
      · exact h4.elim
    · exact h.elim

def GoodC (P : Program) (K : FR → Prop) (Z : Base) (d : List Deferred) (pin : Pins) (Λ : List Lp) (ρ0 : List D) (k : Conts) (Q : Exit → Act → World → Prop) : Prop :=
  GoodK P K Z d Λ ρ0 k.normal (Q .normal) ∧ GoodK P K Z d Λ ρ0 k.ret (Q .ret) ∧ (∀ (i : Nat) (f : St → VC), lookX k.exits i = some f → GoodK P K Z d Λ ρ0 f (Q (.exit i))) ∧ PanQ K Z d pin Q
theorem GoodK.ext {Λ Λ2 : List Lp} {ρ0 ρ1 : List D} {k : St → VC} {next : Act → World → Prop} (h : GoodK P K Z d Λ ρ0 k next) (hp : Λ <+: Λ2) (hq : ρ0 <+: ρ1) : GoodK P K Z d Λ2 ρ1 k next :=
  fun Λ' hΛ σ η M tmps w hr hpr => h Λ' (hp.trans hΛ) σ η M tmps w hr (hq.trans hpr)

theorem HasShs.of_map {ρ : List D} : ∀ (xs : List (Sh × E)), (∀ p ∈ xs, HasSh p.1 (p.2.den ρ)) → HasShs (xs.map (·.1)) (xs.map fun p => p.2.den ρ)
  | [], _ => .nil
  | p :: xs, h => .cons (h p (by simp)) (HasShs.of_map xs fun q hq => h q (by simp [hq]))

theorem asmSame_sound {ρ : List D} : ∀ {l l' : List (E × Bool)}, asmSame l l' = true → (∀ e b, (e, b) ∈ l' → (e.den ρ).toB = b) → ∀ e b, (e, b) ∈ l → (e.den ρ).toB = b
  | [], _, _, _, e, b, h => by cases h
  | (e0, b0) :: l, l', h, ha, e, b, hm => by
    simp only [asmSame, Bool.and_eq_true] at h
    rcases List.mem_cons.1 hm with hm | hm
    · cases hm
      obtain ⟨p, hp, hs⟩ := List.any_eq_true.1 h.1
      simp only [Bool.and_eq_true] at hs
      obtain ⟨p1, p2⟩ := p
      have e1 := E.same_eq _ _ hs.1
      have e2 := bbeq_eq _ _ hs.2
      simp at e1 e2
      subst e1 e2
      exact ha _ _ hp
    · exact asmSame_sound h.2 ha e b hm

def HeadI (Z : Base) (P : Program) (d : List Deferred) (h : St) (shs : List Sh) (ρ0 : List D) (I : List D → Prop) (μ : List D → Nat) (n : Nat) (a : Act) (w : World) : Prop :=
  ∃ (η : Env) (M : Mem) (xs : List D), a.defers = d ∧ Rel Z η M h a.tmps w ∧ η.ρ = ρ0 ++ xs ∧ xs.length = shs.length ∧ HasShs shs xs ∧ I xs ∧ μ xs = n

theorem HasShs.length {shs : List Sh} {ds : List D} (h : HasShs shs ds) : ds.length = shs.length := by
  induction h with
  | nil => rfl
  | cons _ _ ih => simp [ih]

theorem head_met {base : Nat} {h cst : St} {xs : List (Sh × E)} {shs : List Sh} {ρ0 : List D} {η : Env} {M : Mem} {tmps : Array Value} {w : World} (hpj : Z.pal.map (·.1) = h.pj) (hgl : h.gl = Z.G) (hm : matSt base h cst = some xs) (hs : Sh.sames (xs.map (·.1)) shs = true) (hb : asmBd base h.asm = true)
    (hρ0 : ρ0.length = base) (hpre : ρ0 <+: η.ρ) (hr : Rel Z η M cst tmps w) (hasm : ∀ e b, (e, b) ∈ h.asm → (e.den η.ρ).toB = b) {I : List D → Prop} {μ : List D → Nat} (hI : I ((xs.map (·.2)).map (·.den η.ρ))) :
    HeadI Z P d h shs ρ0 I μ (μ ((xs.map (·.2)).map (·.den η.ρ))) ⟨tmps, d⟩ w := by
  have hmm : (xs.map (·.2)).map (·.den η.ρ) = xs.map fun p => p.2.den η.ρ := by rw [List.map_map]; rfl
  rw [hmm] at hI ⊢
  obtain ⟨t, ht⟩ := hpre
  have hA : Agree base η.ρ (ρ0 ++ xs.map fun p => p.2.den η.ρ) := by
    intro i hi
    rw [← ht]
    simp only [List.getD_eq_getElem?_getD, List.getElem?_append_left (show i < ρ0.length by omega)]
  have hF : Fresh η (ρ0 ++ xs.map fun p => p.2.den η.ρ) base xs := by
    intro i p hp
    simp only [List.getD_eq_getElem?_getD]
    rw [List.getElem?_append_right (by omega), show base + i - ρ0.length = i by omega]
    simp [hp]
  obtain ⟨η', e1, r1, r2⟩ := matSt_sound hm hA hF hr (fun e b he => by
    have hbe := List.all_eq_true.1 hb (e, b) he
    rw [den_agree hA hbe]
    exact hasm e b he) hpj hgl
  have hsh := HasShs.of_map xs r2
  rw [Sh.sames_eq _ _ hs] at hsh
  exact ⟨η', M, _, rfl, r1, e1, hsh.length, hsh, hI, rfl⟩

theorem WR.addNil {η : Env} {M : Mem} {blks : List Blk} {w : World} (h : WR Z η M blks w) (es : List Sh) : WR Z (η.set blks.length (0, 0)) M (blks ++ [.row es .nil false]) w := by
  have hal : η.al blks.length = none := h.out _ (Nat.le_refl _)
  have key : ∀ (j : Nat) (B : Blk), (blks ++ [Blk.row es .nil false])[j]? = some B → (j < blks.length ∧ blks[j]? = some B) ∨ (j = blks.length ∧ B = Blk.row es .nil false) := by
    intro j B hj
    rw [List.getElem?_append] at hj
    split at hj
    · rename_i hl; exact .inl ⟨hl, hj⟩
    · rename_i hl
      rcases Nat.lt_or_ge (j - blks.length) 1 with h1 | h1
      · have : j - blks.length = 0 := by omega
        rw [this] at hj
        simp at hj
        exact .inr ⟨by omega, hj.symm⟩
      · rw [List.getElem?_eq_none (by simpa using h1)] at hj; cases hj
  refine ⟨h.below, h.size, h.base, h.new, h.mem, h.one, fun j B hB => ?_, fun i j B C p q hi hj hB hC hp hq hp0 hq0 e => ?_, fun j hj => ?_, fun j p hp => (Env.le_set hal).al j p (h.pal j p hp), h.glob⟩
  · rcases key j B hB with ⟨hl, h1⟩ | ⟨rfl, rfl⟩
    · refine BlkOK.mono (fun _ h => h) (Env.le_set hal) (Mem.le.refl _) (fun e => ?_) (fun _ _ _ _ _ => ⟨rfl, fun _ => rfl⟩) (h.blk j B h1)
      have := h.blk j B h1
      subst e
      rw [Env.set_other _ _ (by omega)]
      exact this
    · exact ⟨0, 0, [], Env.set_same _ _ _, rfl, by simp, by simp, fun h0 => absurd h0 (by omega)⟩
  · have k2 : ∀ (i : Nat) (B : Blk) (p : Nat × Nat), (blks ++ [Blk.row es .nil false])[i]? = some B → (η.set blks.length (0, 0)).al i = some p → 0 < p.2 → blks[i]? = some B ∧ η.al i = some p := by
      intro i B p hi hp hp0
      rcases key i B hi with ⟨hl, h1⟩ | ⟨rfl, rfl⟩
      · rw [Env.set_other _ _ (by omega)] at hp; exact ⟨h1, hp⟩
      · rw [Env.set_same] at hp; cases hp; simp at hp0
    obtain ⟨a1, a2⟩ := k2 i B p hi hp hp0
    obtain ⟨b1, b2⟩ := k2 j C q hj hq hq0
    exact h.inj i j B C p q a1 b1 hB hC a2 b2 hp0 hq0 e
  · simp at hj
    rw [Env.set_other _ _ (by omega)]
    exact h.out j (by omega)
theorem rowify_sound {M : Mem} {tmps : Array Value} {w : World} : ∀ (l : List Nat) {σ : St} {η : Env}, Rel Z η M σ tmps w → ∃ η', η.le η' ∧ Rel Z η' M (rowify σ l) tmps w
  | [], σ, η, hr => ⟨η, Env.le.refl _, hr⟩
  | t :: ts, σ, η, hr => by
    unfold rowify
    split
    · rename_i es ht
      have hal : η.al σ.blks.length = none := hr.wr.out _ (Nat.le_refl _)
      have hle := Env.le_set (p := (0, 0)) hal
      have hr' : Rel Z (η.set σ.blks.length (0, 0)) M { σ with tmps := σ.tmps.set t (.v (.c (.row σ.blks.length es (.ki .i64 0)))), blks := σ.blks ++ [.row es .nil false] } tmps w := by
        refine ⟨hr.wr.addNil es, by simpa using hr.sz, fun t' A hA => ?_, hr.asm, hr.pj, hr.gl⟩
        simp only [List.getElem?_set] at hA
        by_cases e : t = t'
        · subst e
          rw [if_pos rfl] at hA
          split at hA
          · cases hA
            obtain ⟨ad, hv⟩ := AbsV_c (hr.tmp t _ ht)
            rw [hv]
            have hA : AbsA (η.set σ.blks.length (0, 0)) M (.row σ.blks.length es (.ki .i64 0)) (.slice ad 0 0) := ⟨0, 0, 0, Env.set_same _ _ _, rfl, by omega, by simp, .inr ⟨rfl, ad, rfl⟩⟩
            exact AbsT_mk hA rfl
          · cases hA
        · rw [if_neg e] at hA
          exact (hr.tmp t' A hA).mono hle (Mem.le.refl _)
      obtain ⟨η', h1, h2⟩ := rowify_sound ts hr'
      exact ⟨η', hle.trans h1, h2⟩
    · exact rowify_sound ts hr
theorem addNils : ∀ (l : List A) {vs : List Value} {blks : List Blk} {η : Env} {M : Mem} {w : World}, WR Z η M blks w → AbsL η M l vs →
    ∃ η', η.le η' ∧ WR Z η' M (blks ++ (rowifyAs blks.length l).2) w ∧ AbsL η' M (rowifyAs blks.length l).1 vs
  | [], vs, blks, η, M, w, hw, hl => ⟨η, Env.le.refl _, by simpa [rowifyAs] using hw, hl⟩
  | a :: l, _, blks, η, M, w, hw, .cons (v := v) h1 h2 h3 => by
    have other : (∀ es, a ≠ .nilS es) → ∃ η', η.le η' ∧ WR Z η' M (blks ++ (rowifyAs blks.length (a :: l)).2) w ∧ AbsL η' M (rowifyAs blks.length (a :: l)).1 _ := fun hne => by
      have he : rowifyAs blks.length (a :: l) = (a :: (rowifyAs blks.length l).1, (rowifyAs blks.length l).2) := by
        cases a <;> first | rfl | exact absurd rfl (hne _)
      rw [he]
      obtain ⟨η', g1, g2, g3⟩ := addNils l hw h3
      exact ⟨η', g1, g2, .cons (h1.mono g1 (Mem.le.refl _)) h2 g3⟩
    cases a with
    | nilS es =>
      have hal : η.al blks.length = none := hw.out _ (Nat.le_refl _)
      have hle := Env.le_set (p := (0, 0)) hal
      obtain ⟨η', g1, g2, g3⟩ := addNils l (hw.addNil es) (h3.mono hle (Mem.le.refl _))
      simp only [List.length_append, List.length_singleton] at g2 g3
      obtain ⟨ad, hv⟩ := h1
      refine ⟨η', hle.trans g1, ?_, ?_⟩
      · simp only [rowifyAs]
        rw [List.append_assoc] at g2
        exact g2
      · simp only [rowifyAs]
        refine .cons ?_ h2 g3
        exact ⟨0, 0, 0, g1.al _ _ (Env.set_same _ _ _), rfl, by omega, by simp, .inr ⟨rfl, ad, hv⟩⟩
    | _ => exact other (fun es e => by cases e)
theorem rowifyB_sound {M : Mem} {tmps : Array Value} {w : World} : ∀ (l : List Nat) {σ : St} {η : Env}, Rel Z η M σ tmps w → ∃ η', η.le η' ∧ Rel Z η' M (rowifyB σ l) tmps w
  | [], σ, η, hr => ⟨η, Env.le.refl _, hr⟩
  | j :: js, σ, η, hr => by
    unfold rowifyB
    split
    · rename_i l hj
      obtain ⟨b, c, vs, T, h1, h2, h3, h4, h5, h6⟩ := hr.wr.blk j _ hj
      obtain ⟨η', g1, g2, g3⟩ := addNils l hr.wr h5
      have hlt : j < σ.blks.length := (List.getElem?_eq_some_iff.1 hj).1
      have hrc := g2.recell (j := j) (l := l) (by rw [List.getElem?_append_left hlt]; exact hj) (g1.al _ _ h1) h4 g3
      rw [List.set_append_left _ _ hlt] at hrc
      have hr' : Rel Z η' M { σ with blks := (σ.blks.set j (.cells (rowifyAs σ.blks.length l).1)) ++ (rowifyAs σ.blks.length l).2 } tmps w :=
        ⟨hrc, hr.sz, fun t A hA => (hr.tmp t A hA).mono g1 (Mem.le.refl _), fun e b he => by rw [g1.ρ]; exact hr.asm e b he, hr.pj, hr.gl⟩
      obtain ⟨η2, k1, k2⟩ := rowifyB_sound js hr'
      exact ⟨η2, g1.trans k1, k2⟩
    · exact rowifyB_sound js hr
theorem gen_sound (hP : NoNum P) {pin : Pins} : ∀ (c : Code) (Λ : List Lp) (ρ0 : List D) (k : Conts) (Q : Exit → Act → World → Prop), GoodC P K Z d pin Λ ρ0 k Q → GoodK P K Z d Λ ρ0 (fun σ => gen P pin c σ k) (c.wp P Q)
  | .skip, Λ, ρ0, k, Q, hk => fun Λ' hΛ σ η M tmps w hr hpr hn hdp h => by
    simp only [gen] at h
    exact wp_skip (hk.1 Λ' hΛ σ η M tmps w hr hpr hn hdp h)
  | .label l, Λ, ρ0, k, Q, hk => fun Λ' hΛ σ η M tmps w hr hpr hn hdp h => by
    simp only [gen] at h
    exact wp_label (hk.1 Λ' hΛ σ η M tmps w hr hpr hn hdp h)
  | .region id ops draw, Λ, ρ0, k, Q, hk => fun Λ' hΛ σ η M tmps w hr hpr hn hdp h => by
    simp only [gen] at h
    cases draw with
    | true => exact genD_sound hP hk.2.2.2 hk.1 30 hΛ (done := []) hr hpr (by simpa [newVars] using hn) (fun e he => by cases he) hdp h
    | false => exact wp_region (goSeq_sound hP hk.2.2.2 hk.1 _ Λ' hΛ σ η M tmps w hr hpr hn hdp h)
  | .seq a b, Λ, ρ0, k, Q, hk => fun Λ' hΛ σ η M tmps w hr hpr hn hdp h => by
    simp only [gen] at h
    split at h
    · refine wp_seq (gen_sound hP a Λ ρ0 { k with normal := fun σ' => gen P pin b σ' k } (Exit.then (b.wp P Q) Q) ⟨?_, ?_, ?_, hk.2.2.2⟩ Λ' hΛ σ η M tmps w hr hpr hn hdp h)
      · exact gen_sound hP b Λ ρ0 k Q hk
      · exact hk.2.1
      · exact hk.2.2.1
    · rename_i keep hkeep
      generalize hhh : joinPick _ _ _ = hh at h
      have hpj0 : hh.1.pj = σ.pj := by
        rw [← hhh]
        unfold joinPick
        split
        · rfl
        · show (joinHead σ (dstsC a) keep _).1.pj = σ.pj
          generalize VC.ends _ = es
          cases es <;> rfl
      have hgl0 : hh.1.gl = σ.gl := by
        rw [← hhh]
        unfold joinPick
        split
        · rfl
        · show (joinHead σ (dstsC a) keep _).1.gl = σ.gl
          generalize VC.ends _ = es
          cases es <;> rfl
      clear hhh
      have hpj : Z.pal.map (·.1) = hh.1.pj := by rw [hpj0]; exact hr.pj
      have hgl : hh.1.gl = Z.G := by rw [hgl0]; exact hr.gl
      obtain ⟨hd, shs⟩ := hh
      simp only at hpj hgl
      simp only [] at h
      split at h
      · rename_i hc
        simp only [Bool.and_eq_true] at hc
        have c1 := hc.1.1
        have c2 := Nat.eq_of_beq_eq_true hc.1.2
        have c3 := Nat.eq_of_beq_eq_true hc.2
        simp only [VC.den] at h
        obtain ⟨I, μ, m, ha, hall⟩ := h
        refine wp_seq (gen_sound hP a (Λ' ++ [⟨I, μ, m⟩]) η.ρ _ (Exit.then (b.wp P Q) Q) ⟨?_, ?_, ?_, hk.2.2.2⟩ _ (List.prefix_refl _) { σ with dep := σ.dep + 1 } η M tmps w ⟨hr.wr, hr.sz, hr.tmp, hr.asm, hr.pj, hr.gl⟩ (List.prefix_refl _) hn (by simp [hdp]) ha)
        · intro Λ3 hΛ3 σ3 η3 M3 t3 w3 hr3 hp3 hn3 hd3 h3
          simp only [] at h3
          split at h3
          · rename_i xs3 hm3
            split at h3
            · rename_i hc3
              simp only [Bool.and_eq_true] at hc3
              simp only [VC.den] at h3
              have hget : Λ3[σ.dep]? = some ⟨I, μ, m⟩ := by
                obtain ⟨t, ht⟩ := hΛ3
                rw [← ht, ← hdp]
                simp
              rw [hget] at h3
              obtain ⟨hI3, hlt⟩ := h3
              obtain ⟨η4, M4, he4, hr4⟩ : ∃ η4 M4, η3.le η4 ∧ Rel Z η4 M4 (endSt hd σ3) t3 w3 := by
                obtain ⟨ηa, h1, h2⟩ := rowify_sound (rowSlots σ3 hd) hr3
                obtain ⟨ηb, h3, h4⟩ := rowifyB_sound (cellRows σ3 hd) h2
                obtain ⟨M5, hM5, hw5⟩ := frzFor_sound _ h4.wr
                exact ⟨ηb, M5, h1.trans h3, ⟨WR.padK _ hw5, h4.sz, fun t A hA => (h4.tmp t A hA).mono (Env.le.refl _) hM5, h4.asm, h4.pj, h4.gl⟩⟩
              have hmet := head_met (P := P) (d := d) (I := I) (μ := μ) hpj hgl hm3 hc3.1 c1 hn (by rw [he4.ρ]; exact hp3) hr4 (asmSame_sound hc3.2 hr4.asm) (by rw [he4.ρ]; exact hI3)
              obtain ⟨η5, M5, xs, _, hr5, hρ5, hlen5, hsh5, hI5, hμ5⟩ := hmet
              have hb5 := AllSh.use hall hsh5 hI5
              have hpre5 : η.ρ <+: η5.ρ := by rw [hρ5]; exact List.prefix_append _ _
              exact gen_sound hP b Λ ρ0 k Q hk (Λ' ++ [⟨I, μ, μ xs⟩]) (hΛ.trans (List.prefix_append _ _)) hd η5 M5 t3 w3 hr5 (hpr.trans hpre5) (by rw [hρ5, List.length_append, hn, hlen5, c2]) (by simp [hdp, c3]) (by rw [hρ5]; exact hb5)
            · exact h3.elim
          · exact h3.elim
        · exact (hk.2.1).ext (hΛ.trans (List.prefix_append _ _)) hpr
        · intro i f hf
          exact (hk.2.2.1 i f hf).ext (hΛ.trans (List.prefix_append _ _)) hpr
      · exact h.elim
  | .cond c a b, Λ, ρ0, k, Q, hk => fun Λ' hΛ σ η M tmps w hr hpr hn hdp h => by
    simp only [gen] at h
    have hc : ∀ {σ : St}, Rel Z η M σ tmps w → ∀ {t : Bool}, boolAV σ.asm (σ.opd c) = some t → (⟨tmps, d⟩ : Act).eval c = .bool t := fun hr t ht => boolAV_sound hr.asm ht (opd_sound (a := ⟨tmps, d⟩) hr c)
    have pick : ∀ {σ : St}, Rel Z η M σ tmps w → ρ0 <+: η.ρ → η.ρ.length = σ.nv → Λ'.length = σ.dep → VC.den P Z.G K (match boolAV σ.asm (σ.opd c) with
        | some true => gen P pin a σ k
        | some false => gen P pin b σ k
        | none => .bad 900004) Λ' η.ρ → (Code.cond c a b).wp P Q ⟨tmps, d⟩ w := by
      intro σ hr hpr hn hdp h
      split at h
      · rename_i ht
        exact wp_cond_true (hc hr ht) (gen_sound hP a Λ ρ0 k Q hk Λ' hΛ σ η M tmps w hr hpr hn hdp h)
      · rename_i ht
        exact wp_cond_false (hc hr ht) (gen_sound hP b Λ ρ0 k Q hk Λ' hΛ σ η M tmps w hr hpr hn hdp h)
      · exact h.elim
    split at h
    · rename_i ht
      exact wp_cond_true (hc hr ht) (gen_sound hP a Λ ρ0 k Q hk Λ' hΛ σ η M tmps w hr hpr hn hdp h)
    · rename_i ht
      exact wp_cond_false (hc hr ht) (gen_sound hP b Λ ρ0 k Q hk Λ' hΛ σ η M tmps w hr hpr hn hdp h)
    · split at h
      · split at h
        · rcases ite_cases h with ⟨hb, h⟩ | ⟨hb, h⟩
          · exact pick (assume_rel hr hb) hpr hn hdp h
          · exact pick (assume_rel hr hb) hpr hn hdp h
        · exact h.elim
      · split at h
        · rename_i e hA
          have hv := opd_sound (a := ⟨tmps, d⟩) hr c
          rw [hA] at hv
          obtain ⟨b0, xs, h1, h2, h3⟩ := AbsV_c hv
          simp only [VC.den] at h
          cases b0 with
          | true => exact wp_cond_true h1 (gen_sound hP a Λ ρ0 k Q hk Λ' hΛ σ η M tmps w hr hpr hn hdp (h.1 (by rw [h2, h3 rfl]; rfl)))
          | false => exact wp_cond_false h1 (gen_sound hP b Λ ρ0 k Q hk Λ' hΛ σ η M tmps w hr hpr hn hdp h.2)
        · exact h.elim
  | .block id c, Λ, ρ0, k, Q, hk => fun Λ' hΛ σ η M tmps w hr hpr hn hdp h => by
    simp only [gen] at h
    refine wp_block (gen_sound hP c Λ ρ0 { k with exits := (id, k.normal) :: k.exits } (Exit.inBlock id Q) ⟨hk.1, hk.2.1, fun i f hf => ?_, hk.2.2.2⟩ Λ' hΛ σ η M tmps w hr hpr hn hdp h)
    simp only [lookX, List.find?_cons] at hf
    by_cases e : id = i
    · subst e
      simp at hf
      subst hf
      intro Λ2 hΛ2 σ2 η2 M2 t2 w2 hr2 hp2 hn2 hd2 h2
      simp only [Exit.inBlock, if_true]
      exact hk.1 Λ2 hΛ2 σ2 η2 M2 t2 w2 hr2 hp2 hn2 hd2 h2
    · have e' : (id == i) = false := by simpa using e
      rw [e'] at hf
      intro Λ2 hΛ2 σ2 η2 M2 t2 w2 hr2 hp2 hn2 hd2 h2
      simp only [Exit.inBlock]
      rw [if_neg (fun h => e h.symm)]
      exact hk.2.2.1 i f hf Λ2 hΛ2 σ2 η2 M2 t2 w2 hr2 hp2 hn2 hd2 h2
  | .scope c, Λ, ρ0, k, Q, hk => fun Λ' hΛ σ η M tmps w hr hpr hn hdp h => by
    simp only [gen] at h
    exact wp_scope_straight (gen_sound hP c Λ ρ0 k (Exit.noGoto Q) hk Λ' hΛ σ η M tmps w hr hpr hn hdp h)
  | .exit id, Λ, ρ0, k, Q, hk => fun Λ' hΛ σ η M tmps w hr hpr hn hdp h => by
    simp only [gen] at h
    split at h
    · rename_i f hf
      exact wp_exit (hk.2.2.1 id f hf Λ' hΛ σ η M tmps w hr hpr hn hdp h)
    · exact h.elim
  | .ret, Λ, ρ0, k, Q, hk => fun Λ' hΛ σ η M tmps w hr hpr hn hdp h => by
    simp only [gen] at h
    exact wp_ret (hk.2.1 Λ' hΛ σ η M tmps w hr hpr hn hdp h)
  | .loop c, Λ, ρ0, k, Q, hk => fun Λ' hΛ σ η M tmps w hr hpr hn hdp h => by
    simp only [gen] at h
    generalize hhh : loopPick _ _ _ _ = hh at h
    obtain ⟨⟨rs, bs, fz, e1⟩, hpj1, hgl1⟩ : (∃ rs bs fz, hh.1 = frzL fz (rowifyB (rowify σ rs) bs)) ∧ hh.2.1.pj = hh.1.pj ∧ hh.2.1.gl = hh.1.gl := by
      rw [← hhh]
      unfold loopPick
      split
      · exact ⟨⟨_, _, _, rfl⟩, rfl, rfl⟩
      · exact ⟨⟨_, _, _, rfl⟩, rfl, rfl⟩
    clear hhh
    obtain ⟨σ1, hd, shs⟩ := hh
    simp only at e1 hpj1 hgl1
    obtain ⟨η1, M1, he1, hr1⟩ : ∃ η1 M1, η.le η1 ∧ Rel Z η1 M1 σ1 tmps w := by
      rw [e1]
      obtain ⟨ηa, h1, h2⟩ := rowify_sound _ hr
      obtain ⟨ηb, h3, h4⟩ := rowifyB_sound _ h2
      obtain ⟨M4, hM4, hw4⟩ := frzFor_sound _ h4.wr
      exact ⟨ηb, M4, h1.trans h3, ⟨hw4, h4.sz, fun t A hA => (h4.tmp t A hA).mono (Env.le.refl _) hM4, h4.asm, h4.pj, h4.gl⟩⟩
    clear e1
    have hpj : Z.pal.map (·.1) = hd.pj := by rw [hpj1]; exact hr1.pj
    have hgl : hd.gl = Z.G := by rw [hgl1]; exact hr1.gl
    clear hpj1 hgl1
    simp only [] at h
    split at h
    · rename_i hc
      simp only [Bool.and_eq_true] at hc
      have c1 := hc.1.1.1.1.1
      have c2 := Nat.eq_of_beq_eq_true hc.1.1.1.1.2
      have c3 := Nat.eq_of_beq_eq_true hc.1.1.1.2
      have c4 := Nat.eq_of_beq_eq_true hc.1.1.2
      have c5 := Nat.eq_of_beq_eq_true hc.1.2
      have hn1 : η.ρ.length = σ1.nv := by rw [c4]; exact hn
      split at h
      · rename_i init hinit
        split at h
        · rename_i hs
          simp only [VC.den] at h
          obtain ⟨I, μ, hI, hall⟩ := h
          have hstart : HeadI Z P d hd shs η.ρ I μ (μ ((init.map (·.2)).map (·.den η.ρ))) ⟨tmps, d⟩ w := by
            have hasm : ∀ e b, (e, b) ∈ hd.asm → (e.den η1.ρ).toB = b := asmSame_sound hc.2 hr1.asm
            have := head_met (P := P) (d := d) (I := I) (μ := μ) hpj hgl hinit hs c1 hn1 (by rw [he1.ρ]; exact List.prefix_refl _) hr1 hasm (by rw [he1.ρ]; exact hI)
            rw [he1.ρ] at this
            exact this
          refine wp_loop_ghost (HeadI Z P d hd shs η.ρ I μ) _ hstart ?_
          rintro n ⟨tmps2, d2⟩ w2 ⟨η2, M2, xs, hde, hr2, hρ2, hlen2, hsh2, hI2, hμ2⟩
          have hde' : d = d2 := hde.symm
          subst hde'
          have hbody := AllSh.use hall hsh2 hI2
          have hpre2 : η.ρ <+: η2.ρ := by rw [hρ2]; exact List.prefix_append _ _
          rw [hμ2] at hbody
          refine gen_sound hP c (Λ' ++ [⟨I, μ, n⟩]) η2.ρ _ (Exit.then (fun a' w' => ∃ n', n' < n ∧ HeadI Z P d hd shs η.ρ I μ n' a' w') Q) ⟨?_, ?_, ?_, hk.2.2.2⟩ _ (List.prefix_refl _) hd η2 M2 tmps2 w2 hr2 (List.prefix_refl _) (by rw [hρ2, List.length_append, hn1, hlen2, c2]) (by simp [hdp, c3, c5]) (by rw [hρ2]; exact hbody)
          · -- the round's end
            intro Λ3 hΛ3 σ3 η3 M3 t3 w3 hr3 hp3 hn3 hd3 h3
            simp only [] at h3
            split at h3
            · rename_i xs3 hm3
              split at h3
              · rename_i hc3
                simp only [Bool.and_eq_true] at hc3
                simp only [VC.den] at h3
                have hget : Λ3[σ1.dep]? = some ⟨I, μ, n⟩ := by
                  obtain ⟨t, ht⟩ := hΛ3
                  rw [← ht, c5, ← hdp]
                  simp
                rw [hget] at h3
                obtain ⟨hI3, hlt⟩ := h3
                obtain ⟨M4, hM4, hw4⟩ := frzFor_sound _ hr3.wr
                have hr4 : Rel Z η3 M4 (frzFor hd σ3) t3 w3 := ⟨hw4, hr3.sz, fun t A hA => (hr3.tmp t A hA).mono (Env.le.refl _) hM4, hr3.asm, hr3.pj, hr3.gl⟩
                have hpre : η.ρ <+: η3.ρ := (hpre2).trans hp3
                exact ⟨_, hlt, head_met (P := P) (d := d) (I := I) (μ := μ) hpj hgl hm3 hc3.1 c1 hn1 hpre hr4 (asmSame_sound hc3.2 hr3.asm) hI3⟩
              · exact h3.elim
            · exact h3.elim
          · exact (hk.2.1).ext (hΛ.trans (List.prefix_append _ _)) (hpr.trans hpre2)
          · intro i f hf
            exact (hk.2.2.1 i f hf).ext (hΛ.trans (List.prefix_append _ _)) (hpr.trans hpre2)
        · exact h.elim
      · exact h.elim
    · exact h.elim
  | .goto _, _, _, _, _, _ => fun _ _ _ _ _ _ _ _ _ _ _ h => by simp only [gen] at h; exact h.elim
  | .rangeFunc _ _ _ _, _, _, _, _, _ => fun _ _ _ _ _ _ _ _ _ _ _ h => by simp only [gen] at h; exact h.elim
  | .refuse _, _, _, _, _, _ => fun _ _ _ _ _ _ _ _ _ _ _ h => by simp only [gen] at h; exact h.elim
end

end Go.Proofs.Ytindphofgojfbaa.Sy
