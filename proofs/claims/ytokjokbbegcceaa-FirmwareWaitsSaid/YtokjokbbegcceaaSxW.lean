/-
  A part of a symbolic walk that is proved sound: what the functions of a program do with data. No conditions.
-/
import Derived.Test.YtokjokbbegcceaaSxV
import Derived.Scope
namespace Go.Proofs.Ytokjokbbegcceaa.Sx
open Go.RowKit

section
variable {Z : Base} {P : Program} {K : List D → Prop} {d : List Deferred}

/-- A continuation that leads to what is wanted. -/
def GoodK (P : Program) (K : List D → Prop) (Z : Base) (d : List Deferred) (Λ : List Lp) (ρ0 : List D) (k : St → VC) (next : Act → World → Prop) : Prop :=
  ∀ (Λ' : List Lp), Λ <+: Λ' → ∀ (σ : St) (η : Env) (M : Mem) (tmps : Array Value) (w : World), Rel Z η M σ tmps w → ρ0 <+: η.ρ → η.ρ.length = σ.nv → Λ'.length = σ.dep → (k σ).den P K Λ' η.ρ → next ⟨tmps, d⟩ w

theorem assume_rel {η : Env} {M : Mem} {σ : St} {tmps : Array Value} {w : World} {e : E} {b : Bool} (h : Rel Z η M σ tmps w) (he : (e.den η.ρ).toB = b) : Rel Z η M (σ.assume e b) tmps w :=
  ⟨h.wr, h.sz, h.tmp, fun e' b' hm => by
    rcases List.mem_cons.1 hm with hm | hm
    · cases hm; exact he
    · exact h.asm e' b' hm⟩
theorem ite_cases {Λ : List Lp} {ρ : List D} {e : E} {a b : VC} (h : (VC.ite e a b).den P K Λ ρ) : ((e.den ρ).toB = true ∧ a.den P K Λ ρ) ∨ ((e.den ρ).toB = false ∧ b.den P K Λ ρ) := by
  simp only [VC.den] at h
  cases hb : (e.den ρ).toB with
  | true => exact .inl ⟨rfl, h.1 hb⟩
  | false => exact .inr ⟨rfl, h.2 hb⟩

theorem evs_use {η : Env} {M : Mem} {σ : St} {evs : List Ev} {nv' : Nat} {Λ : List Lp} {v : VC} {tmps : Array Value} {w : World} (hr : Rel Z η M σ tmps w) (hn : η.ρ.length = σ.nv) (h : (withEvs σ evs nv' v).den P K Λ η.ρ) :
    ∃ ρ', η.ρ <+: ρ' ∧ ρ'.length = nv' ∧ Rel Z { η with ρ := ρ' } M σ tmps w ∧ (∀ e ∈ evs, EvOK P ρ' e) ∧ v.den P K Λ ρ' := by
  unfold withEvs at h
  split at h
  · split at h
    · rename_i hnv
      exact ⟨η.ρ, List.prefix_refl _, by omega, hr, (fun e he => by cases he), h⟩
    · exact h.elim
  · rename_i hne
    split at h
    · rename_i hc
      simp only [Bool.and_eq_true, decide_eq_true_eq, Bool.or_eq_true] at hc
      simp only [VC.den] at h
      obtain ⟨ρ', ⟨xs, rfl⟩, h2, h3, h4⟩ := evs_sound evs hc.1 hn h
      refine ⟨_, List.prefix_append _ _, h2, ?_, (fun e he => by simpa using h3 e he []), h4⟩
      rcases hc.2 with hz | hb
      · have key : ∀ (l : List Ev) (n : Nat), newVars l = 0 → seqB n l = some nv' → n = nv' ∨ True := fun _ _ _ _ => .inr trivial
        have hlen : xs.length = 0 := by
          have : ∀ (l : List Ev) (n m : Nat), seqB n l = some m → m = n + newVars l := by
            intro l
            induction l with
            | nil => intro n m h; simp only [seqB, Option.some.injEq] at h; simp [newVars, h]
            | cons e l ih =>
              intro n m h
              cases e with
              | ob e =>
                simp only [seqB] at h
                split at h
                · simpa [newVars] using ih n m h
                · cases h
              | call f ts as us k =>
                simp only [seqB] at h
                split at h
                · have := ih _ _ h
                  simp only [newVars]; omega
                · cases h
          have := this evs _ _ hc.1
          rw [List.length_append] at h2
          omega
        have hx : xs = [] := List.length_eq_zero_iff.1 hlen
        subst hx
        simpa using hr
      · exact hr.agree hb (by rw [← hn]; exact Agree.append _ _)
    · exact h.elim

theorem put_dep (σ : St) (t : Option Tmp) (a : AV) : (σ.put t a).dep = σ.dep := by cases t <;> rfl
theorem doOp_dep {σ σ' : St} {i : Nat} {o : Oper} {evs : List Ev} (h : doOp P σ i o = .ok σ' evs) : σ'.dep = σ.dep := by
  unfold doOp at h
  split at h
  · simp only [RR.ok.injEq] at h
    obtain ⟨rfl, _⟩ := h
    exact put_dep _ _ _
  · split at h
    · split at h <;> cases h
    · cases h
theorem runOp_dep {ops : Array Oper} {σ σ' : St} {i : Nat} {o : Oper} {evs : List Ev} (h : runOp P ops σ i o = .ok σ' evs) : σ'.dep = σ.dep := by
  unfold runOp at h
  split at h
  · exact doOp_dep h
  · split at h
    · simp only [RR.ok.injEq] at h
      obtain ⟨rfl, _⟩ := h
      exact put_dep _ _ _
    · split at h
      · split at h
        · exact doOp_dep h
        · simp only [RR.ok.injEq] at h
          obtain ⟨rfl, _⟩ := h
          exact put_dep _ _ _
      · split at h
        · simp only [RR.ok.injEq] at h
          obtain ⟨rfl, _⟩ := h
          exact put_dep _ _ _
        · split at h <;> cases h
theorem tryOp_sound (hP : NoNum P) {ops : Array Oper} {Q : Exit → Act → World → Prop} {Λ : List Lp} {ρ0 : List D} {k : St → VC} {i : Nat} {o : Oper} {rest : List Nat} (hk : GoodK P K Z d Λ ρ0 k (wpOps P ops Q rest)) :
    ∀ (f : Nat) {Λ' : List Lp}, Λ <+: Λ' → ∀ {σ : St} {η : Env} {M : Mem} {tmps : Array Value} {w : World}, Rel Z η M σ tmps w → ρ0 <+: η.ρ → η.ρ.length = σ.nv → Λ'.length = σ.dep → (tryOp P ops i o k f σ).den P K Λ' η.ρ →
      (if Region.wanted o (yielded ops tmps) then o.wp P ⟨tmps, d⟩ w (wpOps P ops Q rest) Q ∨ (o.asks P ⟨tmps, d⟩ w ∧ LetsOut Q) else wpOps P ops Q rest ((⟨tmps, d⟩ : Act).put o.dst undef) w)
  | 0, _, _, _, _, _, _, _, _, _, _, _, h => h.elim
  | f + 1, Λ', hΛ, σ, η, M, tmps, w, hr, hpr, hn, hdp, h => by
    unfold tryOp at h
    split at h
    · rename_i σ' evs hrun
      obtain ⟨ρ', h0, h1, h2, h3, h4⟩ := evs_use hr hn h
      have hafter : After Z { η with ρ := ρ' } M σ' d (wpOps P ops Q rest) := by
        intro η' M' tmps' w' he hM hr'
        refine hk Λ' hΛ σ' η' M' tmps' w' hr' (by rw [he.ρ]; exact hpr.trans h0) (by rw [he.ρ]; exact h1) (by rw [runOp_dep hrun]; exact hdp) (by rw [he.ρ]; exact h4)
      unfold runOp at hrun
      split at hrun
      · rename_i hg
        rw [if_pos (by simp [Region.wanted, hg])]
        exact .inl (doOp_sound hP hrun h2 h3 hafter)
      · rename_i j want hg
        split at hrun
        · rename_i hd
          simp only [RR.ok.injEq] at hrun
          obtain ⟨rfl, rfl⟩ := hrun
          rw [if_neg (by simp [Region.wanted, hg, yielded, hd])]
          exact skip_sound h2 hafter
        · rename_i dd hd
          split at hrun
          · rename_i b hb
            have hy := yielded_of h2 hd hb
            split at hrun
            · rename_i hbw
              rw [if_pos (by simp [Region.wanted, hg, hy, hbw])]
              exact .inl (doOp_sound hP hrun h2 h3 hafter)
            · rename_i hbw
              simp only [RR.ok.injEq] at hrun
              obtain ⟨rfl, rfl⟩ := hrun
              rw [if_neg (by simp [Region.wanted, hg, hy, hbw])]
              exact skip_sound h2 hafter
          · split at hrun
            · rename_i ht
              simp only [RR.ok.injEq] at hrun
              obtain ⟨rfl, rfl⟩ := hrun
              rw [if_neg (by simp [Region.wanted, hg, notyield_of h2 hd ht])]
              exact skip_sound h2 hafter
            · split at hrun <;> cases hrun
    · rename_i e he
      split at h
      · rcases ite_cases h with ⟨hb, h⟩ | ⟨hb, h⟩
        · exact tryOp_sound hP hk f hΛ (assume_rel hr hb) hpr hn hdp h
        · exact tryOp_sound hP hk f hΛ (assume_rel hr hb) hpr hn hdp h
      · exact h.elim
    · exact h.elim

theorem goSeq_sound (hP : NoNum P) {id : Nat} {ops : Array Oper} {Q : Exit → Act → World → Prop} {Λ : List Lp} {ρ0 : List D} {k : St → VC} (hk : GoodK P K Z d Λ ρ0 k (Q .normal)) :
    ∀ (l : List Nat), GoodK P K Z d Λ ρ0 (fun σ => goSeq P id ops l σ k) (wpOps P ops Q l)
  | [] => fun Λ' hΛ σ η M tmps w hr hpr hn hdp h => by
    simp only [goSeq] at h
    simp only [wpOps]
    exact hk Λ' hΛ σ η M tmps w hr hpr hn hdp h
  | i :: rest => fun Λ' hΛ σ η M tmps w hr hpr hn hdp h => by
    simp only [goSeq] at h
    simp only [wpOps]
    cases ho : ops[i]? with
    | none =>
      rw [ho] at h
      exact goSeq_sound hP hk rest Λ' hΛ σ η M tmps w hr hpr hn hdp h
    | some o =>
      rw [ho] at h
      exact tryOp_sound hP (goSeq_sound hP hk rest) 3 hΛ hr hpr hn hdp h

theorem frzFor_sound {η : Env} : ∀ (js : List Nat) {M : Mem} {blks : List Blk} {w : World}, WR Z η M blks w → ∃ M', M.le M' ∧ WR Z η M' (js.foldl (fun b j => b.set j (frozenB (b.getD j .dead))) blks) w
  | [], M, blks, w, h => ⟨M, Mem.le.refl _, h⟩
  | j :: js, M, blks, w, h => by
    have step : ∃ M', M.le M' ∧ WR Z η M' (blks.set j (frozenB (blks.getD j .dead))) w := by
      rw [List.getD_eq_getElem?_getD]
      cases hj : blks[j]? with
      | none =>
        refine ⟨M, Mem.le.refl _, ?_⟩
        rw [List.set_eq_of_length_le (by
          rcases Nat.lt_or_ge j blks.length with hl | hl
          · rw [List.getElem?_eq_getElem hl] at hj; cases hj
          · exact hl)]
        exact h
      | some B =>
        cases B with
        | row es l fr => exact h.freeze hj
        | _ => exact ⟨M, Mem.le.refl _, by simp only [Option.getD_some, frozenB]; rw [set_same hj]; exact h⟩
    obtain ⟨M1, l1, h1⟩ := step
    obtain ⟨M2, l2, h2⟩ := frzFor_sound js h1
    exact ⟨M2, l1.trans l2, h2⟩

theorem isNoneB_eq {b : Blk} (h : isNoneB b = true) : b = .none := by cases b <;> simp_all [isNoneB]
theorem WR.killNone {η : Env} {M : Mem} {blks : List Blk} {w : World} (h : WR Z η M blks w) : WR Z η M (killNone blks) w := by
  -- first the blocks at the end, then those between
  have hpre : ∃ t, blks = ((blks.reverse.dropWhile isNoneB).reverse) ++ t ∧ ∀ b ∈ t, b = Blk.none := by
    refine ⟨(blks.reverse.takeWhile isNoneB).reverse, ?_, fun b hb => ?_⟩
    · rw [← List.reverse_append, List.takeWhile_append_dropWhile, List.reverse_reverse]
    · have := List.mem_reverse.1 hb
      exact isNoneB_eq (List.all_eq_true.1 (List.all_takeWhile) b this)
  obtain ⟨t, ht, hn⟩ := hpre
  unfold Sx.killNone
  generalize (blks.reverse.dropWhile isNoneB).reverse = l at *
  have hget : ∀ (j : Nat) (B : Blk), l[j]? = some B → blks[j]? = some B := fun j B hj => by
    rw [ht, List.getElem?_append_left ((List.getElem?_eq_some_iff.1 hj).1)]; exact hj
  have key : ∀ (j : Nat) (B : Blk), (l.map fun b => if isNoneB b then Blk.dead else b)[j]? = some B → B ≠ .dead → l[j]? = some B := by
    intro j B hj hd
    simp only [List.getElem?_map, Option.map_eq_some_iff] at hj
    obtain ⟨b, h1, h2⟩ := hj
    split at h2
    · exact absurd h2.symm hd
    · rw [h1, h2]
  refine ⟨h.below, h.size, h.base, h.new, h.mem, h.one, fun j B hB => ?_, fun i j B C p q hi hj hB hC => h.inj i j B C p q (hget _ _ (key _ _ hi hB)) (hget _ _ (key _ _ hj hC)) hB hC, fun j hj => ?_⟩
  · cases B with
    | dead => trivial
    | _ => exact h.blk j _ (hget _ _ (key _ _ hB (by simp)))
  · simp at hj
    rcases Nat.lt_or_ge j blks.length with hl | hl
    · obtain ⟨B, h1⟩ : ∃ B, blks[j]? = some B := ⟨_, List.getElem?_eq_getElem hl⟩
      have h2 : B = Blk.none := by
        have h3 := h1
        rw [ht, List.getElem?_append_right hj] at h3
        exact hn _ (List.mem_of_getElem? h3)
      rw [h2] at h1
      exact h.blk j _ h1
    · exact h.out j hl
theorem WR.padK {η : Env} {M : Mem} {w : World} : ∀ (n : Nat) {blks : List Blk}, WR Z η M blks w → WR Z η M (blks ++ List.replicate n Blk.none) w
  | 0, blks, h => by simpa using h
  | n + 1, blks, h => by
    have := WR.padK n h.pad
    rw [List.append_assoc] at this
    rw [List.replicate_succ]
    exact this

theorem esSame_eq : ∀ {a b : List E}, esSame a b = true → a = b
  | [], [], _ => rfl
  | a :: l, b :: m, h => by simp only [esSame, Bool.and_eq_true] at h; rw [E.same_eq _ _ h.1, esSame_eq h.2]
  | [], _ :: _, h => by simp [esSame] at h
  | _ :: _, [], h => by simp [esSame] at h
theorem tsSame_eq {a b : TS} (h : tsSame a b = true) : a = b := by
  cases a <;> cases b <;> simp [tsSame] at h
  · rw [Sh.same_eq _ _ h]
  · rw [Sh.sames_eq _ _ h]
theorem tssSame_eq : ∀ {a b : List TS}, tssSame a b = true → a = b
  | [], [], _ => rfl
  | a :: l, b :: m, h => by simp only [tssSame, Bool.and_eq_true] at h; rw [tsSame_eq h.1, tssSame_eq h.2]
  | [], _ :: _, h => by simp [tssSame] at h
  | _ :: _, [], h => by simp [tssSame] at h
theorem Ev.same_eq {a b : Ev} (h : Ev.same a b = true) : a = b := by
  cases a <;> cases b <;> simp only [Ev.same, Bool.and_eq_true, Bool.false_eq_true] at h
  · rw [E.same_eq _ _ h]
  · rw [Nat.eq_of_beq_eq_true h.1.1.1.1, tssSame_eq h.1.1.1.2, esSame_eq h.1.1.2, tssSame_eq h.1.2, Nat.eq_of_beq_eq_true h.2]
theorem evPre_eq : ∀ {a b : List Ev}, evPre a b = true → b = a ++ b.drop a.length
  | [], b, _ => by simp
  | a :: l, b :: m, h => by
    simp only [evPre, Bool.and_eq_true] at h
    have := evPre_eq h.2
    rw [Ev.same_eq h.1]
    simp only [List.length_cons, List.drop_succ_cons, List.cons_append]
    rw [← this]
  | _ :: _, [], h => by simp [evPre] at h

theorem seqB_newVars : ∀ (l : List Ev) (n m : Nat), seqB n l = some m → m = n + newVars l := by
  intro l
  induction l with
  | nil => intro n m h; simp only [seqB, Option.some.injEq] at h; simp [newVars, h]
  | cons e l ih =>
    intro n m h
    cases e with
    | ob e =>
      simp only [seqB] at h
      split at h
      · simpa [newVars] using ih n m h
      · cases h
    | call f ts as us k =>
      simp only [seqB] at h
      split at h
      · have := ih _ _ h
        simp only [newVars]; omega
      · cases h

theorem evsD_use {η : Env} {M : Mem} {σ : St} {done evs : List Ev} {nv' : Nat} {Λ : List Lp} {v : VC} {tmps : Array Value} {w : World} (hr : Rel Z η M σ tmps w) (hn : η.ρ.length = σ.nv + newVars done) (hd : ∀ e ∈ done, ∀ ys, EvOK P (η.ρ ++ ys) e) (h : (withEvsD σ done evs nv' v).den P K Λ η.ρ) :
    ∃ ρ', η.ρ <+: ρ' ∧ ρ'.length = nv' ∧ Rel Z { η with ρ := ρ' } M σ tmps w ∧ (∀ e ∈ evs, ∀ ys, EvOK P (ρ' ++ ys) e) ∧ v.den P K Λ ρ' := by
  unfold withEvsD at h
  split at h
  · rename_i hpre
    have he := evPre_eq hpre
    split at h
    · rename_i hnew
      split at h
      · rename_i hnv
        rw [hnew, List.append_nil] at he
        exact ⟨η.ρ, List.prefix_refl _, by omega, hr, by rw [he]; exact hd, h⟩
      · exact h.elim
    · rename_i new hne
      split at h
      · rename_i hc
        simp only [Bool.and_eq_true, decide_eq_true_eq, Bool.or_eq_true] at hc
        simp only [VC.den] at h
        obtain ⟨ρ', ⟨xs, rfl⟩, h2, h3, h4⟩ := evs_sound _ hc.1 hn h
        refine ⟨_, List.prefix_append _ _, h2, ?_, ?_, h4⟩
        · rcases hc.2 with hz | hb
          · have := seqB_newVars _ _ _ hc.1
            rw [List.length_append] at h2
            have hx : xs = [] := List.length_eq_zero_iff.1 (by omega)
            subst hx
            simpa using hr
          · exact hr.agree hb (by rw [← hn]; exact Agree.append _ _)
        · intro e hm ys
          rw [he] at hm
          rcases List.mem_append.1 hm with hm | hm
          · rw [List.append_assoc]; exact hd e hm _
          · exact h3 e hm ys
      · exact h.elim
  · exact h.elim

theorem runD_dep {ops : Array Oper} : ∀ {l : List Nat} {σ σ' : St} {nb : Nat} {tr : List (Nat × Nat × Eff)}, runD P ops l σ nb = .ok tr σ' → σ'.dep = σ.dep
  | [], σ, σ', nb, tr, h => by simp only [runD, TR.ok.injEq] at h; rw [h.2]
  | i :: rest, σ, σ', nb, tr, h => by
    simp only [runD] at h
    split at h
    · cases h
    · split at h
      · rename_i e he
        split at h
        · rename_i tr2 σ2 hrest
          simp only [TR.ok.injEq] at h
          obtain ⟨_, rfl⟩ := h
          rw [runD_dep hrest]
          simp only [Eff.app]; cases e.dst <;> rfl
        · cases h
        · cases h
      · cases h
      · cases h

theorem genD_sound (hP : NoNum P) {id : Nat} {ops : Array Oper} {Q : Exit → Act → World → Prop} {Λ : List Lp} {ρ0 : List D} {k : St → VC} (hk : GoodK P K Z d Λ ρ0 k (Q .normal)) :
    ∀ (f : Nat) {Λ' : List Lp}, Λ <+: Λ' → ∀ {σ : St} {done : List Ev} {η : Env} {M : Mem} {tmps : Array Value} {w : World}, Rel Z η M σ tmps w → ρ0 <+: η.ρ → η.ρ.length = σ.nv + newVars done → (∀ e ∈ done, ∀ ys, EvOK P (η.ρ ++ ys) e) → Λ'.length = σ.dep → (genD P id ops k f σ done).den P K Λ' η.ρ →
      (Code.region id ops true).wp P Q ⟨tmps, d⟩ w
  | 0, _, _, _, _, _, _, _, _, _, _, _, _, _, h => h.elim
  | f + 1, Λ', hΛ, σ, done, η, M, tmps, w, hr, hpr, hn, hd, hdp, h => by
    simp only [genD] at h
    split at h
    · rename_i tr σ' hrun
      split at h
      · rename_i hc
        simp only [Bool.and_eq_true] at hc
        obtain ⟨ρ', h0, h1, h2, h3, h4⟩ := evsD_use hr hn hd h
        have hpad : Rel Z { η with ρ := ρ' } M (padN ops σ) tmps w := ⟨h2.wr.padK _, h2.sz, h2.tmp, h2.asm⟩
        refine draw_sound hP hP.mix hrun hc.1.1 hc.1.2 hc.2 hpad (fun p hp x hx => ?_) ?_
        · have := h3 x (List.mem_flatMap.2 ⟨p, hp, hx⟩) []
          simpa using this
        · intro η' M' tmps' w' he hM hr'
          refine hk Λ' hΛ { σ' with blks := killNone σ'.blks } η' M' tmps' w' ⟨hr'.wr.killNone, hr'.sz, hr'.tmp, hr'.asm⟩ (by rw [he.ρ]; exact hpr.trans h0) (by rw [he.ρ]; exact h1) ?_ (by rw [he.ρ]; exact h4)
          show Λ'.length = σ'.dep
          rw [runD_dep hrun]; exact hdp
      · exact h.elim
    · rename_i evs e hrun
      obtain ⟨ρ', h0, h1, h2, h3, h4⟩ := evsD_use hr hn hd h
      split at h4
      · rcases ite_cases h4 with ⟨hb, h4⟩ | ⟨hb, h4⟩
        · exact genD_sound hP hk f hΛ (σ := σ.assume e true) (η := { η with ρ := ρ' }) (assume_rel h2 hb) (hpr.trans h0) h1 h3 hdp h4
        · exact genD_sound hP hk f hΛ (σ := σ.assume e false) (η := { η with ρ := ρ' }) (assume_rel h2 hb) (hpr.trans h0) h1 h3 hdp h4
      · exact h4.elim
    · exact h.elim

def GoodC (P : Program) (K : List D → Prop) (Z : Base) (d : List Deferred) (Λ : List Lp) (ρ0 : List D) (k : Conts) (Q : Exit → Act → World → Prop) : Prop :=
  GoodK P K Z d Λ ρ0 k.normal (Q .normal) ∧ GoodK P K Z d Λ ρ0 k.ret (Q .ret) ∧ ∀ (i : Nat) (f : St → VC), lookX k.exits i = some f → GoodK P K Z d Λ ρ0 f (Q (.exit i))
theorem GoodK.ext {Λ Λ2 : List Lp} {ρ0 ρ1 : List D} {k : St → VC} {next : Act → World → Prop} (h : GoodK P K Z d Λ ρ0 k next) (hp : Λ <+: Λ2) (hq : ρ0 <+: ρ1) : GoodK P K Z d Λ2 ρ1 k next :=
  fun Λ' hΛ σ η M tmps w hr hpr => h Λ' (hp.trans hΛ) σ η M tmps w hr (hq.trans hpr)

theorem HasShs.of_map {ρ : List D} : ∀ (xs : List (Sh × E)), (∀ p ∈ xs, HasSh p.1 (p.2.den ρ)) → HasShs (xs.map (·.1)) (xs.map fun p => p.2.den ρ)
  | [], _ => .nil
  | p :: xs, h => .cons (h p (by simp)) (HasShs.of_map xs fun q hq => h q (by simp [hq]))

theorem asmSame_sound {ρ : List D} : ∀ {l l' : List (E × Bool)}, asmSame l l' = true → (∀ e b, (e, b) ∈ l' → (e.den ρ).toB = b) → ∀ e b, (e, b) ∈ l → (e.den ρ).toB = b
  | [], _, _, _, e, b, h => by cases h
  | (e0, b0) :: l, l', h, ha, e, b, hm => by
    simp only [asmSame, Bool.and_eq_true] at h
    rcases List.mem_cons.1 hm with hm | hm
    · cases hm
      obtain ⟨p, hp, hs⟩ := List.any_eq_true.1 h.1
      simp only [Bool.and_eq_true] at hs
      obtain ⟨p1, p2⟩ := p
      have e1 := E.same_eq _ _ hs.1
      have e2 := bbeq_eq _ _ hs.2
      simp at e1 e2
      subst e1 e2
      exact ha _ _ hp
    · exact asmSame_sound h.2 ha e b hm

/-- What holds at a loop's head. -/
def HeadI (Z : Base) (P : Program) (d : List Deferred) (h : St) (shs : List Sh) (ρ0 : List D) (I : List D → Prop) (μ : List D → Nat) (n : Nat) (a : Act) (w : World) : Prop :=
  ∃ (η : Env) (M : Mem) (xs : List D), a.defers = d ∧ Rel Z η M h a.tmps w ∧ η.ρ = ρ0 ++ xs ∧ xs.length = shs.length ∧ HasShs shs xs ∧ I xs ∧ μ xs = n

theorem HasShs.length {shs : List Sh} {ds : List D} (h : HasShs shs ds) : ds.length = shs.length := by
  induction h with
  | nil => rfl
  | cons _ _ ih => simp [ih]

/-- The head is met by a state in which the earlier variables are as they were. -/
theorem head_met {base : Nat} {h cst : St} {xs : List (Sh × E)} {shs : List Sh} {ρ0 : List D} {η : Env} {M : Mem} {tmps : Array Value} {w : World} (hm : matSt base h cst = some xs) (hs : Sh.sames (xs.map (·.1)) shs = true) (hb : asmBd base h.asm = true)
    (hρ0 : ρ0.length = base) (hpre : ρ0 <+: η.ρ) (hr : Rel Z η M cst tmps w) (hasm : ∀ e b, (e, b) ∈ h.asm → (e.den η.ρ).toB = b) {I : List D → Prop} {μ : List D → Nat} (hI : I ((xs.map (·.2)).map (·.den η.ρ))) :
    HeadI Z P d h shs ρ0 I μ (μ ((xs.map (·.2)).map (·.den η.ρ))) ⟨tmps, d⟩ w := by
  have hmm : (xs.map (·.2)).map (·.den η.ρ) = xs.map fun p => p.2.den η.ρ := by rw [List.map_map]; rfl
  rw [hmm] at hI ⊢
  obtain ⟨t, ht⟩ := hpre
  have hA : Agree base η.ρ (ρ0 ++ xs.map fun p => p.2.den η.ρ) := by
    intro i hi
    rw [← ht]
    simp only [List.getD_eq_getElem?_getD, List.getElem?_append_left (show i < ρ0.length by omega)]
  have hF : Fresh η (ρ0 ++ xs.map fun p => p.2.den η.ρ) base xs := by
    intro i p hp
    simp only [List.getD_eq_getElem?_getD]
    rw [List.getElem?_append_right (by omega), show base + i - ρ0.length = i by omega]
    simp [hp]
  obtain ⟨η', e1, r1, r2⟩ := matSt_sound hm hA hF hr (fun e b he => by
    have hbe := List.all_eq_true.1 hb (e, b) he
    rw [den_agree hA hbe]
    exact hasm e b he)
  have hsh := HasShs.of_map xs r2
  rw [Sh.sames_eq _ _ hs] at hsh
  exact ⟨η', M, _, rfl, r1, e1, hsh.length, hsh, hI, rfl⟩

theorem WR.addNil {η : Env} {M : Mem} {blks : List Blk} {w : World} (h : WR Z η M blks w) (es : List Sh) : WR Z (η.set blks.length (0, 0)) M (blks ++ [.row es .nil false]) w := by
  have hal : η.al blks.length = none := h.out _ (Nat.le_refl _)
  have key : ∀ (j : Nat) (B : Blk), (blks ++ [Blk.row es .nil false])[j]? = some B → (j < blks.length ∧ blks[j]? = some B) ∨ (j = blks.length ∧ B = Blk.row es .nil false) := by
    intro j B hj
    rw [List.getElem?_append] at hj
    split at hj
    · rename_i hl; exact .inl ⟨hl, hj⟩
    · rename_i hl
      rcases Nat.lt_or_ge (j - blks.length) 1 with h1 | h1
      · have : j - blks.length = 0 := by omega
        rw [this] at hj
        simp at hj
        exact .inr ⟨by omega, hj.symm⟩
      · rw [List.getElem?_eq_none (by simpa using h1)] at hj; cases hj
  refine ⟨h.below, h.size, h.base, h.new, h.mem, h.one, fun j B hB => ?_, fun i j B C p q hi hj hB hC hp hq hp0 hq0 e => ?_, fun j hj => ?_⟩
  · rcases key j B hB with ⟨hl, h1⟩ | ⟨rfl, rfl⟩
    · refine BlkOK.mono (Env.le_set hal) (Mem.le.refl _) (fun e => ?_) (fun _ _ _ _ _ => ⟨rfl, fun _ => rfl⟩) (h.blk j B h1)
      have := h.blk j B h1
      subst e
      rw [Env.set_other _ _ (by omega)]
      exact this
    · exact ⟨0, 0, [], Env.set_same _ _ _, rfl, by simp, by simp, fun h0 => absurd h0 (by omega)⟩
  · have k2 : ∀ (i : Nat) (B : Blk) (p : Nat × Nat), (blks ++ [Blk.row es .nil false])[i]? = some B → (η.set blks.length (0, 0)).al i = some p → 0 < p.2 → blks[i]? = some B ∧ η.al i = some p := by
      intro i B p hi hp hp0
      rcases key i B hi with ⟨hl, h1⟩ | ⟨rfl, rfl⟩
      · rw [Env.set_other _ _ (by omega)] at hp; exact ⟨h1, hp⟩
      · rw [Env.set_same] at hp; cases hp; simp at hp0
    obtain ⟨a1, a2⟩ := k2 i B p hi hp hp0
    obtain ⟨b1, b2⟩ := k2 j C q hj hq hq0
    exact h.inj i j B C p q a1 b1 hB hC a2 b2 hp0 hq0 e
  · simp at hj
    rw [Env.set_other _ _ (by omega)]
    exact h.out j (by omega)
theorem rowify_sound {M : Mem} {tmps : Array Value} {w : World} : ∀ (l : List Nat) {σ : St} {η : Env}, Rel Z η M σ tmps w → ∃ η', η.le η' ∧ Rel Z η' M (rowify σ l) tmps w
  | [], σ, η, hr => ⟨η, Env.le.refl _, hr⟩
  | t :: ts, σ, η, hr => by
    unfold rowify
    split
    · rename_i es ht
      have hal : η.al σ.blks.length = none := hr.wr.out _ (Nat.le_refl _)
      have hle := Env.le_set (p := (0, 0)) hal
      have hr' : Rel Z (η.set σ.blks.length (0, 0)) M { σ with tmps := σ.tmps.set t (.v (.c (.row σ.blks.length es (.ki .i64 0)))), blks := σ.blks ++ [.row es .nil false] } tmps w := by
        refine ⟨hr.wr.addNil es, by simpa using hr.sz, fun t' A hA => ?_, hr.asm⟩
        simp only [List.getElem?_set] at hA
        by_cases e : t = t'
        · subst e
          rw [if_pos rfl] at hA
          split at hA
          · cases hA
            have hv := AbsV_c (hr.tmp t _ ht)
            simp only [AbsA] at hv
            rw [hv]
            have hA : AbsA (η.set σ.blks.length (0, 0)) M (.row σ.blks.length es (.ki .i64 0)) (.slice none 0 0) := ⟨0, 0, 0, Env.set_same _ _ _, rfl, by omega, by simp, .inr ⟨rfl, .inl rfl⟩⟩
            exact AbsT_mk hA rfl
          · cases hA
        · rw [if_neg e] at hA
          exact (hr.tmp t' A hA).mono hle (Mem.le.refl _)
      obtain ⟨η', h1, h2⟩ := rowify_sound ts hr'
      exact ⟨η', hle.trans h1, h2⟩
    · exact rowify_sound ts hr
theorem gen_sound (hP : NoNum P) {hints : List Nat} : ∀ (c : Code) (Λ : List Lp) (ρ0 : List D) (k : Conts) (Q : Exit → Act → World → Prop), GoodC P K Z d Λ ρ0 k Q → GoodK P K Z d Λ ρ0 (fun σ => gen P hints c σ k) (c.wp P Q)
  | .skip, Λ, ρ0, k, Q, hk => fun Λ' hΛ σ η M tmps w hr hpr hn hdp h => by
    simp only [gen] at h
    exact wp_skip (hk.1 Λ' hΛ σ η M tmps w hr hpr hn hdp h)
  | .label l, Λ, ρ0, k, Q, hk => fun Λ' hΛ σ η M tmps w hr hpr hn hdp h => by
    simp only [gen] at h
    exact wp_label (hk.1 Λ' hΛ σ η M tmps w hr hpr hn hdp h)
  | .region id ops draw, Λ, ρ0, k, Q, hk => fun Λ' hΛ σ η M tmps w hr hpr hn hdp h => by
    simp only [gen] at h
    cases draw with
    | true => exact genD_sound hP hk.1 30 hΛ (done := []) hr hpr (by simpa [newVars] using hn) (fun e he => by cases he) hdp h
    | false => exact wp_region (goSeq_sound hP hk.1 _ Λ' hΛ σ η M tmps w hr hpr hn hdp h)
  | .seq a b, Λ, ρ0, k, Q, hk => fun Λ' hΛ σ η M tmps w hr hpr hn hdp h => by
    simp only [gen] at h
    refine wp_seq (gen_sound hP a Λ ρ0 { k with normal := fun σ' => gen P hints b σ' k } (Exit.then (b.wp P Q) Q) ⟨?_, ?_, ?_⟩ Λ' hΛ σ η M tmps w hr hpr hn hdp h)
    · exact gen_sound hP b Λ ρ0 k Q hk
    · exact hk.2.1
    · exact hk.2.2
  | .cond c a b, Λ, ρ0, k, Q, hk => fun Λ' hΛ σ η M tmps w hr hpr hn hdp h => by
    simp only [gen] at h
    have hc : ∀ {σ : St}, Rel Z η M σ tmps w → ∀ {t : Bool}, boolAV σ.asm (σ.opd c) = some t → (⟨tmps, d⟩ : Act).eval c = .bool t := fun hr t ht => boolAV_sound hr.asm ht (opd_sound (a := ⟨tmps, d⟩) hr c)
    have pick : ∀ {σ : St}, Rel Z η M σ tmps w → ρ0 <+: η.ρ → η.ρ.length = σ.nv → Λ'.length = σ.dep → VC.den P K (match boolAV σ.asm (σ.opd c) with
        | some true => gen P hints a σ k
        | some false => gen P hints b σ k
        | none => .bad 900004) Λ' η.ρ → (Code.cond c a b).wp P Q ⟨tmps, d⟩ w := by
      intro σ hr hpr hn hdp h
      split at h
      · rename_i ht
        exact wp_cond_true (hc hr ht) (gen_sound hP a Λ ρ0 k Q hk Λ' hΛ σ η M tmps w hr hpr hn hdp h)
      · rename_i ht
        exact wp_cond_false (hc hr ht) (gen_sound hP b Λ ρ0 k Q hk Λ' hΛ σ η M tmps w hr hpr hn hdp h)
      · exact h.elim
    split at h
    · rename_i ht
      exact wp_cond_true (hc hr ht) (gen_sound hP a Λ ρ0 k Q hk Λ' hΛ σ η M tmps w hr hpr hn hdp h)
    · rename_i ht
      exact wp_cond_false (hc hr ht) (gen_sound hP b Λ ρ0 k Q hk Λ' hΛ σ η M tmps w hr hpr hn hdp h)
    · split at h
      · split at h
        · rcases ite_cases h with ⟨hb, h⟩ | ⟨hb, h⟩
          · exact pick (assume_rel hr hb) hpr hn hdp h
          · exact pick (assume_rel hr hb) hpr hn hdp h
        · exact h.elim
      · exact h.elim
  | .block id c, Λ, ρ0, k, Q, hk => fun Λ' hΛ σ η M tmps w hr hpr hn hdp h => by
    simp only [gen] at h
    refine wp_block (gen_sound hP c Λ ρ0 { k with exits := (id, k.normal) :: k.exits } (Exit.inBlock id Q) ⟨hk.1, hk.2.1, fun i f hf => ?_⟩ Λ' hΛ σ η M tmps w hr hpr hn hdp h)
    simp only [lookX, List.find?_cons] at hf
    by_cases e : id = i
    · subst e
      simp at hf
      subst hf
      intro Λ2 hΛ2 σ2 η2 M2 t2 w2 hr2 hp2 hn2 hd2 h2
      simp only [Exit.inBlock, if_true]
      exact hk.1 Λ2 hΛ2 σ2 η2 M2 t2 w2 hr2 hp2 hn2 hd2 h2
    · have e' : (id == i) = false := by simpa using e
      rw [e'] at hf
      intro Λ2 hΛ2 σ2 η2 M2 t2 w2 hr2 hp2 hn2 hd2 h2
      simp only [Exit.inBlock]
      rw [if_neg (fun h => e h.symm)]
      exact hk.2.2 i f hf Λ2 hΛ2 σ2 η2 M2 t2 w2 hr2 hp2 hn2 hd2 h2
  | .scope c, Λ, ρ0, k, Q, hk => fun Λ' hΛ σ η M tmps w hr hpr hn hdp h => by
    simp only [gen] at h
    exact wp_scope_straight (gen_sound hP c Λ ρ0 k (Exit.noGoto Q) hk Λ' hΛ σ η M tmps w hr hpr hn hdp h)
  | .exit id, Λ, ρ0, k, Q, hk => fun Λ' hΛ σ η M tmps w hr hpr hn hdp h => by
    simp only [gen] at h
    split at h
    · rename_i f hf
      exact wp_exit (hk.2.2 id f hf Λ' hΛ σ η M tmps w hr hpr hn hdp h)
    · exact h.elim
  | .ret, Λ, ρ0, k, Q, hk => fun Λ' hΛ σ η M tmps w hr hpr hn hdp h => by
    simp only [gen] at h
    exact wp_ret (hk.2.1 Λ' hΛ σ η M tmps w hr hpr hn hdp h)
  | .loop c, Λ, ρ0, k, Q, hk => fun Λ' hΛ σ η M tmps w hr hpr hn hdp h => by
    simp only [gen] at h
    generalize hσ1 : rowify σ _ = σ1 at h
    obtain ⟨η1, he1, hr1⟩ : ∃ η1, η.le η1 ∧ Rel Z η1 M σ1 tmps w := by rw [← hσ1]; exact rowify_sound _ hr
    clear hσ1
    generalize genHead σ1 _ _ = hh at h
    obtain ⟨hd, shs, e0⟩ := hh
    simp only [] at h
    split at h
    · rename_i hc
      simp only [Bool.and_eq_true] at hc
      have c1 := hc.1.1.1.1.1
      have c2 := Nat.eq_of_beq_eq_true hc.1.1.1.1.2
      have c3 := Nat.eq_of_beq_eq_true hc.1.1.1.2
      have c4 := Nat.eq_of_beq_eq_true hc.1.1.2
      have c5 := Nat.eq_of_beq_eq_true hc.1.2
      have hn1 : η.ρ.length = σ1.nv := by rw [c4]; exact hn
      split at h
      · rename_i init hinit
        split at h
        · rename_i hs
          simp only [VC.den] at h
          obtain ⟨I, μ, hI, hall⟩ := h
          have hstart : HeadI Z P d hd shs η.ρ I μ (μ ((init.map (·.2)).map (·.den η.ρ))) ⟨tmps, d⟩ w := by
            have hasm : ∀ e b, (e, b) ∈ hd.asm → (e.den η1.ρ).toB = b := asmSame_sound hc.2 hr1.asm
            have := head_met (P := P) (d := d) (I := I) (μ := μ) hinit hs c1 hn1 (by rw [he1.ρ]; exact List.prefix_refl _) hr1 hasm (by rw [he1.ρ]; exact hI)
            rw [he1.ρ] at this
            exact this
          refine wp_loop_ghost (HeadI Z P d hd shs η.ρ I μ) _ hstart ?_
          rintro n ⟨tmps2, d2⟩ w2 ⟨η2, M2, xs, hde, hr2, hρ2, hlen2, hsh2, hI2, hμ2⟩
          have hde' : d = d2 := hde.symm
          subst hde'
          have hbody := AllSh.use hall hsh2 hI2
          have hpre2 : η.ρ <+: η2.ρ := by rw [hρ2]; exact List.prefix_append _ _
          rw [hμ2] at hbody
          refine gen_sound hP c (Λ' ++ [⟨I, μ, n⟩]) η2.ρ _ _ ⟨?_, ?_, ?_⟩ _ (List.prefix_refl _) hd η2 M2 tmps2 w2 hr2 (List.prefix_refl _) (by rw [hρ2, List.length_append, hn1, hlen2, c2]) (by simp [hdp, c3, c5]) (by rw [hρ2]; exact hbody)
          · -- the round's end
            intro Λ3 hΛ3 σ3 η3 M3 t3 w3 hr3 hp3 hn3 hd3 h3
            simp only [] at h3
            split at h3
            · rename_i xs3 hm3
              split at h3
              · rename_i hc3
                simp only [Bool.and_eq_true] at hc3
                simp only [VC.den] at h3
                have hget : Λ3[σ1.dep]? = some ⟨I, μ, n⟩ := by
                  obtain ⟨t, ht⟩ := hΛ3
                  rw [← ht, c5, ← hdp]
                  simp
                rw [hget] at h3
                obtain ⟨hI3, hlt⟩ := h3
                obtain ⟨M4, hM4, hw4⟩ := frzFor_sound _ hr3.wr
                have hr4 : Rel Z η3 M4 (frzFor hd σ3) t3 w3 := ⟨hw4, hr3.sz, fun t A hA => (hr3.tmp t A hA).mono (Env.le.refl _) hM4, hr3.asm⟩
                have hpre : η.ρ <+: η3.ρ := (hpre2).trans hp3
                exact ⟨_, hlt, head_met (P := P) (d := d) (I := I) (μ := μ) hm3 hc3.1 c1 hn1 hpre hr4 (asmSame_sound hc3.2 hr3.asm) hI3⟩
              · exact h3.elim
            · exact h3.elim
          · exact (hk.2.1).ext (hΛ.trans (List.prefix_append _ _)) (hpr.trans hpre2)
          · intro i f hf
            exact (hk.2.2 i f hf).ext (hΛ.trans (List.prefix_append _ _)) (hpr.trans hpre2)
        · exact h.elim
      · exact h.elim
    · exact h.elim
  | .goto _, _, _, _, _, _ => fun _ _ _ _ _ _ _ _ _ _ _ h => by simp only [gen] at h; exact h.elim
  | .rangeFunc _ _ _ _, _, _, _, _, _ => fun _ _ _ _ _ _ _ _ _ _ _ h => by simp only [gen] at h; exact h.elim
  | .refuse _, _, _, _, _, _ => fun _ _ _ _ _ _ _ _ _ _ _ h => by simp only [gen] at h; exact h.elim
end
end Go.Proofs.Ytokjokbbegcceaa.Sx
