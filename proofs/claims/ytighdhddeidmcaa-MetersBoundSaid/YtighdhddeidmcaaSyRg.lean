/-
  A part of a symbolic walk that is proved sound: what the functions of a program do with data. No conditions.
-/
import Derived.Test.YtighdhddeidmcaaSyW
set_option linter.unusedSimpArgs false
set_option linter.unusedVariables false
namespace Go.Proofs.Ytighdhddeidmcaa.Sy
open Go.RowKit

/-! A region that draws its order, of which all but the last two operations only look: the last but one comes up behind them, the last behind that. -/
structure HeadOK (P : Program) (ops : Array Oper) (c : Nat) (full : Array Value) (w : World) : Prop where
  size : ops.size = c + 2
  guard : ∀ (i : Nat) (o : Oper), ops[i]? = some o → o.guard = none
  dst : ∀ (i : Nat) (o : Oper), i < c → ops[i]? = some o → ∃ t, o.dst = some t ∧ t < full.size
  lower : ∀ (i : Nat) (o : Oper), ops[i]? = some o → ∀ e ∈ o.after, Region.binds .any e = true → e.on < i
  up : ∀ k : Nat, k < c → ∃ (j : Nat) (o : Oper), k < j ∧ j ≤ c ∧ ops[j]? = some o ∧ ∃ e ∈ o.after, Region.binds .any e = true ∧ e.on = k
  last : ∃ o : Oper, ops[c + 1]? = some o ∧ ∃ e ∈ o.after, Region.binds .any e = true ∧ e.on = c
  run : ∀ (i : Nat) (o : Oper) (tmps : Array Value), i < c → ops[i]? = some o → tmps.size = full.size →
    (∀ t, (∀ (j : Nat) (oj : Oper), j < c → ops[j]? = some oj → oj.dst ≠ some t) → tmps.getD t undef = full.getD t undef) →
    (∀ e ∈ o.after, Region.binds .any e = true → ∀ (oj : Oper) (t : Nat), ops[e.on]? = some oj → oj.dst = some t → tmps.getD t undef = full.getD t undef) →
    ∀ t, o.dst = some t → (execOp (⟨tmps, []⟩ : Act).eval o).run P w = .ok (.value (full.getD t undef)) w
section
variable {P : Program} {ops : Array Oper} {c : Nat} {full : Array Value} {w : World} {F : Fence} {n : Nat}
theorem getD_set_b {L : Array Bool} {i j : Nat} {d : Bool} (h : i < L.size) : (L.setIfInBounds i true).getD j d = if i = j then true else L.getD j d := by
  rw [Array.getD_eq_getD_getElem?, Array.getD_eq_getD_getElem?, Array.getElem?_setIfInBounds]
  by_cases e : i = j
  · subst e; simp [h]
  · simp [e]
theorem getD_tf {L : Array Bool} {j : Nat} (h : j < L.size) : L.getD j true = L.getD j false := by
  rw [Array.getD_eq_getD_getElem?, Array.getD_eq_getD_getElem?, Array.getElem?_eq_getElem h]
  rfl
theorem region_last (H : HeadOK P ops c full { w with drawn := w.drawn + 1 }) (hm : P.follows .mixedOrders = true) (hF : ∀ f, F.fn f) {tmps0 : Array Value} (h0s : tmps0.size = full.size)
    (h0 : ∀ t, (∀ (j : Nat) (oj : Oper), j < c → ops[j]? = some oj → oj.dst ≠ some t) → tmps0.getD t undef = full.getD t undef) {id : Nat} {Q : Exit → Act → World → Prop}
    (hlast : ∀ K : Act → World → Prop, (∀ a w', wpOpIn F n P ops Q (c + 1) (Q .normal) a w' → K a w') → wpOpIn F n P ops Q c K ⟨full, []⟩ { w with drawn := w.drawn + 1 }) :
    (Code.region id ops true).wpIn F n P Q ⟨tmps0, []⟩ w := by
  have hsz := H.size
  have main : ∀ (fuel : Nat) (L : Array Bool) (tmps : Array Value), L.size = ops.size → (∀ (i : Nat) (o : Oper), ops[i]? = some o → L.getD i false = true → ∀ e ∈ o.after, Region.binds .any e = true → L.getD e.on false = true) →
      L.getD c false = false → L.getD (c + 1) false = false → tmps.size = full.size → (∀ t, (∀ (j : Nat) (oj : Oper), j < c → ops[j]? = some oj → oj.dst ≠ some t) → tmps.getD t undef = full.getD t undef) →
      (∀ (j : Nat) (oj : Oper) (t : Nat), j < c → ops[j]? = some oj → oj.dst = some t → L.getD j false = true → tmps.getD t undef = full.getD t undef) →
      (List.range ops.size).countP (fun k => !L.getD k false) ≤ fuel → wpAnyIn F n P .any ops Q fuel L ⟨tmps, []⟩ { w with drawn := w.drawn + 1 } := by
    intro fuel
    induction fuel with
    | zero =>
      intro L tmps hL hcl hc hc1 hts hb hd hcnt
      exfalso
      have h1 : (List.range ops.size).countP (fun k => !L.getD k false) = 0 := by omega
      rw [List.countP_eq_zero] at h1
      have := h1 c (by simp; omega)
      rw [hc] at this
      simp at this
    | succ fuel ih =>
      intro L tmps hL hcl hc hc1 hts hb hd hcnt
      refine ⟨fun hready => ?_, fun i hi => ?_⟩
      · exfalso
        -- the first that is not listed may come up
        have key : ∀ m, m ≤ c → ∀ k, k < m → L.getD k false = true := by
          intro m
          induction m with
          | zero => intro _ k hk; omega
          | succ m ihm =>
            intro hmc k hk
            by_cases hkm : k < m
            · exact ihm (by omega) k hkm
            · have : k = m := by omega
              subst this
              cases hkl : L.getD k false with
              | true => rfl
              | false =>
                exfalso
                have hlt : k < ops.size := by omega
                have : k ∈ Region.ready .any ops L := mem_ready.2 ⟨by rw [getD_tf (by omega)]; exact hkl, ops[k], Array.getElem?_eq_getElem hlt, fun e he hbd => ihm (by omega) e.on (H.lower k _ (Array.getElem?_eq_getElem hlt) e he hbd)⟩
                rw [hready] at this
                cases this
        have hlt : c < ops.size := by omega
        have : c ∈ Region.ready .any ops L := mem_ready.2 ⟨by rw [getD_tf (by omega)]; exact hc, ops[c], Array.getElem?_eq_getElem hlt, fun e he hbd => key c (Nat.le_refl _) e.on (H.lower c _ (Array.getElem?_eq_getElem hlt) e he hbd)⟩
        rw [hready] at this
        cases this
      · obtain ⟨hun, o, ho, hed⟩ := mem_ready.1 hi
        have hil : i < ops.size := (Array.getElem?_eq_some_iff.1 ho).1
        have hun' : L.getD i false = false := by rw [← getD_tf (by omega)]; exact hun
        have hcnt' : (List.range ops.size).countP (fun k => !(L.setIfInBounds i true).getD k false) ≤ fuel := by
          have hlt : (List.range ops.size).countP (fun k => !(L.setIfInBounds i true).getD k false) < (List.range ops.size).countP (fun k => !L.getD k false) := by
            refine countP_lt (fun k _ h => ?_) ⟨i, List.mem_range.2 hil, by simp [hun'], by rw [getD_set_b (by omega)]; simp⟩
            rw [getD_set_b (by omega)] at h
            split at h
            · simp at h
            · exact h
          omega
        rcases Nat.lt_trichotomy i c with hic | hic | hic
        · -- one that looks
          obtain ⟨t, ht, htl⟩ := H.dst i o hic ho
          have hr := H.run i o tmps hic ho hts hb (fun e he hbd oj t hoj htj => hd e.on oj t (by have := H.lower i o ho e he hbd; omega) hoj htj (hed e he hbd)) t ht
          unfold wpOpIn
          rw [ho]
          simp only []
          rw [if_pos (by simp [Region.wanted, H.guard i o ho])]
          refine ⟨fun f _ => hF f, ?_⟩
          have hra : (o.semAt F.round (⟨tmps, []⟩ : Act).eval).run P { w with drawn := w.drawn + 1 } = .ok (.value (full.getD t undef)) { w with drawn := w.drawn + 1 } := semAt_run hr (fun d hd => by cases hd)
          rw [hra]
          show wpAnyIn F n P .any ops Q fuel (L.setIfInBounds i true) ((⟨tmps, []⟩ : Act).put o.dst (full.getD t undef)) _
          rw [ht]
          refine ih _ (tmps.setIfInBounds t (full.getD t undef)) (by simpa using hL) (fun k ok hok hkl e he hbd => ?_) (by rw [getD_set_b (by omega), if_neg (by omega)]; exact hc) (by rw [getD_set_b (by omega), if_neg (by omega)]; exact hc1) (by simpa using hts) (fun t' ht' => ?_) (fun j oj t' hj hoj htj hjl => ?_) hcnt'
          · rw [getD_set_b (by omega)] at hkl ⊢
            split
            · rfl
            · split at hkl
              · rename_i hik
                subst hik
                rw [ho] at hok
                cases hok
                exact hed e he hbd
              · exact hcl k ok hok hkl e he hbd
          · have hne : t ≠ t' := fun e => ht' i o hic ho (by rw [ht, e])
            rw [Array.getD_eq_getD_getElem?, Array.getElem?_setIfInBounds, if_neg hne, ← Array.getD_eq_getD_getElem?]
            exact hb t' ht'
          · by_cases hne : t = t'
            · subst hne
              rw [Array.getD_eq_getD_getElem?, Array.getElem?_setIfInBounds, if_pos rfl, if_pos (show t < tmps.size by rw [hts]; exact htl)]
              rfl
            · rw [Array.getD_eq_getD_getElem?, Array.getElem?_setIfInBounds, if_neg hne, ← Array.getD_eq_getD_getElem?]
              rw [getD_set_b (by omega)] at hjl
              split at hjl
              · rename_i hij
                subst hij
                rw [ho] at hoj
                cases hoj
                rw [ht] at htj
                cases htj
                exact absurd rfl hne
              · exact hd j oj t' hj hoj htj hjl
        · -- the last but one: all that look are listed
          subst hic
          have hall : ∀ m k, k + m = i → L.getD k false = true ∨ k = i := by
            intro m
            induction m using Nat.strongRecOn with
            | ind m ihm =>
              intro k hk
              by_cases hki : k = i
              · exact .inr hki
              · obtain ⟨j, oj, hkj, hji, hoj, e, he, hbd, hek⟩ := H.up k (by omega)
                left
                by_cases hj : j = i
                · subst hj
                  rw [ho] at hoj
                  cases hoj
                  rw [← hek]
                  exact hed e he hbd
                · rcases ihm (i - j) (by omega) j (by omega) with h1 | h1
                  · rw [← hek]
                    exact hcl j oj hoj h1 e he hbd
                  · exact absurd h1 hj
          have hlisted : ∀ k, k < i → L.getD k false = true := fun k hk => (hall (i - k) k (by omega)).resolve_right (by omega)
          have hfull : tmps = full := by
            apply Array.ext hts
            intro t h1 h2
            have hg : tmps.getD t undef = full.getD t undef := by
              by_cases hx : ∃ j oj, j < i ∧ ops[j]? = some oj ∧ oj.dst = some t
              · obtain ⟨j, oj, hj, hoj, htj⟩ := hx
                exact hd j oj t hj hoj htj (hlisted j hj)
              · exact hb t fun j oj hj hoj htj => hx ⟨j, oj, hj, hoj, htj⟩
            rw [Array.getD_eq_getD_getElem?, Array.getD_eq_getD_getElem?, Array.getElem?_eq_getElem h1, Array.getElem?_eq_getElem h2] at hg
            exact hg
          subst hfull
          refine hlast _ fun a w' hk => ?_
          -- what is behind it
          have hc1' : (L.setIfInBounds i true).getD (i + 1) false = false := by rw [getD_set_b (by omega), if_neg (by omega)]; exact hc1
          match fuel, hcnt' with
          | 0, hcnt' =>
            exfalso
            have h1 : (List.range ops.size).countP (fun k => !(L.setIfInBounds i true).getD k false) = 0 := by omega
            rw [List.countP_eq_zero] at h1
            have := h1 (i + 1) (by simp; omega)
            rw [hc1'] at this
            simp at this
          | f + 1, hcnt' =>
            obtain ⟨ol, hol, el, hel, hbl, hon⟩ := H.last
            have hmem : ∀ k, k ∈ Region.ready .any ops (L.setIfInBounds i true) → k = i + 1 := by
              intro k hk
              obtain ⟨hu, ok, hok, _⟩ := mem_ready.1 hk
              have hkl : k < ops.size := (Array.getElem?_eq_some_iff.1 hok).1
              rw [getD_set_b (by omega)] at hu
              split at hu
              · cases hu
              · rename_i hne
                rw [getD_tf (by omega)] at hu
                rcases Nat.lt_trichotomy k i with h1 | h1 | h1
                · rw [hlisted k h1] at hu; cases hu
                · exact absurd h1.symm hne
                · omega
            have hin : i + 1 ∈ Region.ready .any ops (L.setIfInBounds i true) := by
              refine mem_ready.2 ⟨by rw [getD_tf (by simp; omega)]; exact hc1', ol, hol, fun e he hbd => ?_⟩
              have := H.lower (i + 1) ol hol e he hbd
              rw [getD_set_b (by omega)]
              split
              · rfl
              · exact hlisted e.on (by omega)
            refine ⟨(fun hr => by rw [hr] at hin; cases hin), fun k hk' => ?_⟩
            have := hmem k hk'
            subst this
            unfold wpOpIn at hk ⊢
            rw [hol] at hk ⊢
            simp only [] at hk ⊢
            have hdone : ∀ a2 w2, Q .normal a2 w2 → wpAnyIn F n P .any ops Q f ((L.setIfInBounds i true).setIfInBounds (i + 1) true) a2 w2 := by
              intro a2 w2 hq
              refine wpAnyIn_done ?_ hq f
              rw [List.eq_nil_iff_forall_not_mem]
              intro k hk2
              obtain ⟨hu, ok, hok, _⟩ := mem_ready.1 hk2
              have hkl : k < ops.size := (Array.getElem?_eq_some_iff.1 hok).1
              rw [getD_set_b (by simp; omega)] at hu
              split at hu
              · cases hu
              · rename_i hne
                rw [getD_set_b (by omega)] at hu
                split at hu
                · cases hu
                · rename_i hne2
                  rw [getD_tf (by omega)] at hu
                  rcases Nat.lt_trichotomy k i with h1 | h1 | h1
                  · rw [hlisted k h1] at hu; cases hu
                  · exact hne2 h1.symm
                  · omega
            rw [if_pos (by simp [Region.wanted, H.guard _ _ hol])] at hk ⊢
            exact Oper.wpIn_mono hdone hk
        · -- the last waits
          exfalso
          have hi1 : i = c + 1 := by omega
          subst hi1
          obtain ⟨ol, hol, el, hel, hbl, hon⟩ := H.last
          rw [ho] at hol
          cases hol
          have := hed el hel hbl
          rw [hon, hc] at this
          cases this
  refine wpIn_region_any hm (main _ _ _ (by simp) (fun i o _ hl => ?_) ?_ ?_ h0s h0 (fun j oj t _ _ _ hl => ?_) ?_)
  · rw [Array.getD_eq_getD_getElem?, Array.getElem?_replicate] at hl
    split at hl <;> cases hl
  · rw [Array.getD_eq_getD_getElem?, Array.getElem?_replicate]; split <;> rfl
  · rw [Array.getD_eq_getD_getElem?, Array.getElem?_replicate]; split <;> rfl
  · rw [Array.getD_eq_getD_getElem?, Array.getElem?_replicate] at hl
    split at hl <;> cases hl
  · exact Nat.le_trans (List.countP_le_length) (by simp)
end
end Go.Proofs.Ytighdhddeidmcaa.Sy
namespace Go.Proofs.Ytighdhddeidmcaa.Sy
open Go.RowKit
def notDstB (ops : Array Oper) (c t : Nat) : Bool := (List.range c).all fun j => match ops[j]? with | some o => (match o.dst with | some u => !Nat.beq u t | none => true) | none => true
theorem notDst {ops : Array Oper} {c t : Nat} (h : notDstB ops c t = true) : ∀ (j : Nat) (oj : Oper), j < c → ops[j]? = some oj → oj.dst ≠ some t := by
  intro j oj hj hoj he
  have := List.all_eq_true.1 h j (List.mem_range.2 hj)
  rw [hoj] at this
  simp only [he] at this
  simp at this
def headB (ops : Array Oper) (c n : Nat) : Bool :=
  Nat.beq ops.size (c + 2) && (List.range ops.size).all (fun i => match ops[i]? with | some o => o.guard.isNone && (o.after.all fun e => !Region.binds .any e || Nat.blt e.on i) | none => true)
  && (List.range c).all (fun i => match ops[i]? with | some o => (match o.dst with | some t => Nat.blt t n | none => false) | none => true)
  && (List.range c).all (fun k => (List.range (c + 1)).any fun j => Nat.blt k j && (match ops[j]? with | some o => o.after.any fun e => Region.binds .any e && Nat.beq e.on k | none => false))
  && (match ops[c + 1]? with | some o => o.after.any fun e => Region.binds .any e && Nat.beq e.on c | none => false)
theorem HeadOK.of {P : Program} {ops : Array Oper} {c : Nat} {full : Array Value} {w : World} (h : headB ops c full.size = true)
    (run : ∀ (i : Nat) (o : Oper) (tmps : Array Value), i < c → ops[i]? = some o → tmps.size = full.size →
    (∀ t, (∀ (j : Nat) (oj : Oper), j < c → ops[j]? = some oj → oj.dst ≠ some t) → tmps.getD t undef = full.getD t undef) →
    (∀ e ∈ o.after, Region.binds .any e = true → ∀ (oj : Oper) (t : Nat), ops[e.on]? = some oj → oj.dst = some t → tmps.getD t undef = full.getD t undef) →
    ∀ t, o.dst = some t → (execOp (⟨tmps, []⟩ : Act).eval o).run P w = .ok (.value (full.getD t undef)) w) : HeadOK P ops c full w := by
  simp only [headB, Bool.and_eq_true] at h
  obtain ⟨⟨⟨⟨h1, h2⟩, h3⟩, h4⟩, h5⟩ := h
  have k2 : ∀ (i : Nat) (o : Oper), ops[i]? = some o → o.guard = none ∧ ∀ e ∈ o.after, Region.binds .any e = true → e.on < i := by
    intro i o ho
    have := List.all_eq_true.1 h2 i (List.mem_range.2 (Array.getElem?_eq_some_iff.1 ho).1)
    rw [ho] at this
    simp only [Bool.and_eq_true, Option.isNone_iff_eq_none] at this
    refine ⟨this.1, fun e he hb => ?_⟩
    have h6 := Array.all_eq_true_iff_forall_mem.1 this.2 e he
    rw [hb] at h6
    simpa [Nat.blt_eq] using h6
  refine ⟨Nat.eq_of_beq_eq_true h1, fun i o ho => (k2 i o ho).1, fun i o hi ho => ?_, fun i o ho => (k2 i o ho).2, fun k hk => ?_, ?_, run⟩
  · have := List.all_eq_true.1 h3 i (List.mem_range.2 hi)
    rw [ho] at this
    simp only [] at this
    split at this
    · rename_i t ht
      exact ⟨t, ht, by simpa [Nat.blt_eq] using this⟩
    · cases this
  · have := List.all_eq_true.1 h4 k (List.mem_range.2 hk)
    obtain ⟨j, hj, hx⟩ := List.any_eq_true.1 this
    simp only [Bool.and_eq_true] at hx
    have hj' := List.mem_range.1 hj
    cases ho : ops[j]? with
    | none => rw [ho] at hx; simp at hx
    | some o =>
      rw [ho] at hx
      obtain ⟨e, he, hb⟩ := Array.any_eq_true'.1 hx.2
      simp only [Bool.and_eq_true] at hb
      exact ⟨j, o, by simpa [Nat.blt_eq] using hx.1, by omega, ho, e, he, hb.1, Nat.eq_of_beq_eq_true hb.2⟩
  · split at h5
    · rename_i o ho
      obtain ⟨e, he, hb⟩ := Array.any_eq_true'.1 h5
      simp only [Bool.and_eq_true] at hb
      exact ⟨o, ho, e, he, hb.1, Nat.eq_of_beq_eq_true hb.2⟩
    · cases h5
end Go.Proofs.Ytighdhddeidmcaa.Sy
