/-
  A part of a symbolic walk that is proved sound: what the functions of a program do with data. No conditions.
-/
import Derived.Test.YtindphofgojfbaaSyZa
set_option linter.unusedSimpArgs false
set_option linter.unusedVariables false
namespace Go.Proofs.Ytindphofgojfbaa.Sy
open Go.RowKit
def nbBlk (σ0 : St) (all : List Eff) (k : Nat) (e0 : Eff) (j : Nat) : Bool :=
  (match σ0.blks[j]? with | some .none => true | _ => false) && ((all.take k).all fun e => !memN j e.wb) && (memN j e0.wb || all.all fun e => !memN j e.wb)
def nbAll (ops : Array Oper) (σ0 : St) (all : List Eff) : Nat → List (Nat × Nat × Eff) → Bool
  | _, [] => true
  | k, p :: l => (match ops[k]? with
    | some o => (List.range (takesD o)).all fun i => nbBlk σ0 all k p.2.2 (p.1 + i)
    | none => false) && nbAll ops σ0 all (k + 1) l
theorem nbBlk_sound {σ0 : St} {all : List Eff} {k : Nat} {e0 : Eff} {j : Nat} (h : nbBlk σ0 all k e0 j = true) :
    σ0.blks[j]? = some .none ∧ (∀ (i : Nat) (e : Eff), i < k → all[i]? = some e → j ∉ e.wb) ∧ (j ∈ e0.wb ∨ ∀ (i : Nat) (e : Eff), all[i]? = some e → j ∉ e.wb) := by
  simp only [nbBlk, Bool.and_eq_true, Bool.or_eq_true] at h
  refine ⟨?_, fun i e hi he hmem => ?_, ?_⟩
  · have h2 := h.1.1
    split at h2
    · assumption
    · cases h2
  · have := List.all_eq_true.1 h.1.2 e (List.mem_of_getElem? (i := i) (by rw [List.getElem?_take, if_pos hi]; exact he))
    rw [memN_of hmem] at this; simp at this
  · rcases h.2 with h2 | h2
    · exact .inl (memN_iff.1 h2)
    · refine .inr fun i e he hmem => ?_
      have := List.all_eq_true.1 h2 e (List.mem_of_getElem? he)
      rw [memN_of hmem] at this; simp at this
theorem nbAll_sound {ops : Array Oper} {σ0 : St} {all : List Eff} : ∀ {l : List (Nat × Nat × Eff)} {k : Nat}, nbAll ops σ0 all k l = true → ∀ (m : Nat) (p : Nat × Nat × Eff) (o : Oper), l[m]? = some p → ops[k + m]? = some o → ∀ q, q < takesD o →
    σ0.blks[p.1 + q]? = some .none ∧ (∀ (i : Nat) (e : Eff), i < k + m → all[i]? = some e → p.1 + q ∉ e.wb) ∧ (p.1 + q ∈ p.2.2.wb ∨ ∀ (i : Nat) (e : Eff), all[i]? = some e → p.1 + q ∉ e.wb)
  | [], k, _, m, p, o, hm => by simp at hm
  | p0 :: l, k, h, m, p, o, hm => by
    intro ho q hq
    simp only [nbAll, Bool.and_eq_true] at h
    cases m with
    | zero =>
      simp at hm
      subst hm
      simp only [Nat.add_zero] at ho ⊢
      have h1 := h.1
      rw [ho] at h1
      exact nbBlk_sound (List.all_eq_true.1 h1 q (List.mem_range.2 hq))
    | succ m =>
      simp at hm
      have := nbAll_sound h.2 m p o hm (by rw [← ho]; congr 1; omega) q hq
      rw [show k + (m + 1) = k + 1 + m by omega]
      exact this
theorem countP_lt {α : Type} {p q : α → Bool} : ∀ {l : List α}, (∀ x ∈ l, p x = true → q x = true) → (∃ x ∈ l, q x = true ∧ p x = false) → l.countP p < l.countP q
  | [], _, ⟨x, hx, _⟩ => by cases hx
  | a :: l, h, ⟨x, hx, h1, h2⟩ => by
    have hle : l.countP p ≤ l.countP q := by
      have key : ∀ l : List α, (∀ x ∈ l, p x = true → q x = true) → l.countP p ≤ l.countP q := by
        intro l
        induction l with
        | nil => intro _; simp
        | cons b l ih =>
          intro hb
          have := ih fun x hx => hb x (by simp [hx])
          simp only [List.countP_cons]
          cases hp : p b
          · simp; omega
          · rw [hb b (by simp) hp]; simp; exact this
      exact key l fun x hx => h x (by simp [hx])
    simp only [List.countP_cons]
    rcases List.mem_cons.1 hx with rfl | hx
    · rw [h1, h2]; simp; omega
    · have ih := countP_lt (l := l) (fun x hx => h x (by simp [hx])) ⟨x, hx, h1, h2⟩
      cases hp : p a
      · simp; omega
      · rw [h a (by simp) hp]; simp; exact ih

section
variable {Z : Base} {P : Program} {G : Globs} {ops : Array Oper}
set_option maxHeartbeats 2000000 in
theorem draw_sound (hP : NoNum P) (hm : P.follows .mixedOrders = true) {σ0 σ' : St} {nb0 : Nat} {tr : List (Nat × Nat × Eff)} (hrun : runD P ops (List.range ops.size) σ0 nb0 = .ok tr σ')
    (hord : ordAll (Region.before ops) (tr.map (·.2.2)) 0 (tr.map (·.2.2)) = true) (hed : edgesOK ops = true) (hnb : nbAll ops σ0 (tr.map (·.2.2)) 0 tr = true)
    {η : Env} {M : Mem} {tmps : Array Value} {w : World} {d : List Deferred} (hr : Rel Z η M σ0 tmps w) (hev : ∀ p ∈ tr, ∀ x ∈ p.2.2.evs, EvOK P Z.G η.ρ x) {Q : Exit → Act → World → Prop} {id : Nat} (hk : After Z η M σ' d (Q .normal)) : (Code.region id ops true).wp P Q ⟨tmps, d⟩ w := by
  rw [List.range_eq_range'] at hrun
  obtain ⟨hlen, hfin, hstep⟩ := runD_spec ops.size 0 hrun
  generalize heffs : tr.map (·.2.2) = effs at *
  have hel : effs.length = ops.size := by rw [← heffs]; simpa using hlen
  -- of each operation: its effect
  have hop : ∀ (i : Nat) (o : Oper), ops[i]? = some o → ∃ nb nv e, tr[i]? = some (nb, nv, e) ∧ effs[i]? = some e ∧ stepD P ops (ap (fun x => decide (x < i)) 0 effs σ0) nb nv o = .ok e := by
    intro i o ho
    have hi : i < ops.size := (Array.getElem?_eq_some_iff.1 ho).1
    obtain ⟨⟨nb, nv, e⟩, htr⟩ : ∃ p, tr[i]? = some p := ⟨_, List.getElem?_eq_getElem (by omega)⟩
    obtain ⟨o', h1, h2⟩ := hstep i _ htr
    rw [Nat.zero_add, ho] at h1
    cases h1
    have h3 : effs[i]? = some e := by
      have := congrArg (fun l => l[i]?) heffs
      simp [htr] at this
      exact this.symm
    refine ⟨nb, nv, e, htr, h3, ?_⟩
    have := h2 0
    rw [Nat.zero_add] at this
    exact this
  have hconf : ∀ (i k : Nat) (ei ek : Eff) (ok : Oper) (S : Nat → Bool), (∀ (k : Nat) (o : Oper), ops[k]? = some o → S k = true → EdgesIn S o) → effs[i]? = some ei → effs[k]? = some ek → ops[k]? = some ok → i < k → confl ei ek = true → EdgesIn S ok → S i = true := by
    intro i k ei ek ok S hdc hei hek hok hlt hc he
    have := ordAll_sound hord k ek hek i ei (by omega) hei hc
    rw [Nat.zero_add] at this
    exact before_sound hdc hok this he
  have hopk : ∀ (k : Nat) (e : Eff), effs[k]? = some e → ∃ o, ops[k]? = some o := by
    intro k e he
    have : k < ops.size := by rw [← hel]; exact (List.getElem?_eq_some_iff.1 he).1
    exact ⟨ops[k], Array.getElem?_eq_getElem this⟩
  have main : ∀ (fuel : Nat) (listed : Array Bool) (η1 : Env) (M1 : Mem) (tmps : Array Value) (w : World), η.le η1 → M.le M1 → listed.size = ops.size →
      (∀ (k : Nat) (o : Oper), ops[k]? = some o → listed.getD k false = true → EdgesIn (fun x => listed.getD x false) o) →
      (List.range ops.size).countP (fun k => !listed.getD k false) ≤ fuel → Rel Z η1 M1 (ap (fun x => listed.getD x false) 0 effs σ0) tmps w → wpAny P .any ops Q fuel listed ⟨tmps, d⟩ w := by
    intro fuel
    induction fuel with
    | zero =>
      intro listed η1 M1 tmps w he hM hsz hdc hcnt hrel
      have hall : ∀ k, k < ops.size → listed.getD k false = true := by
        intro k hk
        have h0 : (List.range ops.size).countP (fun k => !listed.getD k false) = 0 := by omega
        rw [List.countP_eq_zero] at h0
        have := h0 k (by simpa using hk)
        simpa using this
      refine ⟨?_, ?_⟩
      · unfold Region.ready
        rw [List.filter_eq_nil_iff]
        intro k hk
        have hk' : k < ops.size := by simpa using hk
        have := hall k hk'
        have h2 : listed.getD k true = true := by
          rw [Array.getD_eq_getD_getElem?] at this ⊢
          rw [Array.getElem?_eq_getElem (by omega)] at this ⊢
          simpa using this
        simp [h2]
      · have hs : ap (fun x => listed.getD x false) 0 effs σ0 = σ' := by
          rw [← hfin 0]
          have apc : ∀ (S S' : Nat → Bool) (l : List Eff) (j : Nat) (σ : St), (∀ k, k < l.length → S (j + k) = S' (j + k)) → ap S j l σ = ap S' j l σ := by
            intro S S' l
            induction l with
            | nil => intro j σ _; rfl
            | cons e l ih =>
              intro j σ hS
              simp only [ap]
              have h0 := hS 0 (by simp)
              simp only [Nat.add_zero] at h0
              rw [h0, ih (j + 1) _ fun k hk => by
                have := hS (k + 1) (by simp; omega)
                rw [show j + 1 + k = j + (k + 1) by omega]; exact this]
          refine apc _ _ _ _ _ fun k hk => ?_
          have := hall (0 + k) (by omega)
          rw [this]
          simp; omega
        rw [hs] at hrel
        exact hk η1 M1 tmps w he hM hrel
    | succ fuel ih =>
      intro listed η1 M1 tmps w he hM hsz hdc hcnt hrel
      refine ⟨fun hready => ?_, fun i hi => ?_⟩
      · have hall : ∀ n k, k < n → k < ops.size → listed.getD k false = true := by
          intro n
          induction n with
          | zero => intro k hk; omega
          | succ n ihn =>
            intro k hk hks
            by_cases hkn : k < n
            · exact ihn k hkn hks
            · have hkk : k = n := by omega
              subst hkk
              have hnot : k ∉ Region.ready .any ops listed := by rw [hready]; simp
              unfold Region.ready at hnot
              simp only [List.mem_filter, List.mem_range, not_and, Bool.not_eq_true] at hnot
              have := hnot hks
              rw [Array.getElem?_eq_getElem hks] at this
              simp only [Option.map_some, Option.getD_some, Bool.and_eq_false_iff, Bool.not_eq_false'] at this
              rcases this with h1 | h1
              · rw [Array.getD_eq_getD_getElem?] at h1 ⊢
                rw [Array.getElem?_eq_getElem (by omega)] at h1 ⊢
                simpa using h1
              · exfalso
                have hed' := List.all_eq_true.1 hed k (by simpa using hks)
                rw [Array.getElem?_eq_getElem hks] at hed'
                simp only [] at hed'
                have : (ops[k].after.all fun e => !Region.binds .any e || listed.getD e.on false) = true := by
                  rw [← Array.all_toList]
                  rw [List.all_eq_true]
                  intro e hme
                  have := List.all_eq_true.1 hed' e hme
                  simp only [Bool.or_eq_true, Bool.not_eq_true', decide_eq_true_eq] at this ⊢
                  rcases this with h2 | h2
                  · exact .inl h2
                  · exact .inr (ihn e.on h2 (by omega))
                rw [this] at h1; cases h1
        have hs : ap (fun x => listed.getD x false) 0 effs σ0 = σ' := by
          rw [← hfin 0]
          have apc : ∀ (S S' : Nat → Bool) (l : List Eff) (j : Nat) (σ : St), (∀ k, k < l.length → S (j + k) = S' (j + k)) → ap S j l σ = ap S' j l σ := by
            intro S S' l
            induction l with
            | nil => intro j σ _; rfl
            | cons e l ih =>
              intro j σ hS
              simp only [ap]
              have h0 := hS 0 (by simp)
              simp only [Nat.add_zero] at h0
              rw [h0, ih (j + 1) _ fun k hk => by
                have := hS (k + 1) (by simp; omega)
                rw [show j + 1 + k = j + (k + 1) by omega]; exact this]
          refine apc _ _ _ _ _ fun k hk => ?_
          have := hall (0 + k + 1) (0 + k) (by omega) (by omega)
          rw [this]
          simp; omega
        rw [hs] at hrel
        exact hk η1 M1 tmps w he hM hrel
      · -- operation i comes up
        unfold Region.ready at hi
        simp only [List.mem_filter, List.mem_range, Bool.and_eq_true, Bool.not_eq_true'] at hi
        obtain ⟨his, hnl, hedg⟩ := hi
        have ho : ops[i]? = some ops[i] := Array.getElem?_eq_getElem his
        rw [ho] at hedg
        simp only [Option.map_some, Option.getD_some] at hedg
        have hein : EdgesIn (fun x => listed.getD x false) ops[i] := by
          intro e hme hb
          rw [← Array.all_toList] at hedg
          have := List.all_eq_true.1 hedg e hme
          simpa [hb] using this
        have hSi : listed.getD i false = false := by
          rw [Array.getD_eq_getD_getElem?] at hnl ⊢
          rw [Array.getElem?_eq_getElem (by omega)] at hnl ⊢
          simpa using hnl
        obtain ⟨nb, nv, e, htr, hei, hst⟩ := hop i _ ho
        -- what it reads is as in the text's order
        have hread : ∀ x, e.reads x → (ap (fun x => listed.getD x false) 0 effs σ0).get x = (ap (fun x => decide (x < i)) 0 effs σ0).get x := by
          intro x hx
          rw [ap_get0, ap_get0]
          rw [lastW_congr effs 0 none fun k ek hek hw => ?_]
          rw [Nat.zero_add]
          obtain ⟨hc1, hc2⟩ := confl_read hx hw
          obtain ⟨ok, hok⟩ := hopk k ek hek
          rcases Nat.lt_trichotomy k i with hlt | heq | hgt
          · have := hconf k i ek e _ _ hdc hek hei ho hlt hc2 hein
            (try simp only [] at this)
            rw [this]; simp [hlt]
          · subst heq; rw [hSi]; simp
          · have : listed.getD k false = false := by
              cases hSk : listed.getD k false with
              | false => rfl
              | true =>
                have := hconf i k e ek _ _ hdc hei hek hok hgt hc1 (hdc k ok hok hSk)
                (try simp only [] at this)
                rw [hSi] at this; cases this
            rw [this]; simp; omega
        have hgett : ∀ (σ1 σ2 : St) (t : Nat), σ1.get (.inl t) = σ2.get (.inl t) → σ1.tmps[t]? = σ2.tmps[t]? := by
          intro σ1 σ2 t h
          simp only [St.get] at h
          cases h1 : σ1.tmps[t]? <;> cases h2 : σ2.tmps[t]? <;> simp_all
        have hgetb : ∀ (σ1 σ2 : St) (t : Nat), σ1.get (.inr t) = σ2.get (.inr t) → σ1.blks[t]? = σ2.blks[t]? := by
          intro σ1 σ2 t h
          simp only [St.get] at h
          cases h1 : σ1.blks[t]? <;> cases h2 : σ2.blks[t]? <;> simp_all
        have hrt : e.rt = opTmps ops ops[i] ∧ e.rb = touchB (ap (fun x => decide (x < i)) 0 effs σ0) ops[i] := by
          have hact : ∀ {σ : St} {e : Eff}, actD P ops σ nb nv ops[i] = .ok e → e.rt = opTmps ops ops[i] ∧ e.rb = touchB σ ops[i] := by
            intro σ e h
            unfold actD at h
            split at h
            · simp only [SR.ok.injEq] at h; subst h; exact ⟨rfl, rfl⟩
            · split at h
              · split at h <;> cases h
              · split at h <;> cases h
          unfold stepD at hst
          split at hst
          · exact hact hst
          · split at hst
            · simp only [SR.ok.injEq] at hst; subst hst; exact ⟨rfl, rfl⟩
            · split at hst
              · split at hst
                · exact hact hst
                · simp only [SR.ok.injEq] at hst; subst hst; exact ⟨rfl, rfl⟩
              · split at hst
                · simp only [SR.ok.injEq] at hst; subst hst; exact ⟨rfl, rfl⟩
                · split at hst <;> cases hst
        have hst' : stepD P ops (ap (fun x => listed.getD x false) 0 effs σ0) nb nv ops[i] = .ok e := by
          rw [← hst]
          refine stepD_congr (σ := ap (fun x => decide (x < i)) 0 effs σ0) (fun t ht => ?_) (fun j hj => ?_) ((ap_fix _ _ _ _).symm'.trans' (ap_fix _ _ _ _))
          · exact (hgett _ _ _ (hread (.inl t) (by simp only [Eff.reads]; rw [hrt.1]; exact ht))).symm
          · exact (hgetb _ _ _ (hread (.inr j) (by simp only [Eff.reads]; rw [hrt.2]; exact hj))).symm
        have hnbs : ∀ q, q < takesD ops[i] → (ap (fun x => listed.getD x false) 0 effs σ0).blks[nb + q]? = some .none := by
          intro q hq
          obtain ⟨n1, n2, n3⟩ := nbAll_sound hnb i _ _ htr (by rw [Nat.zero_add]; exact ho) q hq
          simp only [] at n1 n2 n3
          generalize nb + q = nb at *
          have hg : (ap (fun x => listed.getD x false) 0 effs σ0).get (.inr nb) = σ0.get (.inr nb) := by
            rw [ap_get0, lastW_congr (S' := fun _ => false) effs 0 none fun k ek hek hw => ?_]
            · have key : ∀ (l : List Eff) (i : Nat) (r : Option (AV ⊕ Blk)), lastW (fun _ => false) (.inr nb) i l r = r := by
                intro l
                induction l with
                | nil => intro i r; rfl
                | cons e l ih => intro i r; simp only [lastW, Bool.false_eq_true, if_false]; exact ih _ _
              rw [key]
              cases h : σ0.get (.inr nb) <;> simp
            · rw [Nat.zero_add]
              have hmem : nb ∈ ek.wb := by
                simp only [Eff.w, Option.isSome_map] at hw
                exact lastU_mem hw
              obtain ⟨ok, hok⟩ := hopk k ek hek
              rcases Nat.lt_trichotomy k i with hlt | heq | hgt
              · exact absurd hmem (n2 k ek (by omega) hek)
              · subst heq; exact hSi
              · cases hSk : listed.getD k false with
                | false => rfl
                | true =>
                  have hc : confl e ek = true := by
                    rcases n3 with n3 | n3
                    · have : anyB e.wb ek.wb = true := List.any_eq_true.2 ⟨nb, n3, memN_of hmem⟩
                      simp [confl, this]
                    · exact absurd hmem (n3 k ek hek)
                  have := hconf i k e ek _ _ hdc hei hek hok hgt hc (hdc k ok hok hSk)
                  (try simp only [] at this)
                  rw [hSi] at this; cases this
          rw [hgetb _ _ _ hg]
          exact n1
        have hnb' : allocB ops[i].op = true → (ap (fun x => listed.getD x false) 0 effs σ0).blks[nb]? = some .none := fun hal => hnbs 0 (by simp [takesD, hal])
        have hroom' : ∀ q, q < roomD ops[i] → (ap (fun x => listed.getD x false) 0 effs σ0).blks[nb + q]? = some .none := fun q hq => hnbs q (by
          unfold takesD
          split
          · rename_i hal
            simp [roomD, alloc_call hal] at hq
          · exact hq)
        refine stepD_sound hP hst' hrel hnb' hroom' (fun x hx => by rw [he.ρ]; exact hev (nb, nv, e) (List.mem_of_getElem? htr) x hx) ho ?_
        intro η2 M2 tmps2 w2 he2 hM2 hrel2
        have hset : ∀ x, (listed.setIfInBounds i true).getD x false = if x = i then true else listed.getD x false := by
          intro x
          rw [Array.getD_eq_getD_getElem?, Array.getElem?_setIfInBounds]
          by_cases hx : i = x
          · subst hx; simp [show i < listed.size by omega]
          · rw [if_neg hx, if_neg (fun h => hx h.symm), Array.getD_eq_getD_getElem?]
        refine ih _ η2 M2 tmps2 w2 (he.trans he2) (hM.trans hM2) (by simpa using hsz) ?_ ?_ (hrel2.same (fun x => ?_) (((app_fix _ _).symm'.trans' (ap_fix _ _ _ _).symm').trans' (ap_fix _ _ _ _)))
        · intro k o hok hSk e' hme hb
          simp only [] at *
          rw [hset] at hSk ⊢
          split
          · rfl
          · split at hSk
            · rename_i hki
              subst hki
              rw [ho] at hok
              cases hok
              exact hein e' hme hb
            · exact hdc k o hok hSk e' hme hb
        · have : (List.range ops.size).countP (fun k => !(listed.setIfInBounds i true).getD k false) < (List.range ops.size).countP (fun k => !listed.getD k false) := by
            refine countP_lt (fun x _ hx => ?_) ⟨i, by simpa using his, by simp [hSi], by rw [hset]; simp⟩
            rw [hset] at hx
            split at hx
            · simp at hx
            · exact hx
          omega
        · rw [Eff.get_app, get_isSome, ap_get0, ap_get0]
          cases hw : e.w x with
          | some v =>
            rw [lastW_last effs 0 none i e v hei hw (by rw [Nat.zero_add, hset]; simp) fun m em hlt hem hwm => ?_]
            · cases hσ : σ0.get x <;> simp
            · rw [Nat.zero_add, hset, if_neg (by omega)]
              obtain ⟨om, hom⟩ := hopk m em hem
              cases hSm : listed.getD m false with
              | false => rfl
              | true =>
                have hc : confl e em = true := confl_write (x := x) (by rw [hw]; rfl) hwm
                have := hconf i m e em _ _ hdc hei hem hom hlt hc (hdc m om hom hSm)
                (try simp only [] at this)
                rw [hSi] at this; cases this
          | none =>
            rw [lastW_congr (S := fun x => (listed.setIfInBounds i true).getD x false) (S' := fun x => listed.getD x false) effs 0 none fun k ek hek hwk => ?_]
            · cases hσ : σ0.get x <;> simp
            · rw [Nat.zero_add, hset, if_neg (fun hki => ?_)]
              subst hki
              rw [hei] at hek
              cases hek
              rw [hw] at hwk; cases hwk
  refine wp_region_any hm (main ops.size (Array.replicate ops.size false) η M tmps { w with drawn := w.drawn + 1 } (Env.le.refl _) (Mem.le.refl _) (by simp) (fun k o hok hSk => ?_) ?_ ?_)
  · exfalso
    rw [Array.getD_eq_getD_getElem?] at hSk
    simp [Array.getElem?_replicate] at hSk
    split at hSk <;> simp at hSk
  · exact Nat.le_trans (List.countP_le_length) (by simp)
  · have h0 : Rel Z η M σ0 tmps w.drew := ⟨hr.wr.drew, hr.sz, hr.tmp, hr.asm, hr.pj, hr.gl⟩
    refine Rel.same h0 (fun x => ?_) (ap_fix _ _ _ _)
    rw [ap_get0, lastW_congr (S' := fun _ => false) effs 0 none fun k ek hek hw => by
      rw [Array.getD_eq_getD_getElem?]
      simp only [Array.getElem?_replicate]
      split <;> rfl]
    have key : ∀ (l : List Eff) (i : Nat) (r : Option (AV ⊕ Blk)), lastW (fun _ => false) x i l r = r := by
      intro l
      induction l with
      | nil => intro i r; rfl
      | cons e l ih => intro i r; simp only [lastW, Bool.false_eq_true, if_false]; exact ih _ _
    rw [key]
    cases h : σ0.get x <;> simp
end

end Go.Proofs.Ytindphofgojfbaa.Sy
