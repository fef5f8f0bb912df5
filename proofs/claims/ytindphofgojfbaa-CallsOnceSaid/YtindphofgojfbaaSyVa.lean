/-
  A part of a symbolic walk that is proved sound: what the functions of a program do with data. No conditions.
-/
import Derived.Test.YtindphofgojfbaaSyV
set_option linter.unusedSimpArgs false
set_option linter.unusedVariables false
namespace Go.Proofs.Ytindphofgojfbaa.Sy
open Go.RowKit
def PinJ (Z : Base) (pin : Pins) (tmps : Array Value) (w' : World) : Prop :=
  ∀ q ∈ pin, ∃ b, (q.2, (b, 1)) ∈ Z.pal ∧ Z.own b ∧ tmps.getD q.1 undef = .pointer (some ⟨b, 0, none⟩) ∧ ∃ v T, w'.heap[b]? = some (.cells #[v] T (0, 0))
theorem pinS_get {σ : St} {pin : Pins} (h : pinS σ pin = true) {q : Nat × Nat} (hq : q ∈ pin) : σ.tmps[q.1]? = some (.v (.c (.ptr q.2 0))) ∧ (∃ a, σ.blks[q.2]? = some (.cells [a])) ∧ q.2 ∈ σ.pj := by
  have h := List.all_eq_true.1 h q hq
  simp only [Bool.and_eq_true] at h
  obtain ⟨⟨h1, h2⟩, h3⟩ := h
  refine ⟨?_, ?_, memN_iff.1 h3⟩
  · split at h1
    · rename_i j he
      have := Nat.eq_of_beq_eq_true h1
      subst this
      exact he
    · cases h1
  · split at h2
    · rename_i a he
      exact ⟨a, he⟩
    · cases h2
theorem pinJ_of {Z : Base} {η : Env} {M : Mem} {σ : St} {pin : Pins} {tmps : Array Value} {w w' : World} (hr : Rel Z η M σ tmps w) (h : pinS σ pin = true)
    (hk : ∀ q ∈ pin, ∀ (l : List A) (b c : Nat), σ.blks[q.2]? = some (.cells l) → η.al q.2 = some (b, c) → 0 < c → w'.heap[b]? = w.heap[b]?) : PinJ Z pin tmps w' := by
  intro q hq
  obtain ⟨h1, ⟨a, h2⟩, h3⟩ := pinS_get h hq
  obtain ⟨b, c, vs, T, k1, k2, k3, k4, k5, k6⟩ := hr.wr.blk _ _ h2
  subst k2
  have hv := hr.tmp _ _ h1
  obtain ⟨b', c', g1, g2⟩ := AbsV_c hv
  rw [k1] at g1
  cases g1
  have hl := k5.length
  obtain ⟨v, rfl⟩ : ∃ v, vs = [v] := by
    cases vs with
    | nil => simp at hl
    | cons v vs => cases vs with
      | nil => exact ⟨v, rfl⟩
      | cons _ _ => simp at hl
  refine ⟨b, ?_, k3, g2, v, T, by rw [hk q hq _ b 1 h2 k1 (by omega)]; simpa using k4⟩
  rw [← hr.pj] at h3
  obtain ⟨⟨p1, p2⟩, hp, he⟩ := List.mem_map.1 h3
  simp only at he
  subst he
  have := hr.wr.pal _ p2 hp
  rw [k1] at this
  cases this
  exact hp
def PanQ (K : FR → Prop) (Z : Base) (d : List Deferred) (pin : Pins) (Q : Exit → Act → World → Prop) : Prop :=
  ∀ (tmps : Array Value) (w' : World) (T : TypeId) (u : Value) (x : D) (es : List Sh), K (.pan T x) → PinJ Z pin tmps w' → BelowX Z.n0 Z.S Z.W0 w' → RepT (fun _ _ => none) (.g es) u x → Q (.panic [{ v := .iface T u, recovered := false }]) ⟨tmps, d⟩ w'

section
variable {Z : Base} {P : Program} {G : Globs} {ops : Array Oper} {K : FR → Prop} {d : List Deferred}
set_option maxHeartbeats 2000000 in
theorem draw_pan (hP : NoNum P) (hm : P.follows .mixedOrders = true) {σ0 σ' : St} {nb0 : Nat} {tr : List (Nat × Nat × Eff)} (hrun : runD P ops (List.range ops.size) σ0 nb0 = .ok tr σ')
    (hord : ordAll (Region.before ops) (tr.map (·.2.2)) 0 (tr.map (·.2.2)) = true) (hed : edgesOK ops = true) (hnb : nbAll ops σ0 (tr.map (·.2.2)) 0 tr = true)
    {η : Env} {M : Mem} {tmps : Array Value} {w : World} (hr : Rel Z η M σ0 tmps w) {pin : Pins} {ic : Nat} {oc : Oper} {pc : Nat × Nat × Eff} (hoc : ops[ic]? = some oc) (hpc : tr[ic]? = some pc) {f : FuncId} {ts us : List TS} {as : List E} {n : Nat} (hcall : callIn oc pc.2.2 = some (f, ts, as, us, n))
    (hpd : panD ops σ0 pin ic tr = true) {T : TypeId} {x : D} (hpan : Fun P Z.G f ts (as.map (·.den η.ρ)) us (.pan T x)) (hK : K (.pan T x))
    (hev : ∀ e ∈ evsAt ops ic false tr, EvOK P Z.G η.ρ e) {Q : Exit → Act → World → Prop} (hQ : PanQ K Z d pin Q) {id : Nat} : (Code.region id ops true).wp P Q ⟨tmps, d⟩ w := by
  simp only [panD, Bool.and_eq_true] at hpd
  obtain ⟨hps, hpd⟩ := hpd
  have hpd : ∀ (m : Nat) (p : Nat × Nat × Eff), tr[m]? = some p → (late ops ic m = true ∨ ∀ q ∈ pin, (m = ic ∨ p.2.2.dst ≠ some q.1) ∧ q.2 ∉ p.2.2.wb) := by
    intro m p hp
    have := List.all_eq_true.1 hpd m (by simpa using (List.getElem?_eq_some_iff.1 hp).1)
    rw [hp] at this
    simp only [Bool.and_eq_true, Bool.or_eq_true] at this
    rcases this.2 with h | h
    · exact .inl h
    · refine .inr fun q hq => ?_
      have := List.all_eq_true.1 h q hq
      simp only [Bool.and_eq_true, Bool.or_eq_true, Bool.not_eq_true'] at this
      refine ⟨?_, fun hm => by rw [memN_iff.2 hm] at this; simp at this⟩
      rcases this.1 with h | h
      · exact .inl (Nat.eq_of_beq_eq_true h)
      · refine .inr fun he => ?_
        rw [he] at h
        have : memN q.1 [q.1] = true := memN_iff.2 (by simp)
        simp only [optB, this] at h
        cases h
  have hcall' : isCallOp oc = true ∧ oc.guard = none ∧ pc.2.2.evs = [.call f ts as us n] := by
    unfold callIn at hcall
    split at hcall
    · rename_i hc
      simp only [Bool.and_eq_true, Option.isNone_iff_eq_none] at hc
      split at hcall
      · rename_i he
        simp only [Option.some.injEq, Prod.mk.injEq] at hcall
        obtain ⟨rfl, rfl, rfl, rfl, rfl⟩ := hcall
        exact ⟨hc.1, hc.2, he⟩
      · cases hcall
    · cases hcall
  obtain ⟨hco, hgd, hce⟩ := hcall'
  have hev : ∀ (m : Nat) (p : Nat × Nat × Eff), m ≠ ic → tr[m]? = some p → late ops ic m = false → ∀ y ∈ p.2.2.evs, EvOK P Z.G η.ρ y := by
    intro m p hm hp hl y hy
    refine hev y ?_
    simp only [evsAt, List.mem_flatMap, List.mem_range]
    refine ⟨m, (List.getElem?_eq_some_iff.1 hp).1, ?_⟩
    have hne : Nat.beq m ic = false := by
      cases hb : Nat.beq m ic with
      | false => rfl
      | true => exact absurd (Nat.eq_of_beq_eq_true hb) hm
    rw [hne]
    simp only [Bool.false_eq_true, if_false, hl, hp]
    simpa using hy
  rw [List.range_eq_range'] at hrun
  obtain ⟨hlen, hfin, hstep⟩ := runD_spec ops.size 0 hrun
  generalize heffs : tr.map (·.2.2) = effs at *
  have hel : effs.length = ops.size := by rw [← heffs]; simpa using hlen
  -- of each operation: its effect
  have hop : ∀ (i : Nat) (o : Oper), ops[i]? = some o → ∃ nb nv e, tr[i]? = some (nb, nv, e) ∧ effs[i]? = some e ∧ stepD P ops (ap (fun x => decide (x < i)) 0 effs σ0) nb nv o = .ok e := by
    intro i o ho
    have hi : i < ops.size := (Array.getElem?_eq_some_iff.1 ho).1
    obtain ⟨⟨nb, nv, e⟩, htr⟩ : ∃ p, tr[i]? = some p := ⟨_, List.getElem?_eq_getElem (by omega)⟩
    obtain ⟨o', h1, h2⟩ := hstep i _ htr
    rw [Nat.zero_add, ho] at h1
    cases h1
    have h3 : effs[i]? = some e := by
      have := congrArg (fun l => l[i]?) heffs
      simp [htr] at this
      exact this.symm
    refine ⟨nb, nv, e, htr, h3, ?_⟩
    have := h2 0
    rw [Nat.zero_add] at this
    exact this
  have hconf : ∀ (i k : Nat) (ei ek : Eff) (ok : Oper) (S : Nat → Bool), (∀ (k : Nat) (o : Oper), ops[k]? = some o → S k = true → EdgesIn S o) → effs[i]? = some ei → effs[k]? = some ek → ops[k]? = some ok → i < k → confl ei ek = true → EdgesIn S ok → S i = true := by
    intro i k ei ek ok S hdc hei hek hok hlt hc he
    have := ordAll_sound hord k ek hek i ei (by omega) hei hc
    rw [Nat.zero_add] at this
    exact before_sound hdc hok this he
  have hopk : ∀ (k : Nat) (e : Eff), effs[k]? = some e → ∃ o, ops[k]? = some o := by
    intro k e he
    have : k < ops.size := by rw [← hel]; exact (List.getElem?_eq_some_iff.1 he).1
    exact ⟨ops[k], Array.getElem?_eq_getElem this⟩
  have hics : ic < ops.size := (Array.getElem?_eq_some_iff.1 hoc).1
  have main : ∀ (fuel : Nat) (listed : Array Bool) (η1 : Env) (M1 : Mem) (tmps : Array Value) (w : World), η.le η1 → M.le M1 → listed.size = ops.size →
      (∀ (k : Nat) (o : Oper), ops[k]? = some o → listed.getD k false = true → EdgesIn (fun x => listed.getD x false) o) →
      listed.getD ic false = false → (List.range ops.size).countP (fun k => !listed.getD k false) ≤ fuel → Rel Z η1 M1 (ap (fun x => listed.getD x false) 0 effs σ0) tmps w → wpAny P .any ops Q fuel listed ⟨tmps, d⟩ w := by
    intro fuel
    induction fuel with
    | zero =>
      intro listed η1 M1 tmps w he hM hsz hdc hnic hcnt hrel
      have hall : ∀ k, k < ops.size → listed.getD k false = true := by
        intro k hk
        have h0 : (List.range ops.size).countP (fun k => !listed.getD k false) = 0 := by omega
        rw [List.countP_eq_zero] at h0
        have := h0 k (by simpa using hk)
        simpa using this
      refine ⟨?_, ?_⟩
      · unfold Region.ready
        rw [List.filter_eq_nil_iff]
        intro k hk
        have hk' : k < ops.size := by simpa using hk
        have := hall k hk'
        have h2 : listed.getD k true = true := by
          rw [Array.getD_eq_getD_getElem?] at this ⊢
          rw [Array.getElem?_eq_getElem (by omega)] at this ⊢
          simpa using this
        simp [h2]
      · exfalso
        have := hall ic hics
        rw [hnic] at this; cases this
    | succ fuel ih =>
      intro listed η1 M1 tmps w he hM hsz hdc hnic hcnt hrel
      refine ⟨fun hready => ?_, fun i hi => ?_⟩
      · have hall : ∀ n k, k < n → k < ops.size → listed.getD k false = true := by
          intro n
          induction n with
          | zero => intro k hk; omega
          | succ n ihn =>
            intro k hk hks
            by_cases hkn : k < n
            · exact ihn k hkn hks
            · have hkk : k = n := by omega
              subst hkk
              have hnot : k ∉ Region.ready .any ops listed := by rw [hready]; simp
              unfold Region.ready at hnot
              simp only [List.mem_filter, List.mem_range, not_and, Bool.not_eq_true] at hnot
              have := hnot hks
              rw [Array.getElem?_eq_getElem hks] at this
              simp only [Option.map_some, Option.getD_some, Bool.and_eq_false_iff, Bool.not_eq_false'] at this
              rcases this with h1 | h1
              · rw [Array.getD_eq_getD_getElem?] at h1 ⊢
                rw [Array.getElem?_eq_getElem (by omega)] at h1 ⊢
                simpa using h1
              · exfalso
                have hed' := List.all_eq_true.1 hed k (by simpa using hks)
                rw [Array.getElem?_eq_getElem hks] at hed'
                simp only [] at hed'
                have : (ops[k].after.all fun e => !Region.binds .any e || listed.getD e.on false) = true := by
                  rw [← Array.all_toList]
                  rw [List.all_eq_true]
                  intro e hme
                  have := List.all_eq_true.1 hed' e hme
                  simp only [Bool.or_eq_true, Bool.not_eq_true', decide_eq_true_eq] at this ⊢
                  rcases this with h2 | h2
                  · exact .inl h2
                  · exact .inr (ihn e.on h2 (by omega))
                rw [this] at h1; cases h1
        exfalso
        have := hall (ic + 1) ic (by omega) hics
        rw [hnic] at this; cases this
      · -- operation i comes up
        unfold Region.ready at hi
        simp only [List.mem_filter, List.mem_range, Bool.and_eq_true, Bool.not_eq_true'] at hi
        obtain ⟨his, hnl, hedg⟩ := hi
        have ho : ops[i]? = some ops[i] := Array.getElem?_eq_getElem his
        rw [ho] at hedg
        simp only [Option.map_some, Option.getD_some] at hedg
        have hein : EdgesIn (fun x => listed.getD x false) ops[i] := by
          intro e hme hb
          rw [← Array.all_toList] at hedg
          have := List.all_eq_true.1 hedg e hme
          simpa [hb] using this
        have hSi : listed.getD i false = false := by
          rw [Array.getD_eq_getD_getElem?] at hnl ⊢
          rw [Array.getElem?_eq_getElem (by omega)] at hnl ⊢
          simpa using hnl
        obtain ⟨nb, nv, e, htr, hei, hst⟩ := hop i _ ho
        -- what it reads is as in the text's order
        have hread : ∀ x, e.reads x → (ap (fun x => listed.getD x false) 0 effs σ0).get x = (ap (fun x => decide (x < i)) 0 effs σ0).get x := by
          intro x hx
          rw [ap_get0, ap_get0]
          rw [lastW_congr effs 0 none fun k ek hek hw => ?_]
          rw [Nat.zero_add]
          obtain ⟨hc1, hc2⟩ := confl_read hx hw
          obtain ⟨ok, hok⟩ := hopk k ek hek
          rcases Nat.lt_trichotomy k i with hlt | heq | hgt
          · have := hconf k i ek e _ _ hdc hek hei ho hlt hc2 hein
            (try simp only [] at this)
            rw [this]; simp [hlt]
          · subst heq; rw [hSi]; simp
          · have : listed.getD k false = false := by
              cases hSk : listed.getD k false with
              | false => rfl
              | true =>
                have := hconf i k e ek _ _ hdc hei hek hok hgt hc1 (hdc k ok hok hSk)
                (try simp only [] at this)
                rw [hSi] at this; cases this
            rw [this]; simp; omega
        have hgett : ∀ (σ1 σ2 : St) (t : Nat), σ1.get (.inl t) = σ2.get (.inl t) → σ1.tmps[t]? = σ2.tmps[t]? := by
          intro σ1 σ2 t h
          simp only [St.get] at h
          cases h1 : σ1.tmps[t]? <;> cases h2 : σ2.tmps[t]? <;> simp_all
        have hgetb : ∀ (σ1 σ2 : St) (t : Nat), σ1.get (.inr t) = σ2.get (.inr t) → σ1.blks[t]? = σ2.blks[t]? := by
          intro σ1 σ2 t h
          simp only [St.get] at h
          cases h1 : σ1.blks[t]? <;> cases h2 : σ2.blks[t]? <;> simp_all
        have hrt : e.rt = opTmps ops ops[i] ∧ e.rb = touchB (ap (fun x => decide (x < i)) 0 effs σ0) ops[i] := by
          have hact : ∀ {σ : St} {e : Eff}, actD P ops σ nb nv ops[i] = .ok e → e.rt = opTmps ops ops[i] ∧ e.rb = touchB σ ops[i] := by
            intro σ e h
            unfold actD at h
            split at h
            · simp only [SR.ok.injEq] at h; subst h; exact ⟨rfl, rfl⟩
            · split at h
              · split at h <;> cases h
              · split at h <;> cases h
          unfold stepD at hst
          split at hst
          · exact hact hst
          · split at hst
            · simp only [SR.ok.injEq] at hst; subst hst; exact ⟨rfl, rfl⟩
            · split at hst
              · split at hst
                · exact hact hst
                · simp only [SR.ok.injEq] at hst; subst hst; exact ⟨rfl, rfl⟩
              · split at hst
                · simp only [SR.ok.injEq] at hst; subst hst; exact ⟨rfl, rfl⟩
                · split at hst <;> cases hst
        have hst' : stepD P ops (ap (fun x => listed.getD x false) 0 effs σ0) nb nv ops[i] = .ok e := by
          rw [← hst]
          refine stepD_congr (σ := ap (fun x => decide (x < i)) 0 effs σ0) (fun t ht => ?_) (fun j hj => ?_) ((ap_fix _ _ _ _).symm'.trans' (ap_fix _ _ _ _))
          · exact (hgett _ _ _ (hread (.inl t) (by simp only [Eff.reads]; rw [hrt.1]; exact ht))).symm
          · exact (hgetb _ _ _ (hread (.inr j) (by simp only [Eff.reads]; rw [hrt.2]; exact hj))).symm
        have hnbs : ∀ q, q < takesD ops[i] → (ap (fun x => listed.getD x false) 0 effs σ0).blks[nb + q]? = some .none := by
          intro q hq
          obtain ⟨n1, n2, n3⟩ := nbAll_sound hnb i _ _ htr (by rw [Nat.zero_add]; exact ho) q hq
          simp only [] at n1 n2 n3
          generalize nb + q = nb at *
          have hg : (ap (fun x => listed.getD x false) 0 effs σ0).get (.inr nb) = σ0.get (.inr nb) := by
            rw [ap_get0, lastW_congr (S' := fun _ => false) effs 0 none fun k ek hek hw => ?_]
            · have key : ∀ (l : List Eff) (i : Nat) (r : Option (AV ⊕ Blk)), lastW (fun _ => false) (.inr nb) i l r = r := by
                intro l
                induction l with
                | nil => intro i r; rfl
                | cons e l ih => intro i r; simp only [lastW, Bool.false_eq_true, if_false]; exact ih _ _
              rw [key]
              cases h : σ0.get (.inr nb) <;> simp
            · rw [Nat.zero_add]
              have hmem : nb ∈ ek.wb := by
                simp only [Eff.w, Option.isSome_map] at hw
                exact lastU_mem hw
              obtain ⟨ok, hok⟩ := hopk k ek hek
              rcases Nat.lt_trichotomy k i with hlt | heq | hgt
              · exact absurd hmem (n2 k ek (by omega) hek)
              · subst heq; exact hSi
              · cases hSk : listed.getD k false with
                | false => rfl
                | true =>
                  have hc : confl e ek = true := by
                    rcases n3 with n3 | n3
                    · have : anyB e.wb ek.wb = true := List.any_eq_true.2 ⟨nb, n3, memN_of hmem⟩
                      simp [confl, this]
                    · exact absurd hmem (n3 k ek hek)
                  have := hconf i k e ek _ _ hdc hei hek hok hgt hc (hdc k ok hok hSk)
                  (try simp only [] at this)
                  rw [hSi] at this; cases this
          rw [hgetb _ _ _ hg]
          exact n1
        have hnb' : allocB ops[i].op = true → (ap (fun x => listed.getD x false) 0 effs σ0).blks[nb]? = some .none := fun hal => hnbs 0 (by simp [takesD, hal])
        have hroom' : ∀ q, q < roomD ops[i] → (ap (fun x => listed.getD x false) 0 effs σ0).blks[nb + q]? = some .none := fun q hq => hnbs q (by
          unfold takesD
          split
          · rename_i hal
            simp [roomD, alloc_call hal] at hq
          · exact hq)
        by_cases hiic : i = ic
        · -- the call panics
          subst hiic
          rw [ho] at hoc
          cases hoc
          rw [htr] at hpc
          cases hpc
          simp only at hce hcall hpd
          have hnotlate : ∀ (m : Nat) (om : Oper), ops[m]? = some om → listed.getD m false = true → late ops i m = false := by
            intro m om hom hSm
            cases hl : late ops i m with
            | false => rfl
            | true =>
              have := before_sound hdc hom hl (hdc m om hom hSm)
              (try simp only [] at this)
              rw [hSi] at this; cases this
          have hkeep : ∀ y : Nat ⊕ Nat, (∀ (m : Nat) (em : Eff), effs[m]? = some em → listed.getD m false = true → (em.w y).isSome = true → False) → (ap (fun x => listed.getD x false) 0 effs σ0).get y = σ0.get y := by
            intro y hy
            rw [ap_get0, lastW_congr (S' := fun _ => false) effs 0 none fun k ek hek hw => ?_]
            · have key : ∀ (l : List Eff) (i : Nat) (r : Option (AV ⊕ Blk)), lastW (fun _ => false) y i l r = r := by
                intro l
                induction l with
                | nil => intro i r; rfl
                | cons e l ih => intro i r; simp only [lastW, Bool.false_eq_true, if_false]; exact ih _ _
              rw [key]
              cases h : σ0.get y <;> simp
            · rw [Nat.zero_add]
              cases hSk : listed.getD k false with
              | false => rfl
              | true => exact (hy k ek hek hSk hw).elim
          have hps' : pinS (ap (fun x => listed.getD x false) 0 effs σ0) pin = true := by
            unfold pinS
            refine List.all_eq_true.2 fun q hq => ?_
            have h0 := List.all_eq_true.1 hps q hq
            have htrk : ∀ (k : Nat) (ek : Eff), effs[k]? = some ek → listed.getD k false = true → (k = i ∨ ek.dst ≠ some q.1) ∧ q.2 ∉ ek.wb := by
              intro k ek hek hSk
              obtain ⟨ok, hok⟩ := hopk k ek hek
              obtain ⟨nb', nv', e', g1, g2, _⟩ := hop k ok hok
              rw [hek] at g2
              cases g2
              rcases hpd k _ g1 with hl | hl
              · rw [hnotlate k ok hok hSk] at hl; cases hl
              · exact hl q hq
            have e1 : (ap (fun x => listed.getD x false) 0 effs σ0).tmps[q.1]? = σ0.tmps[q.1]? := by
              refine hgett _ _ _ (hkeep (.inl q.1) fun k ek hek hSk hw => ?_)
              rcases (htrk k ek hek hSk).1 with rfl | hne
              · rw [hSi] at hSk; cases hSk
              · simp only [Eff.w] at hw
                split at hw
                · rename_i hd; exact hne hd
                · cases hw
            have e2 : (ap (fun x => listed.getD x false) 0 effs σ0).blks[q.2]? = σ0.blks[q.2]? := by
              refine hgetb _ _ _ (hkeep (.inr q.2) fun k ek hek hSk hw => ?_)
              simp only [Eff.w, Option.isSome_map] at hw
              exact (htrk k ek hek hSk).2 (lastU_mem hw)
            have e3 : (ap (fun x => listed.getD x false) 0 effs σ0).pj = σ0.pj := (ap_fix (fun x => listed.getD x false) effs 0 σ0).pj
            rw [e1, e2, e3]
            exact h0
          unfold wpOp
          rw [ho]
          simp only []
          rw [if_pos (by simp [Region.wanted, hgd])]
          unfold stepD at hst'
          rw [hgd] at hst'
          simp only [] at hst'
          unfold actD at hst'
          split at hst'
          · rename_i out hact
            simp only [SR.ok.injEq] at hst'
            subst hst'
            refine .inl (act_pan hP hact hco rfl rfl (a := ⟨tmps, d⟩) (fun x => opd_sound hrel x) hrel.wr (by simpa [ctxD] using hroom') hce (by rw [he.ρ]; exact hpan) ?_)
            intro u es w' h1 h2 h3
            refine hQ tmps w' T u x es hK (pinJ_of hrel hps' fun q hq l b c hl hal hc0 => h3 q.2 l b c hl hal hc0 fun p hp e => ?_) h1 h2
            rcases hpd i _ htr with hl | hl
            · have := before_sound hdc ho hl hein
              (try simp only [] at this)
              rw [hSi] at this; cases this
            · exact (hl q hq).2 (List.mem_map.2 ⟨p, hp, e⟩)
          · exfalso
            split at hst'
            · split at hst' <;> cases hst'
            · split at hst' <;> cases hst'
        have hil : late ops ic i = false := by
          cases hl : late ops ic i with
          | false => rfl
          | true =>
            have := before_sound hdc ho hl hein
            (try simp only [] at this)
            rw [hnic] at this; cases this
        refine stepD_sound hP hst' hrel hnb' hroom' (fun x hx => by rw [he.ρ]; exact hev i (nb, nv, e) hiic htr hil x hx) ho ?_
        intro η2 M2 tmps2 w2 he2 hM2 hrel2
        have hset : ∀ x, (listed.setIfInBounds i true).getD x false = if x = i then true else listed.getD x false := by
          intro x
          rw [Array.getD_eq_getD_getElem?, Array.getElem?_setIfInBounds]
          by_cases hx : i = x
          · subst hx; simp [show i < listed.size by omega]
          · rw [if_neg hx, if_neg (fun h => hx h.symm), Array.getD_eq_getD_getElem?]
        refine ih _ η2 M2 tmps2 w2 (he.trans he2) (hM.trans hM2) (by simpa using hsz) ?_ (by rw [hset, if_neg (fun h => hiic h.symm)]; exact hnic) ?_ (hrel2.same (fun x => ?_) (((app_fix _ _).symm'.trans' (ap_fix _ _ _ _).symm').trans' (ap_fix _ _ _ _)))
        · intro k o hok hSk e' hme hb
          simp only [] at *
          rw [hset] at hSk ⊢
          split
          · rfl
          · split at hSk
            · rename_i hki
              subst hki
              rw [ho] at hok
              cases hok
              exact hein e' hme hb
            · exact hdc k o hok hSk e' hme hb
        · have : (List.range ops.size).countP (fun k => !(listed.setIfInBounds i true).getD k false) < (List.range ops.size).countP (fun k => !listed.getD k false) := by
            refine countP_lt (fun x _ hx => ?_) ⟨i, by simpa using his, by simp [hSi], by rw [hset]; simp⟩
            rw [hset] at hx
            split at hx
            · simp at hx
            · exact hx
          omega
        · rw [Eff.get_app, get_isSome, ap_get0, ap_get0]
          cases hw : e.w x with
          | some v =>
            rw [lastW_last effs 0 none i e v hei hw (by rw [Nat.zero_add, hset]; simp) fun m em hlt hem hwm => ?_]
            · cases hσ : σ0.get x <;> simp
            · rw [Nat.zero_add, hset, if_neg (by omega)]
              obtain ⟨om, hom⟩ := hopk m em hem
              cases hSm : listed.getD m false with
              | false => rfl
              | true =>
                have hc : confl e em = true := confl_write (x := x) (by rw [hw]; rfl) hwm
                have := hconf i m e em _ _ hdc hei hem hom hlt hc (hdc m om hom hSm)
                (try simp only [] at this)
                rw [hSi] at this; cases this
          | none =>
            rw [lastW_congr (S := fun x => (listed.setIfInBounds i true).getD x false) (S' := fun x => listed.getD x false) effs 0 none fun k ek hek hwk => ?_]
            · cases hσ : σ0.get x <;> simp
            · rw [Nat.zero_add, hset, if_neg (fun hki => ?_)]
              subst hki
              rw [hei] at hek
              cases hek
              rw [hw] at hwk; cases hwk
  refine wp_region_any hm (main ops.size (Array.replicate ops.size false) η M tmps { w with drawn := w.drawn + 1 } (Env.le.refl _) (Mem.le.refl _) (by simp) (fun k o hok hSk => ?_) (by rw [Array.getD_eq_getD_getElem?]; simp only [Array.getElem?_replicate]; split <;> rfl) ?_ ?_)
  · exfalso
    rw [Array.getD_eq_getD_getElem?] at hSk
    simp [Array.getElem?_replicate] at hSk
    split at hSk <;> simp at hSk
  · exact Nat.le_trans (List.countP_le_length) (by simp)
  · have h0 : Rel Z η M σ0 tmps w.drew := ⟨hr.wr.drew, hr.sz, hr.tmp, hr.asm, hr.pj, hr.gl⟩
    refine Rel.same h0 (fun x => ?_) (ap_fix _ _ _ _)
    rw [ap_get0, lastW_congr (S' := fun _ => false) effs 0 none fun k ek hek hw => by
      rw [Array.getD_eq_getD_getElem?]
      simp only [Array.getElem?_replicate]
      split <;> rfl]
    have key : ∀ (l : List Eff) (i : Nat) (r : Option (AV ⊕ Blk)), lastW (fun _ => false) x i l r = r := by
      intro l
      induction l with
      | nil => intro i r; rfl
      | cons e l ih => intro i r; simp only [lastW, Bool.false_eq_true, if_false]; exact ih _ _
    rw [key]
    cases h : σ0.get x <;> simp
end

end Go.Proofs.Ytindphofgojfbaa.Sy
