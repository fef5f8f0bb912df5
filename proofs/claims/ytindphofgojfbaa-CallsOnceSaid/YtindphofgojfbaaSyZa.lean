/-
  A part of a symbolic walk that is proved sound: what the functions of a program do with data. No conditions.
-/
import Derived.Test.YtindphofgojfbaaSyZ
set_option linter.unusedSimpArgs false
set_option linter.unusedVariables false
namespace Go.Proofs.Ytindphofgojfbaa.Sy
open Go.RowKit
section
variable {Z : Base} {P : Program} {G : Globs} {ops : Array Oper}

theorem opd_congr {σ σ' : St} {q : Operand} (h : ∀ t, q = .tmp t → σ.tmps[t]? = σ'.tmps[t]?) (hf : FixS σ σ') : σ.opd q = σ'.opd q := by
  cases q with
  | tmp t => simp only [St.opd, List.getD_eq_getElem?_getD, h t rfl]
  | global g => simp only [St.opd, hf.gl]
  | _ => rfl
theorem stepD_congr {σ σ' : St} {nb nv : Nat} {o : Oper} (ht : ∀ t ∈ opTmps ops o, σ.tmps[t]? = σ'.tmps[t]?) (hb : ∀ j ∈ touchB σ o, σ.blks[j]? = σ'.blks[j]?) (hf : FixS σ σ') : stepD P ops σ' nb nv o = stepD P ops σ nb nv o := by
  have hq : ∀ q ∈ o.op.operands, σ.opd q = σ'.opd q := fun q hq => opd_congr (fun t e => ht t (by
    simp only [opTmps, List.mem_append, List.mem_filterMap]
    exact .inl ⟨q, by simpa using hq, by subst e; rfl⟩)) hf
  have ha := hf.asm
  have main : touchB σ' o = touchB σ o ∧ act (ctxD P σ' nb nv (roomD o)) o = act (ctxD P σ nb nv (roomD o)) o := by
    cases hn : noTouch o.op with
    | true =>
      refine ⟨by simp only [touchB, hn, if_true], ?_⟩
      obtain ⟨op, hop⟩ : ∃ op, o.op = op := ⟨_, rfl⟩
      rw [hop] at hn
      cases op <;> simp only [noTouch, Bool.false_eq_true] at hn
      · rename_i x
        have := hq x (by simp [hop, Op.operands])
        simp only [act, hop, ctxD, this]
      · rename_i x
        have := hq x (by simp [hop, Op.operands])
        simp only [act, hop, ctxD, this]
    | false =>
      have hbg : ∀ q ∈ o.op.operands, ∀ j ∈ (σ.opd q).reach (fun j => σ.blks.getD j .dead), σ.blks.getD j .dead = σ'.blks.getD j .dead := fun q hqm j hj => by
        simp only [List.getD_eq_getElem?_getD]
        rw [hb j (by simp only [touchB, hn, Bool.false_eq_true, if_false, List.mem_flatMap]; exact ⟨q, by simpa using hqm, hj⟩)]
      have hreach : ∀ q ∈ o.op.operands, (σ'.opd q).reach (fun j => σ'.blks.getD j .dead) = (σ.opd q).reach (fun j => σ.blks.getD j .dead) := fun q hqm => by
        rw [hq q hqm]
        simp only [AV.reach, reachL]
        congr 1
        have key : ∀ l : List Nat, (∀ j ∈ l, σ.blks.getD j .dead = σ'.blks.getD j .dead) → (l.flatMap fun j => (σ'.blks.getD j .dead).blks) = l.flatMap fun j => (σ.blks.getD j .dead).blks := by
          intro l
          induction l with
          | nil => intro _; rfl
          | cons x l ih => intro h; simp only [List.flatMap_cons]; rw [h x (by simp), ih fun y hy => h y (by simp [hy])]
        refine key _ fun j hj => hbg q hqm j ?_
        rw [hq q hqm]
        simp only [AV.reach, reachL, List.mem_append]
        exact .inl hj
      have htouch : touchB σ' o = touchB σ o := by
        simp only [touchB, hn, Bool.false_eq_true, if_false]
        have key : ∀ l : List Operand, (∀ q ∈ l, q ∈ o.op.operands) → (l.flatMap fun q => (σ'.opd q).reach fun j => σ'.blks.getD j .dead) = l.flatMap fun q => (σ.opd q).reach fun j => σ.blks.getD j .dead := by
          intro l
          induction l with
          | nil => intro _; rfl
          | cons q l ih => intro h; simp only [List.flatMap_cons]; rw [hreach q (h q (by simp)), ih fun q' hq' => h q' (by simp [hq'])]
        exact key _ fun q hqm => by simpa using hqm
      have halike : Alike (ctxD P σ nb nv (roomD o)) (ctxD P σ' nb nv (roomD o)) o := ⟨rfl, rfl, rfl, by simp [ctxD, ha], by simp [ctxD, hf.sg], rfl, hq, hbg⟩
      exact ⟨htouch, (act_congr halike).symm⟩
  obtain ⟨htouch, hacteq⟩ := main
  have hact : actD P ops σ' nb nv o = actD P ops σ nb nv o := by
    unfold actD
    rw [← hacteq, htouch]
    cases act (ctxD P σ' nb nv (roomD o)) o with
    | some out => rfl
    | none =>
      simp only []
      split
      · rename_i c a b hop
        rw [hq c (by simp [hop, Op.operands])]
      · have hsp : splitIdx P σ' o.op = splitIdx P σ o.op := by
          unfold splitIdx
          split
          · rename_i T x i hop
            rw [hq x (by simp [hop, Op.operands]), hq i (by simp [hop, Op.operands]), ha]
          · rfl
        rw [hsp]
  have hskip : skipD ops σ' o = skipD ops σ o := by unfold skipD; rw [htouch]
  unfold stepD
  rw [hact, hskip, ha]
  cases hg : o.guard with
  | none => rfl
  | some g =>
    obtain ⟨j, want⟩ := g
    simp only []
    cases hd : (ops[j]?).bind (·.dst) with
    | none => rfl
    | some dd =>
      simp only [List.getD_eq_getElem?_getD]
      rw [ht dd (by simp only [opTmps, hg, hd, List.mem_append]; exact .inr (by simp))]

theorem lastW_last {S : Nat → Bool} {x : Nat ⊕ Nat} : ∀ (l : List Eff) (i : Nat) (r : Option (AV ⊕ Blk)) (k : Nat) (e : Eff) (v : AV ⊕ Blk), l[k]? = some e → e.w x = some v → S (i + k) = true → (∀ (m : Nat) (e' : Eff), k < m → l[m]? = some e' → (e'.w x).isSome = true → S (i + m) = false) → lastW S x i l r = some v
  | [], i, r, k, e, v, hk, _, _, _ => by simp at hk
  | e0 :: l, i, r, k, e, v, hk, hw, hS, hno => by
    cases k with
    | zero =>
      simp at hk
      subst hk
      simp only [lastW, Nat.add_zero] at hS ⊢
      rw [if_pos hS, hw]
      have : lastW S x (i + 1) l (some v) = lastW (fun _ => false) x (i + 1) l (some v) := lastW_congr l (i + 1) _ fun m e' hm hw' => by
        have := hno (m + 1) e' (by omega) (by simpa using hm) hw'
        rw [show i + 1 + m = i + (m + 1) by omega]; exact this
      simp only [Option.some_or] at *
      rw [this]
      have key : ∀ (l : List Eff) (i : Nat) (r : Option (AV ⊕ Blk)), lastW (fun _ => false) x i l r = r := by
        intro l
        induction l with
        | nil => intro i r; rfl
        | cons e l ih => intro i r; simp only [lastW, Bool.false_eq_true, if_false]; exact ih _ _
      exact key _ _ _
    | succ k =>
      simp only [lastW]
      refine lastW_last l (i + 1) _ k e v (by simpa using hk) hw (by rw [← hS]; congr 1; omega) fun m e' hlt hm hw' => ?_
      have := hno (m + 1) e' (by omega) (by simpa using hm) hw'
      rw [show i + 1 + m = i + (m + 1) by omega]; exact this

def EdgesIn (S : Nat → Bool) (o : Oper) : Prop := ∀ e ∈ o.after.toList, Region.binds .any e = true → S e.on = true
theorem before_go {S : Nat → Bool} (hS : ∀ (k : Nat) (o : Oper), ops[k]? = some o → S k = true → EdgesIn S o) : ∀ (suf : List Oper) (acc : Array Nat), (∃ pre, ops.toList = pre ++ suf ∧ acc.size = pre.length) →
    (∀ (k i : Nat) (o : Oper), k < acc.size → ops[k]? = some o → (acc.getD k 0).testBit i = true → EdgesIn S o → S i = true) →
    ∀ (k i : Nat) (o : Oper), ops[k]? = some o → ((suf.foldl (fun acc o => acc.push (o.after.foldl (fun s e => if Region.binds .any e then s ||| 2 ^ e.on ||| acc.getD e.on 0 else s) 0)) acc).getD k 0).testBit i = true → EdgesIn S o → S i = true
  | [], acc, ⟨pre, hp, hs⟩, hacc, k, i, o, ho, hb, he => by
    simp only [List.foldl_nil] at hb
    by_cases hk : k < acc.size
    · exact hacc k i o hk ho hb he
    · simp [Array.getD_eq_getD_getElem?, Array.getElem?_eq_none (show acc.size ≤ k by omega)] at hb
  | o1 :: suf, acc, ⟨pre, hp, hs⟩, hacc, k, i, o, ho, hb, he => by
    rw [List.foldl_cons] at hb
    refine before_go hS suf _ ⟨pre ++ [o1], by simp [hp], by simp [hs]⟩ ?_ k i o ho hb he
    intro k i o hk ho hb he
    by_cases hkl : k < acc.size
    · refine hacc k i o hkl ho ?_ he
      rw [← hb]
      congr 1
      simp [Array.getD_eq_getD_getElem?, Array.getElem?_push, show k ≠ acc.size by omega]
    · have hkk : k = acc.size := by simp at hk; omega
      have ho1 : o = o1 := by
        have h1 : ops.toList[k]? = some o := by simpa using ho
        rw [hp, List.getElem?_append_right (by omega)] at h1
        rw [show k - pre.length = 0 by omega] at h1
        simp at h1
        exact h1.symm
      subst ho1
      have hval : ((acc.push (o.after.foldl (fun s e => if Region.binds .any e then s ||| 2 ^ e.on ||| acc.getD e.on 0 else s) 0)).getD k 0) = o.after.foldl (fun s e => if Region.binds .any e then s ||| 2 ^ e.on ||| acc.getD e.on 0 else s) 0 := by
        rw [hkk]; simp [Array.getD_eq_getD_getElem?]
      rw [hval, ← Array.foldl_toList] at hb
      have key : ∀ (l : List Edge) (s : Nat), (∀ e ∈ l, Region.binds .any e = true → S e.on = true) → (∀ i, s.testBit i = true → S i = true) → ∀ i, (l.foldl (fun s e => if Region.binds .any e then s ||| 2 ^ e.on ||| acc.getD e.on 0 else s) s).testBit i = true → S i = true := by
        intro l
        induction l with
        | nil => intro s _ hs i h; exact hs i h
        | cons e l ih =>
          intro s hl hs i h
          rw [List.foldl_cons] at h
          refine ih _ (fun e' he' => hl e' (by simp [he'])) ?_ i h
          intro i hi
          split at hi
          · rename_i hbind
            have hon := hl e (by simp) hbind
            rw [Nat.testBit_or, Nat.testBit_or, Bool.or_eq_true, Bool.or_eq_true] at hi
            rcases hi with (hi | hi) | hi
            · exact hs i hi
            · rw [Nat.testBit_two_pow] at hi
              simp at hi
              rw [← hi]; exact hon
            · by_cases hlt : e.on < acc.size
              · cases hoo : ops[e.on]? with
                | none =>
                  have : ops.toList.length = pre.length + (suf.length + 1) := by rw [hp]; simp
                  have hsz : ops.size = pre.length + (suf.length + 1) := by simpa using this
                  rw [Array.getElem?_eq_getElem (by omega)] at hoo; cases hoo
                | some o' => exact hacc e.on i o' hlt hoo hi (hS e.on o' hoo hon)
              · simp [Array.getD_eq_getD_getElem?, Array.getElem?_eq_none (show acc.size ≤ e.on by omega)] at hi
          · exact hs i hi
      exact key _ 0 he (fun i h => by simp at h) i hb
theorem before_sound {S : Nat → Bool} (hS : ∀ (k : Nat) (o : Oper), ops[k]? = some o → S k = true → EdgesIn S o) {k i : Nat} {o : Oper} (ho : ops[k]? = some o) (hb : ((Region.before ops).getD k 0).testBit i = true) (he : EdgesIn S o) : S i = true := by
  unfold Region.before at hb
  rw [← Array.foldl_toList] at hb
  exact before_go hS ops.toList #[] ⟨[], by simp, rfl⟩ (fun k i o hk => by simp at hk) k i o ho hb he

theorem runD_spec : ∀ (m i : Nat) {σ σ' : St} {nb : Nat} {tr : List (Nat × Nat × Eff)}, runD P ops (List.range' i m) σ nb = .ok tr σ' →
    tr.length = m ∧ (∀ (j : Nat), ap (fun k => decide (j ≤ k ∧ k < j + m)) j (tr.map (·.2.2)) σ = σ') ∧
    ∀ (k : Nat) (p : Nat × Nat × Eff), tr[k]? = some p → ∃ o, ops[i + k]? = some o ∧ ∀ (j : Nat), stepD P ops (ap (fun x => decide (x < j + k)) j (tr.map (·.2.2)) σ) p.1 p.2.1 o = .ok p.2.2
  | 0, i, σ, σ', nb, tr, h => by
    simp only [List.range'_zero, runD, TR.ok.injEq] at h
    obtain ⟨rfl, rfl⟩ := h
    exact ⟨rfl, fun _ => rfl, fun k p hp => by simp at hp⟩
  | m + 1, i, σ, σ', nb, tr, h => by
    rw [List.range'_succ] at h
    simp only [runD] at h
    split at h
    · cases h
    · rename_i o ho
      split at h
      · rename_i e he
        split at h
        · rename_i tr' σ2 hrest
          simp only [TR.ok.injEq] at h
          obtain ⟨rfl, rfl⟩ := h
          obtain ⟨q1, q2, q3⟩ := runD_spec m (i + 1) hrest
          have apc : ∀ (S S' : Nat → Bool) (l : List Eff) (j : Nat) (σ : St), (∀ k, k < l.length → S (j + k) = S' (j + k)) → ap S j l σ = ap S' j l σ := by
            intro S S' l
            induction l with
            | nil => intro j σ _; rfl
            | cons e l ih =>
              intro j σ hS
              simp only [ap]
              have h0 := hS 0 (by simp)
              simp only [Nat.add_zero] at h0
              rw [h0, ih (j + 1) _ fun k hk => by
                have := hS (k + 1) (by simp; omega)
                rw [show j + 1 + k = j + (k + 1) by omega]; exact this]
          refine ⟨by simp [q1], fun j => ?_, fun k p hp => ?_⟩
          · simp only [List.map_cons, ap]
            rw [if_pos (by simp), ← q2 (j + 1)]
            exact apc _ _ _ _ _ fun k hk => by simp only [decide_eq_decide]; omega
          · cases k with
            | zero =>
              simp at hp
              subst hp
              refine ⟨o, ho, fun j => ?_⟩
              have : ap (fun x => decide (x < j + 0)) j (((nb, σ.nv, e) :: tr').map (·.2.2)) σ = σ := by
                have key : ∀ (l : List Eff) (j' : Nat) (σ : St), j ≤ j' → ap (fun x => decide (x < j + 0)) j' l σ = σ := by
                  intro l
                  induction l with
                  | nil => intro _ _ _; rfl
                  | cons e l ih => intro j' σ hj; simp only [ap]; rw [if_neg (by simp; omega)]; exact ih _ _ (by omega)
                exact key _ _ _ (Nat.le_refl _)
              rw [this]
              exact he
            | succ k =>
              obtain ⟨o', h1, h2⟩ := q3 k p (by simpa using hp)
              refine ⟨o', by rw [← h1]; congr 1; omega, fun j => ?_⟩
              rw [← h2 (j + 1)]
              simp only [List.map_cons, ap]
              rw [if_pos (by simp)]
              congr 1
              exact apc _ _ _ _ _ fun x hx => by simp; omega
        · cases h
        · cases h
      · cases h
      · cases h

theorem memN_of {n : Nat} {l : List Nat} (h : n ∈ l) : memN n l = true := memN_iff.2 h
theorem lastU_mem {u : List (Nat × Blk)} {j : Nat} (h : (lastU u j).isSome = true) : j ∈ u.map (·.1) := by
  unfold lastU at h
  rw [Option.isSome_map] at h
  obtain ⟨p, hp⟩ := Option.isSome_iff_exists.1 h
  have h1 := List.find?_some hp
  have h2 := List.mem_of_find?_eq_some hp
  simp at h1 h2
  simp only [List.mem_map]
  exact ⟨p, by simpa using h2, h1⟩

def Eff.reads (e : Eff) : Nat ⊕ Nat → Prop
  | .inl t => t ∈ e.rt
  | .inr j => j ∈ e.rb
theorem confl_read {a b : Eff} {x : Nat ⊕ Nat} (hr : a.reads x) (hw : (b.w x).isSome = true) : confl a b = true ∧ confl b a = true := by
  cases x with
  | inl t =>
    simp only [Eff.w] at hw
    split at hw
    · rename_i hd
      simp only [Eff.reads] at hr
      have := memN_of hr
      simp [confl, optB, hd, this]
    · cases hw
  | inr j =>
    simp only [Eff.w, Option.isSome_map] at hw
    have h1 := lastU_mem hw
    simp only [Eff.reads] at hr
    have h2 := memN_of hr
    have : anyB b.wb a.rb = true := List.any_eq_true.2 ⟨j, h1, h2⟩
    simp [confl, this]
theorem confl_write {a b : Eff} {x : Nat ⊕ Nat} (ha : (a.w x).isSome = true) (hw : (b.w x).isSome = true) : confl a b = true := by
  cases x with
  | inl t =>
    simp only [Eff.w] at hw ha
    split at hw
    · rename_i hd
      split at ha
      · rename_i hd2
        have : memN t [t] = true := memN_of (by simp)
        simp [confl, optB, hd, hd2, this]
      · cases ha
    · cases hw
  | inr j =>
    simp only [Eff.w, Option.isSome_map] at hw ha
    have h1 := lastU_mem hw
    have h2 := lastU_mem ha
    have : anyB a.wb b.wb = true := List.any_eq_true.2 ⟨j, h2, memN_of h1⟩
    simp [confl, this]

theorem ordRow_sound {bk : Nat} {ek : Eff} : ∀ {l : List Eff} {i : Nat}, ordRow bk ek i l = true → ∀ (m : Nat) (e : Eff), l[m]? = some e → confl e ek = true → bk.testBit (i + m) = true
  | [], i, _, m, e, hm, _ => by simp at hm
  | e0 :: l, i, h, m, e, hm, hc => by
    simp only [ordRow, Bool.and_eq_true, Bool.or_eq_true, Bool.not_eq_true'] at h
    cases m with
    | zero =>
      simp at hm
      subst hm
      rcases h.1 with h1 | h1
      · exact h1
      · rw [hc] at h1; cases h1
    | succ m =>
      have := ordRow_sound h.2 m e (by simpa using hm) hc
      rw [show i + (m + 1) = i + 1 + m by omega]; exact this
theorem ordAll_sound {bf : Array Nat} {all : List Eff} : ∀ {l : List Eff} {k : Nat}, ordAll bf all k l = true → ∀ (m : Nat) (e : Eff), l[m]? = some e → ∀ (i : Nat) (ei : Eff), i < k + m → all[i]? = some ei → confl ei e = true → (bf.getD (k + m) 0).testBit i = true
  | [], k, _, m, e, hm => by simp at hm
  | e0 :: l, k, h, m, e, hm => by
    simp only [ordAll, Bool.and_eq_true] at h
    cases m with
    | zero =>
      simp at hm
      subst hm
      intro i ei hi hei hc
      simp only [Nat.add_zero] at hi ⊢
      have := ordRow_sound h.1 i ei (by rw [List.getElem?_take, if_pos hi]; exact hei) hc
      simpa using this
    | succ m =>
      intro i ei hi hei hc
      have := ordAll_sound h.2 m e (by simpa using hm) i ei (by omega) hei hc
      rw [show k + (m + 1) = k + 1 + m by omega]; exact this
end

end Go.Proofs.Ytindphofgojfbaa.Sy
