/-
  A part of a symbolic walk that is proved sound: what the functions of a program do with data. No conditions.
-/
import Derived.Test.YtindphofgojfbaaSyU
set_option linter.unusedSimpArgs false
set_option linter.unusedVariables false
namespace Go.Proofs.Ytindphofgojfbaa.Sy
open Go.RowKit
def MC.env (c : MC) (η : Env) (ρ' : List D) : Env := { al := fun j => (c.π[j]?).bind η.al, ρ := ρ' }
def Fresh (η : Env) (ρ' : List D) (n : Nat) (xs : List (Sh × E)) : Prop := ∀ (i : Nat) (p : Sh × E), xs[i]? = some p → ρ'.getD (n + i) default = p.2.den η.ρ
theorem Fresh.left {η : Env} {ρ' : List D} {n : Nat} {x y : List (Sh × E)} (h : Fresh η ρ' n (x ++ y)) : Fresh η ρ' n x := fun i p hp => h i p (by
  rw [List.getElem?_append_left ((List.getElem?_eq_some_iff.1 hp).1)]; exact hp)
theorem Fresh.right {η : Env} {ρ' : List D} {n : Nat} {x y : List (Sh × E)} (h : Fresh η ρ' n (x ++ y)) : Fresh η ρ' (n + x.length) y := fun i p hp => by
  have := h (x.length + i) p (by rw [List.getElem?_append_right (by omega)]; rw [← hp]; congr 1; omega)
  rw [← this]; congr 1; omega
def RowsOK (c : MC) (η : Env) (ρ' : List D) : Prop := ∀ (j j' : Nat) (es : List Sh) (l : E) (fr : Bool) (es' : List Sh) (l' : E) (fr' : Bool), c.π[j]? = some j' → c.hb[j]? = some (.row es l fr) → c.cb[j']? = some (.row es' l' fr') → l.den ρ' = l'.den η.ρ

theorem den_lenE_congr {ρ ρ' : List D} {l l' : E} (h : l.den ρ' = l'.den ρ) : (lenE l).den ρ' = (lenE l').den ρ := by
  rw [den_lenE, den_lenE]; simp [E.den, h]

section
variable {Z : Base} {η : Env} {M : Mem} {w : World} {ρ' : List D} {c : MC}

theorem matA_sound (hA : Agree c.base η.ρ ρ') (hR : RowsOK c η ρ') (hw : WR Z η M c.cb w) {n : Nat} {h a : A} {xs : List (Sh × E)} (hm : matA c n h a = some xs) (hf : Fresh η ρ' n xs) {v : Value} (ha : AbsA η M a v) :
    AbsA (c.env η ρ') M h v ∧ ∀ p ∈ xs, HasSh p.1 (p.2.den η.ρ) := by
  have fresh1 : ∀ {s : Sh} {e' : E}, xs = [(s, e')] → Rep M s v (e'.den η.ρ) → AbsA (c.env η ρ') M (.d s (.v n)) v ∧ ∀ p ∈ xs, HasSh p.1 (p.2.den η.ρ) := by
    intro s e' hx hr
    subst hx
    have := hf 0 (s, e') rfl
    refine ⟨?_, fun p hp => ?_⟩
    · simp only [AbsA, MC.env, E.den]
      rw [show ρ'.getD n default = e'.den η.ρ from this]
      exact hr
    · simp at hp; subst hp; exact hr.has
  have same1 : ∀ {s s' : Sh} {e e' : E}, (if Sh.same s s' && E.same e e' && e.bd c.base then some [] else none) = some xs → Rep M s' v (e'.den η.ρ) → AbsA (c.env η ρ') M (.d s e) v ∧ ∀ p ∈ xs, HasSh p.1 (p.2.den η.ρ) := by
    intro s s' e e' hm hr
    split at hm
    · rename_i hc
      simp only [Bool.and_eq_true] at hc
      cases hm
      have h1 := Sh.same_eq _ _ hc.1.1
      have h2 := E.same_eq _ _ hc.1.2
      subst h1 h2
      refine ⟨?_, fun p hp => by cases hp⟩
      simp only [AbsA, MC.env]
      rw [den_agree hA hc.2]
      exact hr
    · cases hm
  unfold matA at hm
  split at hm
  · cases hm; exact ⟨trivial, fun p hp => by cases hp⟩
  · rename_i s e
    split at hm
    · rename_i m
      split at hm
      · rename_i hmn
        have hmn' := Nat.eq_of_beq_eq_true hmn
        subst hmn'
        split at hm
        · rename_i s' e'
          split at hm
          · rename_i hs
            simp only [Option.some.injEq] at hm
            refine fresh1 hm.symm ?_
            rw [Sh.same_eq _ _ hs]; exact ha
          · cases hm
        · rename_i es'
          split at hm
          · rename_i es
            split at hm
            · simp only [Option.some.injEq] at hm
              refine fresh1 hm.symm ?_
              exact nil_rep ha
            · cases hm
          · cases hm
        · rename_i j es' k
          split at hm
          · rename_i es
            split at hm
            · rename_i l hl
              simp only [Option.some.injEq] at hm
              refine fresh1 hm.symm ?_
              unfold rowData at hl
              split at hl
              · rename_i es'' l0 hcb
                split at hl
                · rename_i hc
                  simp only [Bool.and_eq_true] at hc
                  simp only [Option.some.injEq] at hl
                  subst hl
                  have h1 := Sh.sames_eq _ _ hc.1.1
                  subst h1
                  have hgd : c.cb.getD j .dead = .row es'' l0 true := by rw [List.getD_eq_getElem?_getD, hcb]; rfl
                  refine toD_sound hw (blks0 := c.cb) (a := .row j es k) (s := .lst es) (e := l0) ?_ ?_ ha
                  · simp only [A.toD, hgd, hc.1.2, hc.2, Bool.and_self, if_true]
                  · intro j' hj'
                    simp [A.rows] at hj'
                    subst hj'
                    exact ⟨es'', l0, true, hgd, hcb⟩
                · cases hl
              · cases hl
            · cases hm
          · cases hm
        · cases hm
      · split at hm
        · exact same1 hm ha
        · cases hm
    · split at hm
      · exact same1 hm ha
      · cases hm
  · split at hm
    · cases hm; exact ⟨ha, fun p hp => by cases hp⟩
    · cases hm
  · cases hm
  · rename_i j o
    split at hm
    · rename_i j' o'
      split at hm
      · rename_i hc
        simp only [Bool.and_eq_true, beq_iff_eq] at hc
        cases hm
        have h2 := Nat.eq_of_beq_eq_true hc.2
        subst h2
        obtain ⟨b, cc, h1, rfl⟩ := ha
        exact ⟨⟨b, cc, by simp [MC.env, hc.1, h1], rfl⟩, fun p hp => by cases hp⟩
      · cases hm
    · cases hm
  · rename_i es x o
    split at hm
    · rename_i es' x' o'
      split at hm
      · rename_i hc
        simp only [Bool.and_eq_true] at hc
        cases hm
        have h1 := Sh.sames_eq _ _ hc.1.1.1
        have h2 := E.same_eq _ _ hc.1.1.2
        have h3 := Nat.eq_of_beq_eq_true hc.1.2
        subst h1 h2 h3
        obtain ⟨b, q, rfl, hr⟩ := ha
        exact ⟨⟨b, q, rfl, by simp only [MC.env]; rw [den_agree hA hc.2]; exact hr⟩, fun p hp => by cases hp⟩
      · cases hm
    · cases hm
  · rename_i j s i o
    split at hm
    · rename_i j' s' i' o'
      split at hm
      · rename_i hc
        simp only [Bool.and_eq_true, beq_iff_eq] at hc
        cases hm
        have h1 := Nat.eq_of_beq_eq_true hc.1.1.1.2
        have h2 := E.same_eq _ _ hc.1.1.2
        have h3 := Nat.eq_of_beq_eq_true hc.1.2
        subst h1 h2 h3
        obtain ⟨b, cc, m, g1, g2, rfl⟩ := ha
        exact ⟨⟨b, cc, m, by simp [MC.env, hc.1.1.1.1, g1], by simp only [MC.env]; rw [den_agree hA hc.2]; exact g2, rfl⟩, fun p hp => by cases hp⟩
      · cases hm
    · cases hm
  · rename_i f caps
    split at hm
    · rename_i f' caps'
      split at hm
      · rename_i hc
        simp only [Bool.and_eq_true] at hc
        cases hm
        have h1 := Nat.eq_of_beq_eq_true hc.1
        subst h1
        have key : ∀ (l l' : List (Nat × Nat)), capsOK c.π l l' = true → l.length = l'.length ∧ ∀ (k : Nat) (p : Nat × Nat), l[k]? = some p → ∃ q : Nat × Nat, l'[k]? = some q ∧ c.π[p.1]? = some q.1 ∧ p.2 = q.2 := by
          intro l
          induction l with
          | nil =>
            intro l' h
            cases l' with
            | nil => exact ⟨rfl, fun k p hk => by simp at hk⟩
            | cons _ _ => simp [capsOK] at h
          | cons a l ih =>
            intro l' h
            cases l' with
            | nil => simp [capsOK] at h
            | cons b l' =>
              simp only [capsOK, Bool.and_eq_true, beq_iff_eq] at h
              obtain ⟨i1, i2⟩ := ih l' h.2
              refine ⟨by simp [i1], fun k p hk => ?_⟩
              cases k with
              | zero => simp at hk; subst hk; exact ⟨b, rfl, h.1.1, Nat.eq_of_beq_eq_true h.1.2⟩
              | succ k => exact i2 k p (by simpa using hk)
        obtain ⟨k1, k2⟩ := key _ _ hc.2
        obtain ⟨vs, e1, e2, e3⟩ := ha
        refine ⟨⟨vs, e1, by rw [k1]; exact e2, fun k p hk => ?_⟩, fun p hp => by cases hp⟩
        obtain ⟨q, r1, r2, r3⟩ := k2 k p hk
        obtain ⟨b, cc, g1, g2⟩ := e3 k q r1
        exact ⟨b, cc, by simp [MC.env, r2, g1], by rw [r3]; exact g2⟩
      · cases hm
    · cases hm
  · cases hm
  · cases hm
  · rename_i es l
    split at hm
    · rename_i es' l'
      split at hm
      · rename_i hc
        simp only [Bool.and_eq_true] at hc
        cases hm
        have h1 := Sh.sames_eq _ _ hc.1.1
        have h2 := E.same_eq _ _ hc.1.2
        subst h1 h2
        obtain ⟨b, q, xs, rfl, hd, hr⟩ := ha
        exact ⟨⟨b, q, xs, rfl, by simp only [MC.env]; rw [den_agree hA hc.2]; exact hd, hr⟩, fun p hp => by cases hp⟩
      · cases hm
    · cases hm
  · rename_i j es k
    split at hm
    · rename_i j' es' k'
      split at hm
      · rename_i hc
        cases hm
        unfold matRow at hc
        simp only [Bool.and_eq_true, beq_iff_eq] at hc
        obtain ⟨⟨hπ, hes⟩, hrow⟩ := hc
        split at hrow
        · rename_i es1 l1 fr1 es2 l2 fr2 hh hcc
          simp only [Bool.and_eq_true] at hrow
          have e1 := E.same_eq _ _ hrow.1
          have e2 := E.same_eq _ _ hrow.2
          obtain ⟨b, cc, m, g1, g2, g3⟩ := ha
          refine ⟨⟨b, cc, m, by simp [MC.env, hπ, g1], ?_, g3⟩, fun p hp => by cases hp⟩
          simp only [MC.env]
          rw [← e1, den_lenE_congr (hR j j' _ _ _ _ _ _ hπ hh hcc), e2]
          exact g2
        · cases hrow
      · cases hm
    · cases hm
theorem matAs_sound (hA : Agree c.base η.ρ ρ') (hR : RowsOK c η ρ') (hw : WR Z η M c.cb w) : ∀ {l l' : List A} {n : Nat} {xs : List (Sh × E)} {vs : List Value}, matAs c n l l' = some xs → Fresh η ρ' n xs → AbsL η M l' vs →
    AbsL (c.env η ρ') M l vs ∧ ∀ p ∈ xs, HasSh p.1 (p.2.den η.ρ)
  | [], [], n, xs, vs, hm, _, hl => by
    cases hl
    simp only [matAs, Option.some.injEq] at hm
    subst hm
    exact ⟨.nil, fun p hp => by cases hp⟩
  | a :: l, a' :: l', n, xs, vs, hm, hf, hl => by
    cases hl with
    | cons h1 h2 h3 =>
      unfold matAs at hm
      split at hm
      · rename_i x hx
        split at hm
        · rename_i y hy
          cases hm
          obtain ⟨g1, g2⟩ := matA_sound hA hR hw hx hf.left h1
          obtain ⟨g3, g4⟩ := matAs_sound hA hR hw hy hf.right h3
          exact ⟨.cons g1 h2 g3, fun p hp => (List.mem_append.1 hp).elim (g2 p) (g4 p)⟩
        · cases hm
      · cases hm
  | [], _ :: _, n, xs, vs, hm, _, _ => by simp [matAs] at hm
  | _ :: _, [], n, xs, vs, hm, _, _ => by simp [matAs] at hm
theorem matAV_sound (hA : Agree c.base η.ρ ρ') (hR : RowsOK c η ρ') (hw : WR Z η M c.cb w) {n : Nat} {h a : AV} {xs : List (Sh × E)} (hm : matAV c n h a = some xs) (hf : Fresh η ρ' n xs) {v : Value} (ha : AbsV η M a v) :
    AbsV (c.env η ρ') M h v ∧ ∀ p ∈ xs, HasSh p.1 (p.2.den η.ρ) := by
  unfold matAV at hm
  split at hm
  · cases hm; exact ⟨trivial, fun p hp => by cases hp⟩
  · rename_i h0 hne
    split at hm
    · rename_i a0
      obtain ⟨g1, g2⟩ := matA_sound hA hR hw hm hf (AbsV_c ha)
      have hone : One v := by
        have ha' : AbsT η M (.c a0) v := ha
        cases a0 with
        | any => 
          have : h0 = .any := by
            cases h0 <;> simp [matA] at hm
            · rfl
            · split at hm <;> simp at hm
          exact absurd this hne
        | _ => exact ha'.2
      exact ⟨AbsT_mk g1 hone, g2⟩
    · cases hm
  · rename_i l
    split at hm
    · rename_i l'
      obtain ⟨vs, hv, hvs⟩ := AbsV_g ha
      obtain ⟨g1, g2⟩ := matAs_sound hA hR hw hm hf hvs
      exact ⟨⟨vs, hv, g1⟩, g2⟩
    · cases hm
  · cases hm
theorem matAVs_sound (hA : Agree c.base η.ρ ρ') (hR : RowsOK c η ρ') (hw : WR Z η M c.cb w) : ∀ {l l' : List AV} {n : Nat} {xs : List (Sh × E)}, matAVs c n l l' = some xs → Fresh η ρ' n xs →
    l.length = l'.length ∧ ∀ (vs : Nat → Value), (∀ (t : Nat) (A : AV), l'[t]? = some A → AbsV η M A (vs t)) → (∀ (t : Nat) (A : AV), l[t]? = some A → AbsV (c.env η ρ') M A (vs t)) ∧ ∀ p ∈ xs, HasSh p.1 (p.2.den η.ρ)
  | [], [], n, xs, hm, _ => by
    simp only [matAVs, Option.some.injEq] at hm
    subst hm
    exact ⟨rfl, fun vs _ => ⟨fun t A hA => by simp at hA, fun p hp => by cases hp⟩⟩
  | a :: l, a' :: l', n, xs, hm, hf => by
    unfold matAVs at hm
    split at hm
    · rename_i x hx
      split at hm
      · rename_i y hy
        cases hm
        obtain ⟨q1, q2⟩ := matAVs_sound hA hR hw hy hf.right
        refine ⟨by simp [q1], fun vs hvs => ?_⟩
        obtain ⟨g1, g2⟩ := matAV_sound hA hR hw hx hf.left (hvs 0 a' rfl)
        obtain ⟨g3, g4⟩ := q2 (fun t => vs (t + 1)) (fun t A hA => hvs (t + 1) A (by simpa using hA))
        refine ⟨fun t A hA => ?_, fun p hp => (List.mem_append.1 hp).elim (g2 p) (g4 p)⟩
        cases t with
        | zero => simp at hA; subst hA; exact g1
        | succ t => exact g3 t A (by simpa using hA)
      · cases hm
    · cases hm
  | [], _ :: _, n, xs, hm, _ => by simp [matAVs] at hm
  | _ :: _, [], n, xs, hm, _ => by simp [matAVs] at hm

theorem matBlks_get : ∀ {l : List Blk} {n i : Nat} {xs : List (Sh × E)}, matBlks c n i l = some xs → Fresh η ρ' n xs →
    (∀ (k : Nat) (b : Blk), l[k]? = some b → ∃ j' b' n' x, c.π[i + k]? = some j' ∧ c.cb[j']? = some b' ∧ matBlk c n' b b' = some x ∧ Fresh η ρ' n' x) ∧
    ((∀ (b b' : Blk) (n' : Nat) (x : List (Sh × E)) (j' : Nat), c.cb[j']? = some b' → matBlk c n' b b' = some x → Fresh η ρ' n' x → ∀ p ∈ x, HasSh p.1 (p.2.den η.ρ)) → ∀ p ∈ xs, HasSh p.1 (p.2.den η.ρ))
  | [], n, i, xs, hm, _ => by
    simp only [matBlks, Option.some.injEq] at hm
    subst hm
    exact ⟨fun k b hb => by simp at hb, fun _ p hp => by cases hp⟩
  | b :: l, n, i, xs, hm, hf => by
    unfold matBlks at hm
    split at hm
    · rename_i b' hb'
      split at hm
      · rename_i x hx
        split at hm
        · rename_i y hy
          cases hm
          obtain ⟨j', hj', hcb⟩ := Option.bind_eq_some_iff.1 hb'
          obtain ⟨q1, q2⟩ := matBlks_get hy hf.right
          refine ⟨fun k b0 hb0 => ?_, fun hall p hp => (List.mem_append.1 hp).elim (hall b b' n x j' hcb hx hf.left p) (q2 hall p)⟩
          cases k with
          | zero => simp at hb0; subst hb0; exact ⟨j', b', n, x, hj', hcb, hx, hf.left⟩
          | succ k =>
            obtain ⟨j2, b2, n2, x2, r1, r2⟩ := q1 k b0 (by simpa using hb0)
            exact ⟨j2, b2, n2, x2, by rw [← r1]; congr 1; omega, r2⟩
        · cases hm
      · cases hm
    · cases hm

theorem matRowBlk {n : Nat} {es es' : List Sh} {l l' : E} {fr fr' : Bool} {x : List (Sh × E)} (hA : Agree c.base η.ρ ρ') (hm : matBlk c n (.row es l fr) (.row es' l' fr') = some x) (hf : Fresh η ρ' n x) :
    es = es' ∧ fr = fr' ∧ l.den ρ' = l'.den η.ρ ∧ ∀ p ∈ x, p = (.lst es, l') := by
  unfold matBlk at hm
  simp only [] at hm
  split at hm
  · rename_i hc
    simp only [Bool.and_eq_true] at hc
    refine ⟨Sh.sames_eq _ _ hc.1, bbeq_eq _ _ hc.2, ?_⟩
    split at hm
    · rename_i m
      split at hm
      · rename_i hmn
        have hmn' := Nat.eq_of_beq_eq_true hmn
        subst hmn'
        cases hm
        exact ⟨hf 0 _ rfl, fun p hp => by simpa using hp⟩
      · split at hm
        · rename_i h2
          simp only [Bool.and_eq_true] at h2
          cases hm
          rw [← E.same_eq _ _ h2.1]
          exact ⟨den_agree hA h2.2, fun p hp => by cases hp⟩
        · cases hm
    · split at hm
      · rename_i h2
        simp only [Bool.and_eq_true] at h2
        cases hm
        rw [← E.same_eq _ _ h2.1]
        exact ⟨den_agree hA h2.2, fun p hp => by cases hp⟩
      · cases hm
  · cases hm

theorem injB_inj : ∀ {l : List Nat}, injB l = true → ∀ (i j x : Nat), l[i]? = some x → l[j]? = some x → i = j
  | [], _, i, j, x, hi, _ => by simp at hi
  | n :: l, h, i, j, x, hi, hj => by
    simp only [injB, Bool.and_eq_true, Bool.not_eq_true'] at h
    have hn : ¬ n ∈ l := fun hm => by rw [memN_iff.2 hm] at h; simp at h
    cases i with
    | zero =>
      simp at hi
      subst hi
      cases j with
      | zero => rfl
      | succ j => exact absurd (List.mem_of_getElem? (by simpa using hj)) hn
    | succ i =>
      cases j with
      | zero => simp at hj; subst hj; exact absurd (List.mem_of_getElem? (by simpa using hi)) hn
      | succ j => rw [injB_inj h.2 i j x (by simpa using hi) (by simpa using hj)]

theorem matSt_sound {base : Nat} {h cst : St} {xs : List (Sh × E)} (hm : matSt base h cst = some xs) {ρ' : List D} (hA : Agree base η.ρ ρ') (hf : Fresh η ρ' base xs) {tmps : Array Value} (hr : Rel Z η M cst tmps w) (hasm : ∀ e b, (e, b) ∈ h.asm → (e.den ρ').toB = b) (hpj : Z.pal.map (·.1) = h.pj) (hgl : h.gl = Z.G) :
    ∃ η', η'.ρ = ρ' ∧ Rel Z η' M h tmps w ∧ ∀ p ∈ xs, HasSh p.1 (p.2.den η.ρ) := by
  unfold matSt at hm
  simp only [] at hm
  split at hm
  · rename_i hc
    simp only [Bool.and_eq_true] at hc
    have hinj := injB_inj hc.1.1
    have hlen := Nat.eq_of_beq_eq_true hc.1.2
    have hfix : ∀ j ∈ h.pj, (mcOf base h cst).π[j]? = some j := fun j hj => by
      have := List.all_eq_true.1 hc.2 j hj
      simpa using this
    split at hm
    · rename_i x hx
      split at hm
      · rename_i y hy
        cases hm
        generalize hcc : mcOf base h cst = c at *
        have hcb : c.cb = cst.blks := by rw [← hcc]; rfl
        have hhb : c.hb = h.blks := by rw [← hcc]; rfl
        have hbase : c.base = base := by rw [← hcc]; rfl
        have hA' : Agree c.base η.ρ ρ' := by rw [hbase]; exact hA
        have hw : WR Z η M c.cb w := by rw [hcb]; exact hr.wr
        obtain ⟨q1, q2⟩ := matBlks_get (η := η) (ρ' := ρ') hx hf.left
        have hR : RowsOK c η ρ' := by
          intro j j' es l fr es' l' fr' hj hh hcj
          rw [hhb] at hh
          obtain ⟨j2, b2, n2, x2, r1, r2, r3, r4⟩ := q1 j _ hh
          rw [Nat.zero_add, hj] at r1
          cases r1
          rw [hcj] at r2
          cases r2
          exact (matRowBlk hA' r3 r4).2.2.1
        have hblk : ∀ (b b' : Blk) (n' : Nat) (x : List (Sh × E)) (j j' : Nat), c.π[j]? = some j' → c.cb[j']? = some b' → matBlk c n' b b' = some x → Fresh η ρ' n' x → BlkOK (c.env η ρ') M Z.own w j b ∧ (∀ p ∈ x, HasSh p.1 (p.2.den η.ρ)) ∧ (b ≠ .dead → b' ≠ .dead) := by
          intro b b' n' x j j' hj hcj hmb hfb
          have hbo := hw.blk j' b' hcj
          have hal : (c.env η ρ').al j = η.al j' := by simp [MC.env, hj]
          cases b with
          | none => simp [matBlk] at hmb
          | dead => simp [matBlk] at hmb; subst hmb; exact ⟨trivial, (fun p hp => by cases hp), fun hd => absurd rfl hd⟩
          | cells l =>
            cases b' with
            | cells l' =>
              obtain ⟨bb, cc, vs, T, h1, h0, h2, h3, h4, h5⟩ := hbo
              have hmb' : matAs c n' l l' = some x := by simpa [matBlk] using hmb
              obtain ⟨g1, g2⟩ := matAs_sound hA' hR hw hmb' hfb h4
              exact ⟨⟨bb, cc, vs, T, by rw [hal]; exact h1, h0, h2, h3, g1, h5⟩, g2, fun _ => by simp⟩
            | _ => simp [matBlk] at hmb
          | row es l fr =>
            cases b' with
            | row es' l' fr' =>
              obtain ⟨e1, e2, e3, e4⟩ := matRowBlk hA' hmb hfb
              subst e1 e2
              obtain ⟨bb, cc, ds, h1, h4, h⟩ := hbo
              refine ⟨⟨bb, cc, ds, by rw [hal]; exact h1, by simp only [MC.env]; rw [e3]; exact h4, h⟩, fun p hp => ?_, fun _ => by simp⟩
              rw [e4 p hp]
              exact ⟨ds, h4, by omega⟩
            | _ => simp [matBlk] at hmb
        obtain ⟨s1, s2⟩ := matAVs_sound hA' hR hw hy hf.right
        obtain ⟨s3, s4⟩ := s2 (fun t => tmps.getD t undef) hr.tmp
        refine ⟨c.env η ρ', rfl, ⟨⟨hr.wr.below, hr.wr.size, hr.wr.base, hr.wr.new, hr.wr.mem, hr.wr.one, fun j B hB => ?_, fun i j B C p q hi hj hB hC hp hq hp0 hq0 e => ?_, fun j hj => ?_, fun j p hp => ?_, hr.wr.glob⟩, by rw [s1]; exact hr.sz, s3, hasm, hpj, hgl⟩, fun p hp => (List.mem_append.1 hp).elim (q2 (fun b b' n' x j' hcj hmb hfb => ?_) p) (s4 p)⟩
        · obtain ⟨j', b', n', x', r1, r2, r3, r4⟩ := q1 j B hB
          exact (hblk B b' n' x' j j' (by rw [← r1]; simp) r2 r3 r4).1
        · obtain ⟨i', bi, ni, xi, r1, r2, r3, r4⟩ := q1 i B hi
          obtain ⟨j', bj, nj, xj, t1, t2, t3, t4⟩ := q1 j C hj
          rw [Nat.zero_add] at r1 t1
          have hi' := (hblk B bi ni xi i i' r1 r2 r3 r4).2.2 hB
          have hj' := (hblk C bj nj xj j j' t1 t2 t3 t4).2.2 hC
          have hp' : η.al i' = some p := by simpa [MC.env, r1] using hp
          have hq' : η.al j' = some q := by simpa [MC.env, t1] using hq
          have := hw.inj i' j' bi bj p q r2 t2 hi' hj' hp' hq' hp0 hq0 e
          subst this
          exact hinj i j i' r1 t1
        · simp only [MC.env]
          have : c.π[j]? = none := List.getElem?_eq_none (by rw [hlen]; exact hj)
          rw [this]; rfl
        · simp only [MC.env]
          rw [hfix j (by rw [← hpj]; exact List.mem_map.2 ⟨(j, p), hp, rfl⟩)]
          exact hr.wr.pal j p hp
        · -- the shapes of what is fresh in the blocks
          cases b with
          | none => simp [matBlk] at hmb
          | dead => simp [matBlk] at hmb; subst hmb; intro p hp; cases hp
          | cells l =>
            cases b' with
            | cells l' =>
              obtain ⟨bb, cc, vs, T, h1, h0, h2, h3, h4, h5⟩ := hw.blk j' _ hcj
              have hmb' : matAs c n' l l' = some x := by simpa [matBlk] using hmb
              exact (matAs_sound hA' hR hw hmb' hfb h4).2
            | _ => simp [matBlk] at hmb
          | row es l fr =>
            cases b' with
            | row es' l' fr' =>
              obtain ⟨e1, e2, e3, e4⟩ := matRowBlk hA' hmb hfb
              subst e1 e2
              obtain ⟨bb, cc, ds, h1, h4, h6, h7, h⟩ := hw.blk j' _ hcj
              intro p hp
              rw [e4 p hp]
              exact ⟨ds, h4, by omega⟩
            | _ => simp [matBlk] at hmb
      · cases hm
    · cases hm
  · cases hm
end

end Go.Proofs.Ytindphofgojfbaa.Sy
