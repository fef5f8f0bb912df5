/-
  A part of a symbolic walk that is proved sound: what the functions of a program do with data. No conditions.
-/
import Derived.Test.YtindphofgojfbaaSyY
set_option linter.unusedSimpArgs false
set_option linter.unusedVariables false
namespace Go.Proofs.Ytindphofgojfbaa.Sy
open Go.RowKit
structure Eff where
  dst : Option Tmp
  val : AV
  upd : List (Nat × Blk)
  evs : List Ev
  rt : List Nat
  rb : List Nat
  deriving Inhabited
def Eff.app (e : Eff) (σ : St) : St := { (σ.put e.dst e.val) with blks := applyU σ.blks e.upd, nv := σ.nv + newVars e.evs }
def roomD (o : Oper) : Nat := if isCallOp o then 2 else 0
def takesD (o : Oper) : Nat := if allocB o.op then 1 else roomD o
theorem alloc_call {o : Oper} (h : allocB o.op = true) : isCallOp o = false := by
  unfold allocB at h
  unfold isCallOp
  split <;> simp_all
def ctxD (P : Program) (σ : St) (nb nv r : Nat) : Ctx := { P := P, x := σ.opd, B := fun j => σ.blks.getD j .dead, nb := nb, nv := nv, bo := boolAV σ.asm, sg := σ.sg, room := r }
def opTmps (ops : Array Oper) (o : Oper) : List Nat :=
  (o.op.operands.toList.filterMap fun | .tmp t => some t | _ => none) ++ (match o.guard with | some (j, _) => ((ops[j]?).bind (·.dst)).toList | none => [])
def noTouch : Op → Bool
  | .move _ => true
  | .nilCheck _ => true
  | _ => false
def touchB (σ : St) (o : Oper) : List Nat := if noTouch o.op then [] else o.op.operands.toList.flatMap fun q => (σ.opd q).reach fun j => σ.blks.getD j .dead
inductive SR where
  | ok (e : Eff)
  | split (e : E)
  | fail
def actD (P : Program) (ops : Array Oper) (σ : St) (nb nv : Nat) (o : Oper) : SR :=
  match act (ctxD P σ nb nv (roomD o)) o with
  | some out => .ok ⟨o.dst, out.res.getD (.v (.c .any)), out.upd, out.evs, opTmps ops o, touchB σ o⟩
  | none => match o.op with
    | .pick c _ _ => match splitOf (σ.opd c) with | some e => .split e | none => .fail
    | op => match splitIdx P σ op with | some e => .split e | none => .fail
def skipD (ops : Array Oper) (σ : St) (o : Oper) : Eff := ⟨o.dst, .tup [], [], [], opTmps ops o, touchB σ o⟩
def stepD (P : Program) (ops : Array Oper) (σ : St) (nb nv : Nat) (o : Oper) : SR :=
  match o.guard with
  | none => actD P ops σ nb nv o
  | some (j, want) => match (ops[j]?).bind (·.dst) with
    | none => .ok (skipD ops σ o)
    | some d => match boolAV σ.asm (σ.tmps.getD d (.v (.c .any))) with
      | some b => if b = want then actD P ops σ nb nv o else .ok (skipD ops σ o)
      | none => if isTup (σ.tmps.getD d (.v (.c .any))) then .ok (skipD ops σ o) else match splitOf (σ.tmps.getD d (.v (.c .any))) with | some e => .split e | none => .fail
inductive TR where
  | ok (tr : List (Nat × Nat × Eff)) (σ : St)
  | split (evs : List Ev) (e : E)
  | fail (i : Nat)
  deriving Inhabited
def runD (P : Program) (ops : Array Oper) : List Nat → St → Nat → TR
  | [], σ, _ => .ok [] σ
  | i :: rest, σ, nb => match ops[i]? with
    | none => .fail i
    | some o => match stepD P ops σ nb σ.nv o with
      | .ok e => match runD P ops rest (e.app σ) (nb + takesD o) with
        | .ok tr σ' => .ok ((nb, σ.nv, e) :: tr) σ'
        | .split evs e' => .split (e.evs ++ evs) e'
        | .fail j => .fail j
      | .split e => .split [] e
      | .fail => .fail i

def optB (t : Option Nat) (l : List Nat) : Bool := match t with | some t => memN t l | none => false
def anyB (l m : List Nat) : Bool := l.any fun x => memN x m
def Eff.wb (e : Eff) : List Nat := e.upd.map (·.1)
def confl (a b : Eff) : Bool := optB a.dst b.rt || optB a.dst b.dst.toList || optB b.dst a.rt || anyB a.wb b.rb || anyB a.wb b.wb || anyB b.wb a.rb
def ordRow (bk : Nat) (ek : Eff) : Nat → List Eff → Bool
  | _, [] => true
  | i, e :: l => (bk.testBit i || !confl e ek) && ordRow bk ek (i + 1) l
def ordAll (bf : Array Nat) (all : List Eff) : Nat → List Eff → Bool
  | _, [] => true
  | k, e :: l => ordRow (bf.getD k 0) e 0 (all.take k) && ordAll bf all (k + 1) l
def edgesOK (ops : Array Oper) : Bool := (List.range ops.size).all fun i => match ops[i]? with | some o => o.after.toList.all fun e => !Region.binds .any e || decide (e.on < i) | none => true

section
variable {Z : Base} {P : Program} {G : Globs} {ops : Array Oper}

theorem stepD_sound (hP : NoNum P) {η : Env} {M : Mem} {σ : St} {nb nv : Nat} {o : Oper} {e : Eff} (h : stepD P ops σ nb nv o = .ok e) {tmps : Array Value} {w : World} {d : List Deferred} (hr : Rel Z η M σ tmps w) (hnb : allocB o.op = true → σ.blks[nb]? = some .none) (hroom : ∀ i, i < roomD o → σ.blks[nb + i]? = some .none) (hev : ∀ x ∈ e.evs, EvOK P Z.G η.ρ x) {next : Act → World → Prop} {Q : Exit → Act → World → Prop} {i : Nat} (hi : ops[i]? = some o)
    (k : After Z η M (e.app σ) d next) : wpOp P ops Q i next ⟨tmps, d⟩ w := by
  have hact : ∀ {e : Eff}, actD P ops σ nb nv o = .ok e → (∀ x ∈ e.evs, EvOK P Z.G η.ρ x) → After Z η M (e.app σ) d next → o.wp P ⟨tmps, d⟩ w next Q := by
    intro e h hev k
    unfold actD at h
    split at h
    · rename_i out hact
      simp only [SR.ok.injEq] at h
      subst h
      refine act_sound hP hact rfl rfl (a := ⟨tmps, d⟩) (fun x => opd_sound hr x) (fun X b v hb hX => boolAV_sound hr.asm hb hX) hr.wr (by simpa [ctxD] using hnb) (by simpa [ctxD] using hroom) hev ?_
      intro v w' η' M' he hM hw hres hno
      have := k η' M' (Act.put ⟨tmps, d⟩ o.dst v).tmps w' he hM (Rel.put hr he hM hw (by
        cases hres' : out.res with
        | none => exact trivial
        | some r => exact hres r hres'))
      cases ho : o.dst with
      | none => rw [ho] at this; exact this
      | some t => rw [ho] at this; exact this
    · split at h
      · split at h <;> cases h
      · split at h <;> cases h
  have hskip : After Z η M ((skipD ops σ o).app σ) d next → next ((⟨tmps, d⟩ : Act).put o.dst undef) w := by
    intro k
    have := k η M (Act.put ⟨tmps, d⟩ o.dst undef).tmps w (Env.le.refl _) (Mem.le.refl _) (by
      have := Rel.put (dst := o.dst) (A := .tup []) (v := undef) (nv' := σ.nv + 0) (d := d) hr (Env.le.refl _) (Mem.le.refl _) hr.wr abs_undef
      exact this)
    cases ho : o.dst with
    | none => rw [ho] at this; exact this
    | some t => rw [ho] at this; exact this
  unfold wpOp
  rw [hi]
  simp only []
  unfold stepD at h
  split at h
  · rename_i hg
    rw [if_pos (by simp [Region.wanted, hg])]
    exact .inl (hact h hev k)
  · rename_i j want hg
    split at h
    · rename_i hd
      simp only [SR.ok.injEq] at h
      subst h
      rw [if_neg (by simp [Region.wanted, hg, yielded, hd])]
      exact hskip k
    · rename_i dd hd
      split at h
      · rename_i b hb
        have hy := yielded_of hr hd hb
        split at h
        · rename_i hbw
          rw [if_pos (by simp [Region.wanted, hg, hy, hbw])]
          exact .inl (hact h hev k)
        · rename_i hbw
          simp only [SR.ok.injEq] at h
          subst h
          rw [if_neg (by simp [Region.wanted, hg, hy, hbw])]
          exact hskip k
      · split at h
        · rename_i ht
          simp only [SR.ok.injEq] at h
          subst h
          rw [if_neg (by simp [Region.wanted, hg, notyield_of hr hd ht])]
          exact hskip k
        · split at h <;> cases h

instance : Inhabited (AV ⊕ Blk) := ⟨.inl default⟩
def St.get (σ : St) : Nat ⊕ Nat → Option (AV ⊕ Blk)
  | .inl t => (σ.tmps[t]?).map .inl
  | .inr j => (σ.blks[j]?).map .inr
def lastU (u : List (Nat × Blk)) (j : Nat) : Option Blk := (u.reverse.find? fun p => p.1 == j).map (·.2)
def Eff.w (e : Eff) : Nat ⊕ Nat → Option (AV ⊕ Blk)
  | .inl t => if e.dst = some t then some (.inl e.val) else none
  | .inr j => (lastU e.upd j).map .inr
theorem applyU_get : ∀ (u : List (Nat × Blk)) (l : List Blk) (j : Nat), (applyU l u)[j]? = if j < l.length then some ((lastU u j).getD (l.getD j default)) else none
  | [], l, j => by
    simp only [applyU, List.foldl_nil, lastU, List.reverse_nil, List.find?_nil, Option.map_none, Option.getD_none]
    split
    · rename_i h; rw [List.getElem?_eq_getElem h]; simp [List.getD_eq_getElem?_getD, h]
    · rename_i h; exact List.getElem?_eq_none (by omega)
  | (i, B) :: u, l, j => by
    have ih := applyU_get u (l.set i B) j
    simp only [applyU, List.foldl_cons] at ih ⊢
    rw [ih]
    simp only [List.length_set]
    split
    · rename_i h
      congr 1
      simp only [lastU, List.reverse_cons, List.find?_append]
      cases hf : u.reverse.find? (fun p => p.1 == j) with
      | some p => simp
      | none =>
        simp only [Option.none_or, Option.map_none, Option.getD_none, List.find?_singleton, beq_iff_eq]
        by_cases e : i = j
        · subst e; simp [List.getD_eq_getElem?_getD, h]
        · simp [e, List.getD_eq_getElem?_getD]
    · rfl
theorem Eff.get_app (e : Eff) (σ : St) (x : Nat ⊕ Nat) : (e.app σ).get x = if (σ.get x).isSome then some ((e.w x).getD ((σ.get x).getD default)) else none := by
  cases x with
  | inl t =>
    simp only [St.get, Eff.w, Option.isSome_map]
    cases hd : e.dst with
    | none =>
      simp only [Eff.app, St.put, hd]
      cases ht : σ.tmps[t]? <;> simp
    | some t0 =>
      simp only [Eff.app, St.put, hd, Option.some.injEq, List.getElem?_set]
      by_cases ee : t0 = t
      · subst ee
        rw [if_pos rfl, if_pos rfl]
        by_cases hl : t0 < σ.tmps.length
        · simp [hl]
        · simp [hl]
      · rw [if_neg ee, if_neg ee]
        cases ht : σ.tmps[t]? <;> simp
  | inr j =>
    simp only [St.get, Eff.w, Option.isSome_map, Eff.app, applyU_get]
    by_cases hl : j < σ.blks.length
    · rw [if_pos hl]
      simp only [List.getElem?_eq_getElem hl, Option.isSome_some, if_true, Option.map_some, Option.getD_some, List.getD_eq_getElem?_getD]
      cases lastU e.upd j <;> simp
    · rw [if_neg hl]
      simp [List.getElem?_eq_none (show σ.blks.length ≤ j by omega)]
def ap (S : Nat → Bool) : Nat → List Eff → St → St
  | _, [], σ => σ
  | i, e :: l, σ => ap S (i + 1) l (if S i then e.app σ else σ)
def lastW (S : Nat → Bool) (x : Nat ⊕ Nat) : Nat → List Eff → Option (AV ⊕ Blk) → Option (AV ⊕ Blk)
  | _, [], r => r
  | i, e :: l, r => lastW S x (i + 1) l (if S i then (e.w x).or r else r)
theorem ap_get (S : Nat → Bool) (x : Nat ⊕ Nat) : ∀ (l : List Eff) (i : Nat) (σ σ0 : St) (r : Option (AV ⊕ Blk)), (σ.get x = if (σ0.get x).isSome then some (r.getD ((σ0.get x).getD default)) else none) → (ap S i l σ).get x = if (σ0.get x).isSome then some ((lastW S x i l r).getD ((σ0.get x).getD default)) else none
  | [], i, σ, σ0, r, h => h
  | e :: l, i, σ, σ0, r, h => by
    simp only [ap, lastW]
    refine ap_get S x l (i + 1) _ σ0 _ ?_
    by_cases hs : S i = true
    · rw [if_pos hs, if_pos hs, Eff.get_app, h]
      by_cases h0 : (σ0.get x).isSome = true
      · simp only [h0, if_true, Option.isSome_some, Option.getD_some]
        cases e.w x <;> simp
      · simp [h0]
    · rw [if_neg hs, if_neg hs]; exact h
theorem lastW_congr {S S' : Nat → Bool} {x : Nat ⊕ Nat} : ∀ (l : List Eff) (i : Nat) (r : Option (AV ⊕ Blk)), (∀ (k : Nat) (e : Eff), l[k]? = some e → (e.w x).isSome = true → S (i + k) = S' (i + k)) → lastW S x i l r = lastW S' x i l r
  | [], i, r, _ => rfl
  | e :: l, i, r, h => by
    simp only [lastW]
    have h0 := h 0 e rfl
    have hrest : ∀ (k : Nat) (e' : Eff), l[k]? = some e' → (e'.w x).isSome = true → S (i + 1 + k) = S' (i + 1 + k) := fun k e' hk hw => by
      have := h (k + 1) e' (by simpa using hk) hw
      rw [show i + 1 + k = i + (k + 1) by omega]; exact this
    rw [lastW_congr l (i + 1) _ hrest]
    congr 1
    cases hw : e.w x with
    | none => split <;> split <;> simp
    | some v =>
      have := h0 (by rw [hw]; rfl)
      simp only [Nat.add_zero] at this
      rw [this]
theorem ap_get0 (S : Nat → Bool) (x : Nat ⊕ Nat) (l : List Eff) (σ0 : St) : (ap S 0 l σ0).get x = if (σ0.get x).isSome then some ((lastW S x 0 l none).getD ((σ0.get x).getD default)) else none :=
  ap_get S x l 0 σ0 σ0 none (by cases h : σ0.get x <;> simp)
structure FixS (σ σ' : St) : Prop where
  asm : σ'.asm = σ.asm
  sg : σ'.sg = σ.sg
  gl : σ'.gl = σ.gl
  pj : σ'.pj = σ.pj
theorem FixS.symm' {a b : St} (h : FixS a b) : FixS b a := ⟨h.asm.symm, h.sg.symm, h.gl.symm, h.pj.symm⟩
theorem FixS.trans' {a b c : St} (h : FixS a b) (k : FixS b c) : FixS a c := ⟨k.asm.trans h.asm, k.sg.trans h.sg, k.gl.trans h.gl, k.pj.trans h.pj⟩
theorem app_fix (e : Eff) (σ : St) : FixS σ (e.app σ) := by
  simp only [Eff.app]; cases e.dst <;> exact ⟨rfl, rfl, rfl, rfl⟩
theorem ap_fix (S : Nat → Bool) : ∀ (l : List Eff) (i : Nat) (σ : St), FixS σ (ap S i l σ)
  | [], _, _ => ⟨rfl, rfl, rfl, rfl⟩
  | e :: l, i, σ => by
    simp only [ap]
    obtain ⟨h1, h2, h3, h4⟩ := ap_fix S l (i + 1) (if S i then e.app σ else σ)
    have h0 : FixS σ (if S i then e.app σ else σ) := by
      split
      · simp only [Eff.app]; cases e.dst <;> exact ⟨rfl, rfl, rfl, rfl⟩
      · exact ⟨rfl, rfl, rfl, rfl⟩
    exact ⟨h1.trans h0.asm, h2.trans h0.sg, h3.trans h0.gl, h4.trans h0.pj⟩
theorem get_isSome (S : Nat → Bool) (x : Nat ⊕ Nat) (l : List Eff) (σ0 : St) : ((ap S 0 l σ0).get x).isSome = (σ0.get x).isSome := by
  rw [ap_get0]; split <;> simp_all
theorem Rel.same {η : Env} {M : Mem} {σ σ' : St} {tmps : Array Value} {w : World} (h : Rel Z η M σ tmps w) (hg : ∀ x, σ'.get x = σ.get x) (ha : FixS σ σ') : Rel Z η M σ' tmps w := by
  have ht : σ'.tmps = σ.tmps := by
    apply List.ext_getElem?
    intro t
    have := hg (.inl t)
    simp only [St.get] at this
    cases h1 : σ'.tmps[t]? <;> cases h2 : σ.tmps[t]? <;> simp_all
  have hb : σ'.blks = σ.blks := by
    apply List.ext_getElem?
    intro j
    have := hg (.inr j)
    simp only [St.get] at this
    cases h1 : σ'.blks[j]? <;> cases h2 : σ.blks[j]? <;> simp_all
  exact ⟨by rw [hb]; exact h.wr, by rw [ht]; exact h.sz, by rw [ht]; exact h.tmp, by rw [ha.asm]; exact h.asm, by rw [ha.pj]; exact h.pj, by rw [ha.gl]; exact h.gl⟩
end

end Go.Proofs.Ytindphofgojfbaa.Sy
