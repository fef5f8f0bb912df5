/-
  A part of a symbolic walk that is proved sound: what the functions of a program do with data. No conditions.
-/
import Derived.Test.YtokjokbbegcceaaSxR
namespace Go.Proofs.Ytokjokbbegcceaa.Sx
open Go.RowKit

/-! Regions. -/
def St.opd (σ : St) : Operand → AV
  | .tmp t => σ.tmps.getD t (.v (.c .any))
  | .const v => .v (constTV v)
  | .global _ => .v (.c .any)
  | .func f => .v (.c (.k (.func (.func f) #[] #[])))
def St.put (σ : St) (dst : Option Tmp) (a : AV) : St := match dst with | some d => { σ with tmps := σ.tmps.set d a } | none => σ
def lookE (asm : List (E × Bool)) (e : E) : Option Bool := (asm.find? fun p => E.same p.1 e).map (·.2)
def resE (asm : List (E × Bool)) : E → Option Bool
  | .kb b => some b
  | .not e => (resE asm e).map (!·)
  | .cmp op a b => match lookE asm (.cmp op a b) with
    | some r => some r
    | none => match negOp op with
      | some op' => (lookE asm (.cmp op' a b)).map (!·)
      | none => none
  | e => lookE asm e
def boolAV (asm : List (E × Bool)) : AV → Option Bool
  | .v (.c (.d .bool e)) => resE asm e
  | _ => none
def atomE : E → E
  | .not e => atomE e
  | e => e
def splitOf : AV → Option E
  | .v (.c (.d .bool e)) => some (atomE e)
  | _ => none
def trimB (l : List Blk) : List Blk := match l.getLast? with | some .none => l.dropLast | _ => l
def flatLen (us : List TS) : Nat := (us.map fun t => t.flat.length).sum
def newVars : List Ev → Nat
  | [] => 0
  | .ob _ :: l => newVars l
  | .call _ _ _ us _ :: l => flatLen us + newVars l

inductive RR where
  | ok (σ : St) (evs : List Ev)
  | split (e : E)
  | fail (i : Nat)
  deriving Inhabited
def ctxOf (P : Program) (σ : St) : Ctx := { P := P, x := σ.opd, B := fun j => (σ.blks ++ [Blk.none]).getD j .dead, nb := σ.blks.length, nv := σ.nv, bo := boolAV σ.asm }
def doOp (P : Program) (σ : St) (i : Nat) (o : Oper) : RR :=
  match act (ctxOf P σ) o with
  | some out => .ok { (σ.put o.dst (out.res.getD (.v (.c .any)))) with blks := trimB (applyU (σ.blks ++ [Blk.none]) out.upd), nv := σ.nv + newVars out.evs } out.evs
  | none => match o.op with
    | .pick c _ _ => match splitOf (σ.opd c) with | some e => .split e | none => .fail i
    | _ => .fail i
def isTup : AV → Bool | .tup _ => true | _ => false
def runOp (P : Program) (ops : Array Oper) (σ : St) (i : Nat) (o : Oper) : RR :=
  match o.guard with
  | none => doOp P σ i o
  | some (j, want) => match (ops[j]?).bind (·.dst) with
    | none => .ok (σ.put o.dst (.tup [])) []
    | some d => match boolAV σ.asm (σ.tmps.getD d (.v (.c .any))) with
      | some b => if b = want then doOp P σ i o else .ok (σ.put o.dst (.tup [])) []
      | none => if isTup (σ.tmps.getD d (.v (.c .any))) then .ok (σ.put o.dst (.tup [])) [] else match splitOf (σ.tmps.getD d (.v (.c .any))) with | some e => .split e | none => .fail i
def runSeq (P : Program) (ops : Array Oper) : List Nat → St → RR
  | [], σ => .ok σ []
  | i :: rest, σ => match ops[i]? with
    | none => runSeq P ops rest σ
    | some o => match runOp P ops σ i o with
      | .ok σ1 e1 => match runSeq P ops rest σ1 with
        | .ok σ2 e2 => .ok σ2 (e1 ++ e2)
        | r => r
      | r => r

section
variable {Z : Base} {η : Env} {M : Mem} {blks : List Blk} {w : World} {P : Program}

theorem WR.pad (h : WR Z η M blks w) : WR Z η M (blks ++ [Blk.none]) w := by
  have key : ∀ (j : Nat) (B : Blk), (blks ++ [Blk.none])[j]? = some B → blks[j]? = some B ∨ (j = blks.length ∧ B = Blk.none) := by
    intro j B hj
    rw [List.getElem?_append] at hj
    split at hj
    · exact .inl hj
    · rename_i hl
      rcases Nat.lt_or_ge (j - blks.length) 1 with h1 | h1
      · have : j - blks.length = 0 := by omega
        rw [this] at hj
        simp at hj
        exact .inr ⟨by omega, hj.symm⟩
      · rw [List.getElem?_eq_none (by simpa using h1)] at hj; cases hj
  refine ⟨h.below, h.size, h.base, h.new, h.mem, h.one, fun j B hB => ?_, fun i j B C p q hi hj hB hC hp hq hp0 hq0 e => ?_, fun j hj => h.out j (by simp at hj; omega)⟩
  · rcases key j B hB with h1 | ⟨rfl, rfl⟩
    · exact h.blk j B h1
    · exact h.out _ (Nat.le_refl _)
  · rcases key i B hi with h1 | ⟨rfl, rfl⟩
    · rcases key j C hj with h2 | ⟨rfl, rfl⟩
      · exact h.inj i j B C p q h1 h2 hB hC hp hq hp0 hq0 e
      · rw [h.out _ (Nat.le_refl _)] at hq; cases hq
    · rw [h.out _ (Nat.le_refl _)] at hp; cases hp
theorem WR.trim (h : WR Z η M blks w) : WR Z η M (trimB blks) w := by
  unfold trimB
  split
  · rename_i hl
    have hne : blks ≠ [] := by intro e; subst e; simp at hl
    have hlast : blks[blks.length - 1]? = some Blk.none := by rw [← hl, List.getLast?_eq_getElem?]
    have key : ∀ (j : Nat) (B : Blk), blks.dropLast[j]? = some B → blks[j]? = some B := by
      intro j B hj
      rw [List.getElem?_dropLast] at hj
      split at hj
      · exact hj
      · cases hj
    refine ⟨h.below, h.size, h.base, h.new, h.mem, h.one, fun j B hB => h.blk j B (key j B hB), fun i j B C p q hi hj => h.inj i j B C p q (key _ _ hi) (key _ _ hj), fun j hj => ?_⟩
    simp at hj
    rcases Nat.lt_or_ge j blks.length with h1 | h1
    · have : j = blks.length - 1 := by omega
      rw [this]
      exact h.blk _ _ hlast
    · exact h.out j h1
  · exact h

theorem lookE_mem {asm : List (E × Bool)} {e : E} {b : Bool} (h : lookE asm e = some b) : (e, b) ∈ asm := by
  unfold lookE at h
  rw [Option.map_eq_some_iff] at h
  obtain ⟨p, hp, rfl⟩ := h
  have h1 := List.find?_some hp
  have h2 := List.mem_of_find?_eq_some hp
  obtain ⟨p1, p2⟩ := p
  have h3 := E.same_eq _ _ h1
  simp at h3
  subst h3
  exact h2
theorem neg_cmp {ρ : List D} {op op' : BinOp} {a b : E} {r : Bool} (h : negOp op = some op') (hd : ((E.cmp op' a b).den ρ).toB = r) : ((E.cmp op a b).den ρ).toB = !r := by
  cases op <;> simp [negOp] at h <;> subst h <;> simp only [E.den, cmpB, D.toB] at hd ⊢ <;> subst hd <;> first | rfl | (rw [Bool.eq_iff_iff]; simp; try omega)
theorem resE_sound {ρ : List D} {asm : List (E × Bool)} (ha : ∀ e b, (e, b) ∈ asm → (e.den ρ).toB = b) : ∀ {e : E} {b : Bool}, resE asm e = some b → (e.den ρ).toB = b
  | .kb b, _, h => by simp [resE] at h; subst h; rfl
  | .not e, b, h => by
    simp only [resE, Option.map_eq_some_iff] at h
    obtain ⟨b', h1, rfl⟩ := h
    have := resE_sound ha h1
    simp only [E.den]
    rw [this]; rfl
  | .cmp op x y, b, h => by
    simp only [resE] at h
    split at h
    · rename_i r hr
      cases h
      exact ha _ _ (lookE_mem hr)
    · split at h
      · rename_i op' hop
        rw [Option.map_eq_some_iff] at h
        obtain ⟨b', h1, rfl⟩ := h
        exact neg_cmp hop (ha _ _ (lookE_mem h1))
      · cases h
  | .v _, b, h | .ki _ _, b, h | .ks _, b, h | .ar .., b, h | .shf .., b, h | .beq .., b, h | .neg .., b, h | .inv .., b, h | .and .., b, h | .conv .., b, h | .mn .., b, h | .mx .., b, h | .len .., b, h | .nil, b, h | .cons .., b, h | .rc .., b, h | .get .., b, h | .cell .., b, h | .sub .., b, h | .app .., b, h | .set .., b, h | .setc .., b, h | .rep .., b, h | .cpy .., b, h | .seq .., b, h | .slt .., b, h | .sidx .., b, h | .ssub .., b, h | .scat .., b, h | .s2b .., b, h | .b2s .., b, h => by
    simp only [resE] at h
    exact ha _ _ (lookE_mem h)
theorem boolAV_sound {asm : List (E × Bool)} (ha : ∀ e b, (e, b) ∈ asm → (e.den η.ρ).toB = b) {X : AV} {b : Bool} {v : Value} (h : boolAV asm X = some b) (hX : AbsV η M X v) : v = .bool b := by
  unfold boolAV at h
  split at h
  · rename_i e
    obtain ⟨b', rfl, hb⟩ := abs_bool (show AbsT η M (.c (.d .bool e)) v from hX)
    have := resE_sound ha h
    rw [hb] at this
    simp [D.toB] at this
    rw [this]
  · cases h

theorem opd_sound {σ : St} {a : Act} (h : Rel Z η M σ a.tmps w) (x : Operand) : AbsV η M (σ.opd x) (a.eval x) := by
  cases x with
  | tmp t =>
    simp only [St.opd, Act.eval, List.getD_eq_getElem?_getD]
    cases ht : σ.tmps[t]? with
    | none => exact trivial
    | some A => exact h.tmp t A ht
  | const v => exact constTV_abs v
  | global g => exact trivial
  | func f => exact ⟨rfl, rfl⟩

theorem Rel.put {σ : St} {tmps : Array Value} {dst : Option Tmp} {A : AV} {v : Value} {η' : Env} {M' : Mem} {blks' : List Blk} {w' : World} {nv' : Nat} {d : List Deferred} (h : Rel Z η M σ tmps w) (he : η.le η') (hM : M.le M') (hw : WR Z η' M' blks' w') (hA : AbsV η' M' A v) :
    Rel Z η' M' { (σ.put dst A) with blks := blks', nv := nv' } (Act.put ⟨tmps, d⟩ dst v).tmps w' := by
  cases dst with
  | none => exact ⟨hw, h.sz, fun t B hB => (h.tmp t B hB).mono he hM, fun e b hb => by rw [he.ρ]; exact h.asm e b hb⟩
  | some t0 =>
    refine ⟨hw, by simp [St.put, Act.put, h.sz], fun t B hB => ?_, fun e b hb => by rw [he.ρ]; exact h.asm e b hb⟩
    simp only [St.put, Act.put] at hB ⊢
    rw [List.getElem?_set] at hB
    by_cases e : t0 = t
    · subst e
      rw [if_pos rfl] at hB
      split at hB
      · rename_i hlt
        cases hB
        have : t0 < tmps.size := by rw [← h.sz]; exact hlt
        simp [Array.getD, this]
        exact hA
      · cases hB
    · rw [if_neg e] at hB
      have h2 := (h.tmp t B hB).mono he hM
      have : (tmps.setIfInBounds t0 v).getD t undef = tmps.getD t undef := by
        simp [Array.getD_eq_getD_getElem?, Array.getElem?_setIfInBounds, e]
      rw [this]
      exact h2

theorem yielded_of {σ : St} {ops : Array Oper} {tmps : Array Value} (h : Rel Z η M σ tmps w) {j d : Nat} (hd : (ops[j]?).bind (·.dst) = some d) {b : Bool} (hb : boolAV σ.asm (σ.tmps.getD d (.v (.c .any))) = some b) : yielded ops tmps j = some b := by
  have hX : ∃ A, σ.tmps[d]? = some A ∧ boolAV σ.asm A = some b := by
    rw [List.getD_eq_getElem?_getD] at hb
    cases ht : σ.tmps[d]? with
    | none => rw [ht] at hb; simp [boolAV] at hb
    | some A => rw [ht] at hb; exact ⟨A, rfl, hb⟩
  obtain ⟨A, hA, hb⟩ := hX
  have hv := boolAV_sound h.asm hb (h.tmp d A hA)
  have hlt : d < tmps.size := by rw [← h.sz]; exact (List.getElem?_eq_some_iff.1 hA).1
  unfold yielded
  rw [hd]
  simp only [Option.bind_some]
  rw [Array.getD_eq_getD_getElem?, Array.getElem?_eq_getElem hlt] at hv
  simp at hv
  rw [Array.getElem?_eq_getElem hlt, hv]

/-- What is wanted behind an operation. -/
def After (Z : Base) (η : Env) (M : Mem) (σ : St) (d : List Deferred) (next : Act → World → Prop) : Prop :=
  ∀ η' M' tmps' w', η.le η' → M.le M' → Rel Z η' M' σ tmps' w' → next ⟨tmps', d⟩ w'

theorem doOp_sound (hP : NoNum P) {σ σ' : St} {i : Nat} {o : Oper} {evs : List Ev} (h : doOp P σ i o = .ok σ' evs) {tmps : Array Value} {d : List Deferred} (hr : Rel Z η M σ tmps w) (hev : ∀ e ∈ evs, EvOK P η.ρ e) {next : Act → World → Prop} {Q : Exit → Act → World → Prop}
    (k : After Z η M σ' d next) : o.wp P ⟨tmps, d⟩ w next Q := by
  unfold doOp at h
  split at h
  · rename_i out hact
    simp only [RR.ok.injEq] at h
    obtain ⟨rfl, rfl⟩ := h
    refine act_sound hP hact rfl rfl (a := ⟨tmps, d⟩) (fun x => opd_sound hr x) (fun X b v hb hX => boolAV_sound hr.asm hb hX) hr.wr.pad (fun _ => by simp [ctxOf]) hev ?_
    intro v w' η' M' he hM hw hres hno
    have := k η' M' (Act.put ⟨tmps, d⟩ o.dst v).tmps w' he hM (Rel.put hr he hM hw.trim (by
      cases hres' : out.res with
      | none => exact trivial
      | some r => exact hres r hres'))
    cases ho : o.dst with
    | none => rw [ho] at this; exact this
    | some t => rw [ho] at this; exact this
  · split at h
    · split at h <;> cases h
    · cases h
theorem abs_undef {η : Env} {M : Mem} : AbsV η M (.tup []) undef := ⟨[], rfl, .nil⟩
theorem notyield_of {σ : St} {ops : Array Oper} {tmps : Array Value} (h : Rel Z η M σ tmps w) {j d : Nat} (hd : (ops[j]?).bind (·.dst) = some d) (ht : isTup (σ.tmps.getD d (.v (.c .any))) = true) : yielded ops tmps j = none := by
  rw [List.getD_eq_getElem?_getD] at ht
  cases hA : σ.tmps[d]? with
  | none => rw [hA] at ht; simp [isTup] at ht
  | some A =>
    rw [hA] at ht
    cases A with
    | v t => simp [isTup] at ht
    | tup l =>
      have hv := h.tmp d _ hA
      have hlt : d < tmps.size := by rw [← h.sz]; exact (List.getElem?_eq_some_iff.1 hA).1
      obtain ⟨vs, hv, _⟩ := hv
      unfold yielded
      rw [hd]
      simp only [Option.bind_some]
      rw [Array.getD_eq_getD_getElem?, Array.getElem?_eq_getElem hlt] at hv
      simp at hv
      rw [Array.getElem?_eq_getElem hlt, hv]
theorem skip_sound {σ : St} {o : Oper} {tmps : Array Value} {d : List Deferred} (hr : Rel Z η M σ tmps w) {next : Act → World → Prop} (k : After Z η M (σ.put o.dst (.tup [])) d next) : next (Act.put ⟨tmps, d⟩ o.dst undef) w := by
  have := k η M (Act.put ⟨tmps, d⟩ o.dst undef).tmps w (Env.le.refl _) (Mem.le.refl _) (by
    have := Rel.put (dst := o.dst) (A := .tup []) (v := undef) (nv' := (σ.put o.dst (.tup [])).nv) (d := d) hr (Env.le.refl _) (Mem.le.refl _) hr.wr abs_undef
    cases ho : o.dst with
    | none => rw [ho] at this; exact this
    | some t => rw [ho] at this; exact this)
  cases ho : o.dst with
  | none => rw [ho] at this; exact this
  | some t => rw [ho] at this; exact this

theorem runSeq_sound (hP : NoNum P) {ops : Array Oper} {Q : Exit → Act → World → Prop} : ∀ (l : List Nat) {σ σ' : St} {evs : List Ev} {η : Env} {M : Mem} {tmps : Array Value} {w : World} {d : List Deferred}, runSeq P ops l σ = .ok σ' evs → Rel Z η M σ tmps w → (∀ e ∈ evs, EvOK P η.ρ e) →
    After Z η M σ' d (Q .normal) → wpOps P ops Q l ⟨tmps, d⟩ w
  | [], σ, σ', evs, η, M, tmps, w, d, h, hr, _, k => by
    simp only [runSeq, RR.ok.injEq] at h
    obtain ⟨rfl, rfl⟩ := h
    exact k η M tmps w (Env.le.refl _) (Mem.le.refl _) hr
  | i :: rest, σ, σ', evs, η, M, tmps, w, d, h, hr, hev, k => by
    simp only [runSeq] at h
    simp only [wpOps]
    cases ho : ops[i]? with
    | none =>
      rw [ho] at h
      exact runSeq_sound hP rest h hr hev k
    | some o =>
      rw [ho] at h
      simp only [] at h ⊢
      split at h
      · rename_i σ1 e1 h1
        split at h
        · rename_i σ2 e2 h2
          simp only [RR.ok.injEq] at h
          obtain ⟨rfl, rfl⟩ := h
          have hk : After Z η M σ1 d (wpOps P ops Q rest) := by
            intro η' M' tmps' w' he hM hr'
            refine runSeq_sound hP rest h2 hr' (fun e he' => by rw [he.ρ]; exact hev e (List.mem_append_right _ he')) ?_
            intro η2 M2 t2 w2 he2 hM2 hr2
            exact k η2 M2 t2 w2 (he.trans he2) (hM.trans hM2) hr2
          unfold runOp at h1
          split at h1
          · rename_i hg
            have : Region.wanted o (yielded ops tmps) = true := by simp [Region.wanted, hg]
            rw [if_pos this]
            exact .inl (doOp_sound hP h1 hr (fun e he => hev e (List.mem_append_left _ he)) hk)
          · rename_i j want hg
            split at h1
            · rename_i hd
              simp only [RR.ok.injEq] at h1
              obtain ⟨rfl, rfl⟩ := h1
              have : ¬ Region.wanted o (yielded ops tmps) = true := by simp [Region.wanted, hg, yielded, hd]
              rw [if_neg this]
              exact skip_sound hr hk
            · rename_i dd hd
              split at h1
              · rename_i b hb
                have hy := yielded_of hr hd hb
                split at h1
                · rename_i hbw
                  have : Region.wanted o (yielded ops tmps) = true := by simp [Region.wanted, hg, hy, hbw]
                  rw [if_pos this]
                  exact .inl (doOp_sound hP h1 hr (fun e he => hev e (List.mem_append_left _ he)) hk)
                · rename_i hbw
                  simp only [RR.ok.injEq] at h1
                  obtain ⟨rfl, rfl⟩ := h1
                  have : ¬ Region.wanted o (yielded ops tmps) = true := by simp [Region.wanted, hg, hy, hbw]
                  rw [if_neg this]
                  exact skip_sound hr hk
              · split at h1
                · rename_i ht
                  simp only [RR.ok.injEq] at h1
                  obtain ⟨rfl, rfl⟩ := h1
                  have : ¬ Region.wanted o (yielded ops tmps) = true := by simp [Region.wanted, hg, notyield_of hr hd ht]
                  rw [if_neg this]
                  exact skip_sound hr hk
                · split at h1 <;> cases h1
        · rename_i hne; exact absurd h (hne _ _)
      · rename_i hne; exact absurd h (hne _ _)
end
end Go.Proofs.Ytokjokbbegcceaa.Sx
