/-
  A part of a symbolic walk that is proved sound: what the functions of a program do with data. No conditions.
-/
import Derived.Test.YtindphofgojfbaaSyR
set_option linter.unusedSimpArgs false
set_option linter.unusedVariables false
namespace Go.Proofs.Ytindphofgojfbaa.Sy
open Go.RowKit
def St.opd (σ : St) : Operand → AV
  | .tmp t => σ.tmps.getD t (.v (.c .any))
  | .const v => .v (constTV v)
  | .global g => match σ.gl.find? (fun p => Nat.beq p.1 g) with | some p => .v (.c (.arr p.2.1 p.2.2)) | none => .v (.c .any)
  | .func f => .v (.c (.k (.func (.func f) #[] #[])))
def St.put (σ : St) (dst : Option Tmp) (a : AV) : St := match dst with | some d => { σ with tmps := σ.tmps.set d a } | none => σ
def lookE (asm : List (E × Bool)) (e : E) : Option Bool := (asm.find? fun p => E.same p.1 e).map (·.2)
def resE (asm : List (E × Bool)) : E → Option Bool
  | .kb b => some b
  | .not e => (resE asm e).map (!·)
  | .cmp op a b => match lookE asm (.cmp op a b) with
    | some r => some r
    | none => match negOp op with
      | some op' => (lookE asm (.cmp op' a b)).map (!·)
      | none => none
  | e => lookE asm e
def boolAV (asm : List (E × Bool)) : AV → Option Bool
  | .v (.c (.d .bool e)) => resE asm e
  | _ => none
def atomE : E → E
  | .not e => atomE e
  | e => e
def splitOf : AV → Option E
  | .v (.c (.d .bool e)) => some (atomE e)
  | _ => none
def isNoneB : Blk → Bool | .none => true | _ => false
def killNone (l : List Blk) : List Blk := ((l.reverse.dropWhile isNoneB).reverse).map fun b => if isNoneB b then .dead else b
def padK : Nat := 6
def newVars : List Ev → Nat
  | [] => 0
  | .ob _ :: l => newVars l
  | .call _ ts _ us _ :: l => flatLen (us ++ outsT ts) + newVars l

def splitIdx (P : Program) (σ : St) : Op → Option E
  | .indexAddr T x i => match fixA P T (σ.opd x), intOf1 (σ.opd i) with
    | .v (.c (.ptr _ _)), some (k, e) => (List.range (arrLen P T)).findSome? fun m => if (resE σ.asm (.cmp .eql e (.ki k (.ofNat m)))).isNone then some (.cmp .eql e (.ki k (.ofNat m))) else none
    | _, _ => none
  | _ => none
inductive RR where
  | ok (σ : St) (evs : List Ev)
  | split (e : E)
  | fail (i : Nat)
  deriving Inhabited
def ctxOf (P : Program) (σ : St) : Ctx := { P := P, x := σ.opd, B := fun j => (σ.blks ++ List.replicate padK Blk.none).getD j .dead, nb := σ.blks.length, nv := σ.nv, bo := boolAV σ.asm, sg := σ.sg, room := padK }
def doOp (P : Program) (σ : St) (i : Nat) (o : Oper) : RR :=
  match act (ctxOf P σ) o with
  | some out => .ok { (σ.put o.dst (out.res.getD (.v (.c .any)))) with blks := killNone (applyU (σ.blks ++ List.replicate padK Blk.none) out.upd), nv := σ.nv + newVars out.evs } out.evs
  | none => match o.op with
    | .pick c _ _ => match splitOf (σ.opd c) with | some e => .split e | none => .fail i
    | op => match splitIdx P σ op with | some e => .split e | none => .fail i
def isTup : AV → Bool | .tup _ => true | _ => false
def runOp (P : Program) (ops : Array Oper) (σ : St) (i : Nat) (o : Oper) : RR :=
  match o.guard with
  | none => doOp P σ i o
  | some (j, want) => match (ops[j]?).bind (·.dst) with
    | none => .ok (σ.put o.dst (.tup [])) []
    | some d => match boolAV σ.asm (σ.tmps.getD d (.v (.c .any))) with
      | some b => if b = want then doOp P σ i o else .ok (σ.put o.dst (.tup [])) []
      | none => if isTup (σ.tmps.getD d (.v (.c .any))) then .ok (σ.put o.dst (.tup [])) [] else match splitOf (σ.tmps.getD d (.v (.c .any))) with | some e => .split e | none => .fail i
section
variable {Z : Base} {η : Env} {M : Mem} {blks : List Blk} {w : World} {P : Program} {G : Globs}

theorem WR.pad (h : WR Z η M blks w) : WR Z η M (blks ++ [Blk.none]) w := by
  have key : ∀ (j : Nat) (B : Blk), (blks ++ [Blk.none])[j]? = some B → blks[j]? = some B ∨ (j = blks.length ∧ B = Blk.none) := by
    intro j B hj
    rw [List.getElem?_append] at hj
    split at hj
    · exact .inl hj
    · rename_i hl
      rcases Nat.lt_or_ge (j - blks.length) 1 with h1 | h1
      · have : j - blks.length = 0 := by omega
        rw [this] at hj
        simp at hj
        exact .inr ⟨by omega, hj.symm⟩
      · rw [List.getElem?_eq_none (by simpa using h1)] at hj; cases hj
  refine ⟨h.below, h.size, h.base, h.new, h.mem, h.one, fun j B hB => ?_, fun i j B C p q hi hj hB hC hp hq hp0 hq0 e => ?_, fun j hj => h.out j (by simp at hj; omega), h.pal, h.glob⟩
  · rcases key j B hB with h1 | ⟨rfl, rfl⟩
    · exact h.blk j B h1
    · exact h.out _ (Nat.le_refl _)
  · rcases key i B hi with h1 | ⟨rfl, rfl⟩
    · rcases key j C hj with h2 | ⟨rfl, rfl⟩
      · exact h.inj i j B C p q h1 h2 hB hC hp hq hp0 hq0 e
      · rw [h.out _ (Nat.le_refl _)] at hq; cases hq
    · rw [h.out _ (Nat.le_refl _)] at hp; cases hp
theorem isNoneB_eq {b : Blk} (h : isNoneB b = true) : b = .none := by cases b <;> simp_all [isNoneB]
theorem WR.killNone {η : Env} {M : Mem} {blks : List Blk} {w : World} (h : WR Z η M blks w) : WR Z η M (killNone blks) w := by
  -- first the blocks at the end, then those between
  have hpre : ∃ t, blks = ((blks.reverse.dropWhile isNoneB).reverse) ++ t ∧ ∀ b ∈ t, b = Blk.none := by
    refine ⟨(blks.reverse.takeWhile isNoneB).reverse, ?_, fun b hb => ?_⟩
    · rw [← List.reverse_append, List.takeWhile_append_dropWhile, List.reverse_reverse]
    · have := List.mem_reverse.1 hb
      exact isNoneB_eq (List.all_eq_true.1 (List.all_takeWhile) b this)
  obtain ⟨t, ht, hn⟩ := hpre
  unfold Sy.killNone
  generalize (blks.reverse.dropWhile isNoneB).reverse = l at *
  have hget : ∀ (j : Nat) (B : Blk), l[j]? = some B → blks[j]? = some B := fun j B hj => by
    rw [ht, List.getElem?_append_left ((List.getElem?_eq_some_iff.1 hj).1)]; exact hj
  have key : ∀ (j : Nat) (B : Blk), (l.map fun b => if isNoneB b then Blk.dead else b)[j]? = some B → B ≠ .dead → l[j]? = some B := by
    intro j B hj hd
    simp only [List.getElem?_map, Option.map_eq_some_iff] at hj
    obtain ⟨b, h1, h2⟩ := hj
    split at h2
    · exact absurd h2.symm hd
    · rw [h1, h2]
  refine ⟨h.below, h.size, h.base, h.new, h.mem, h.one, fun j B hB => ?_, fun i j B C p q hi hj hB hC => h.inj i j B C p q (hget _ _ (key _ _ hi hB)) (hget _ _ (key _ _ hj hC)) hB hC, fun j hj => ?_, h.pal, h.glob⟩
  · cases B with
    | dead => trivial
    | _ => exact h.blk j _ (hget _ _ (key _ _ hB (by simp)))
  · simp at hj
    rcases Nat.lt_or_ge j blks.length with hl | hl
    · obtain ⟨B, h1⟩ : ∃ B, blks[j]? = some B := ⟨_, List.getElem?_eq_getElem hl⟩
      have h2 : B = Blk.none := by
        have h3 := h1
        rw [ht, List.getElem?_append_right hj] at h3
        exact hn _ (List.mem_of_getElem? h3)
      rw [h2] at h1
      exact h.blk j _ h1
    · exact h.out j hl
theorem WR.padK {η : Env} {M : Mem} {w : World} : ∀ (n : Nat) {blks : List Blk}, WR Z η M blks w → WR Z η M (blks ++ List.replicate n Blk.none) w
  | 0, blks, h => by simpa using h
  | n + 1, blks, h => by
    have := WR.padK n h.pad
    rw [List.append_assoc] at this
    rw [List.replicate_succ]
    exact this

theorem lookE_mem {asm : List (E × Bool)} {e : E} {b : Bool} (h : lookE asm e = some b) : (e, b) ∈ asm := by
  unfold lookE at h
  rw [Option.map_eq_some_iff] at h
  obtain ⟨p, hp, rfl⟩ := h
  have h1 := List.find?_some hp
  have h2 := List.mem_of_find?_eq_some hp
  obtain ⟨p1, p2⟩ := p
  have h3 := E.same_eq _ _ h1
  simp at h3
  subst h3
  exact h2
theorem neg_cmp {ρ : List D} {op op' : BinOp} {a b : E} {r : Bool} (h : negOp op = some op') (hd : ((E.cmp op' a b).den ρ).toB = r) : ((E.cmp op a b).den ρ).toB = !r := by
  cases op <;> simp [negOp] at h <;> subst h <;> simp only [E.den, cmpB, D.toB] at hd ⊢ <;> subst hd <;> first | rfl | (rw [Bool.eq_iff_iff]; simp; try omega)
theorem resE_sound {ρ : List D} {asm : List (E × Bool)} (ha : ∀ e b, (e, b) ∈ asm → (e.den ρ).toB = b) : ∀ {e : E} {b : Bool}, resE asm e = some b → (e.den ρ).toB = b
  | .kb b, _, h => by simp [resE] at h; subst h; rfl
  | .not e, b, h => by
    simp only [resE, Option.map_eq_some_iff] at h
    obtain ⟨b', h1, rfl⟩ := h
    have := resE_sound ha h1
    simp only [E.den]
    rw [this]; rfl
  | .cmp op x y, b, h => by
    simp only [resE] at h
    split at h
    · rename_i r hr
      cases h
      exact ha _ _ (lookE_mem hr)
    · split at h
      · rename_i op' hop
        rw [Option.map_eq_some_iff] at h
        obtain ⟨b', h1, rfl⟩ := h
        exact neg_cmp hop (ha _ _ (lookE_mem h1))
      · cases h
  | .v _, b, h | .ki _ _, b, h | .ks _, b, h | .ar .., b, h | .shf .., b, h | .beq .., b, h | .neg .., b, h | .inv .., b, h | .and .., b, h | .conv .., b, h | .mn .., b, h | .mx .., b, h | .len .., b, h | .nil, b, h | .cons .., b, h | .rc .., b, h | .get .., b, h | .cell .., b, h | .sub .., b, h | .app .., b, h | .set .., b, h | .setc .., b, h | .rep .., b, h | .cpy .., b, h | .seq .., b, h | .slt .., b, h | .sidx .., b, h | .ssub .., b, h | .scat .., b, h | .s2b .., b, h | .b2s .., b, h => by
    simp only [resE] at h
    exact ha _ _ (lookE_mem h)
theorem boolAV_sound {asm : List (E × Bool)} (ha : ∀ e b, (e, b) ∈ asm → (e.den η.ρ).toB = b) {X : AV} {b : Bool} {v : Value} (h : boolAV asm X = some b) (hX : AbsV η M X v) : v = .bool b := by
  unfold boolAV at h
  split at h
  · rename_i e
    obtain ⟨b', rfl, hb⟩ := abs_bool (show AbsT η M (.c (.d .bool e)) v from hX)
    have := resE_sound ha h
    rw [hb] at this
    simp [D.toB] at this
    rw [this]
  · cases h

theorem opd_sound {σ : St} {a : Act} (h : Rel Z η M σ a.tmps w) (x : Operand) : AbsV η M (σ.opd x) (a.eval x) := by
  cases x with
  | tmp t =>
    simp only [St.opd, Act.eval, List.getD_eq_getElem?_getD]
    cases ht : σ.tmps[t]? with
    | none => exact trivial
    | some A => exact h.tmp t A ht
  | const v => exact constTV_abs v
  | global g =>
    simp only [St.opd]
    split
    · rename_i p hp
      have hm := List.mem_of_find?_eq_some hp
      have hg := List.find?_some hp
      have hg' : p.1 = g := Nat.eq_of_beq_eq_true hg
      rw [h.gl] at hm
      obtain ⟨xs, h1, h2⟩ := h.wr.glob.mono h.wr.base p hm η.ρ
      exact AbsT_mk (a := .arr p.2.1 p.2.2) ⟨g, 0, xs, rfl, h1, by rw [← hg']; exact h2⟩ rfl
    · exact trivial
  | func f => exact ⟨rfl, rfl⟩

theorem Rel.put {σ : St} {tmps : Array Value} {dst : Option Tmp} {A : AV} {v : Value} {η' : Env} {M' : Mem} {blks' : List Blk} {w' : World} {nv' : Nat} {d : List Deferred} (h : Rel Z η M σ tmps w) (he : η.le η') (hM : M.le M') (hw : WR Z η' M' blks' w') (hA : AbsV η' M' A v) :
    Rel Z η' M' { (σ.put dst A) with blks := blks', nv := nv' } (Act.put ⟨tmps, d⟩ dst v).tmps w' := by
  cases dst with
  | none => exact ⟨hw, h.sz, fun t B hB => (h.tmp t B hB).mono he hM, fun e b hb => by rw [he.ρ]; exact h.asm e b hb, h.pj, h.gl⟩
  | some t0 =>
    refine ⟨hw, by simp [St.put, Act.put, h.sz], fun t B hB => ?_, fun e b hb => by rw [he.ρ]; exact h.asm e b hb, h.pj, h.gl⟩
    simp only [St.put, Act.put] at hB ⊢
    rw [List.getElem?_set] at hB
    by_cases e : t0 = t
    · subst e
      rw [if_pos rfl] at hB
      split at hB
      · rename_i hlt
        cases hB
        have : t0 < tmps.size := by rw [← h.sz]; exact hlt
        simp [Array.getD, this]
        exact hA
      · cases hB
    · rw [if_neg e] at hB
      have h2 := (h.tmp t B hB).mono he hM
      have : (tmps.setIfInBounds t0 v).getD t undef = tmps.getD t undef := by
        simp [Array.getD_eq_getD_getElem?, Array.getElem?_setIfInBounds, e]
      rw [this]
      exact h2

theorem yielded_of {σ : St} {ops : Array Oper} {tmps : Array Value} (h : Rel Z η M σ tmps w) {j d : Nat} (hd : (ops[j]?).bind (·.dst) = some d) {b : Bool} (hb : boolAV σ.asm (σ.tmps.getD d (.v (.c .any))) = some b) : yielded ops tmps j = some b := by
  have hX : ∃ A, σ.tmps[d]? = some A ∧ boolAV σ.asm A = some b := by
    rw [List.getD_eq_getElem?_getD] at hb
    cases ht : σ.tmps[d]? with
    | none => rw [ht] at hb; simp [boolAV] at hb
    | some A => rw [ht] at hb; exact ⟨A, rfl, hb⟩
  obtain ⟨A, hA, hb⟩ := hX
  have hv := boolAV_sound h.asm hb (h.tmp d A hA)
  have hlt : d < tmps.size := by rw [← h.sz]; exact (List.getElem?_eq_some_iff.1 hA).1
  unfold yielded
  rw [hd]
  simp only [Option.bind_some]
  rw [Array.getD_eq_getD_getElem?, Array.getElem?_eq_getElem hlt] at hv
  simp at hv
  rw [Array.getElem?_eq_getElem hlt, hv]

def After (Z : Base) (η : Env) (M : Mem) (σ : St) (d : List Deferred) (next : Act → World → Prop) : Prop :=
  ∀ η' M' tmps' w', η.le η' → M.le M' → Rel Z η' M' σ tmps' w' → next ⟨tmps', d⟩ w'

theorem doOp_sound (hP : NoNum P) {σ σ' : St} {i : Nat} {o : Oper} {evs : List Ev} (h : doOp P σ i o = .ok σ' evs) {tmps : Array Value} {d : List Deferred} (hr : Rel Z η M σ tmps w) (hev : ∀ e ∈ evs, EvOK P Z.G η.ρ e) {next : Act → World → Prop} {Q : Exit → Act → World → Prop}
    (k : After Z η M σ' d next) : o.wp P ⟨tmps, d⟩ w next Q := by
  unfold doOp at h
  split at h
  · rename_i out hact
    simp only [RR.ok.injEq] at h
    obtain ⟨rfl, rfl⟩ := h
    refine act_sound hP hact rfl rfl (a := ⟨tmps, d⟩) (fun x => opd_sound hr x) (fun X b v hb hX => boolAV_sound hr.asm hb hX) (hr.wr.padK padK) (fun _ => by simp [ctxOf, padK]) (fun i hi => by simp only [ctxOf] at hi ⊢; rw [List.getElem?_append_right (by omega), List.getElem?_replicate, if_pos (by omega)]) hev ?_
    intro v w' η' M' he hM hw hres hno
    have := k η' M' (Act.put ⟨tmps, d⟩ o.dst v).tmps w' he hM (Rel.put hr he hM hw.killNone (by
      cases hres' : out.res with
      | none => exact trivial
      | some r => exact hres r hres'))
    cases ho : o.dst with
    | none => rw [ho] at this; exact this
    | some t => rw [ho] at this; exact this
  · split at h
    · split at h <;> cases h
    · split at h <;> cases h
theorem abs_undef {η : Env} {M : Mem} : AbsV η M (.tup []) undef := ⟨[], rfl, .nil⟩
theorem notyield_of {σ : St} {ops : Array Oper} {tmps : Array Value} (h : Rel Z η M σ tmps w) {j d : Nat} (hd : (ops[j]?).bind (·.dst) = some d) (ht : isTup (σ.tmps.getD d (.v (.c .any))) = true) : yielded ops tmps j = none := by
  rw [List.getD_eq_getElem?_getD] at ht
  cases hA : σ.tmps[d]? with
  | none => rw [hA] at ht; simp [isTup] at ht
  | some A =>
    rw [hA] at ht
    cases A with
    | v t => simp [isTup] at ht
    | tup l =>
      have hv := h.tmp d _ hA
      have hlt : d < tmps.size := by rw [← h.sz]; exact (List.getElem?_eq_some_iff.1 hA).1
      obtain ⟨vs, hv, _⟩ := hv
      unfold yielded
      rw [hd]
      simp only [Option.bind_some]
      rw [Array.getD_eq_getD_getElem?, Array.getElem?_eq_getElem hlt] at hv
      simp at hv
      rw [Array.getElem?_eq_getElem hlt, hv]
theorem skip_sound {σ : St} {o : Oper} {tmps : Array Value} {d : List Deferred} (hr : Rel Z η M σ tmps w) {next : Act → World → Prop} (k : After Z η M (σ.put o.dst (.tup [])) d next) : next (Act.put ⟨tmps, d⟩ o.dst undef) w := by
  have := k η M (Act.put ⟨tmps, d⟩ o.dst undef).tmps w (Env.le.refl _) (Mem.le.refl _) (by
    have := Rel.put (dst := o.dst) (A := .tup []) (v := undef) (nv' := (σ.put o.dst (.tup [])).nv) (d := d) hr (Env.le.refl _) (Mem.le.refl _) hr.wr abs_undef
    cases ho : o.dst with
    | none => rw [ho] at this; exact this
    | some t => rw [ho] at this; exact this)
  cases ho : o.dst with
  | none => rw [ho] at this; exact this
  | some t => rw [ho] at this; exact this

end

end Go.Proofs.Ytindphofgojfbaa.Sy
