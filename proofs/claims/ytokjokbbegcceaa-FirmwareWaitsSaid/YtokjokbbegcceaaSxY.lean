/-
  A part of a symbolic walk that is proved sound: what the functions of a program do with data. No conditions.
-/
import Derived.Test.YtokjokbbegcceaaSxS
import Derived.Orders
namespace Go.Proofs.Ytokjokbbegcceaa.Sx
open Go.RowKit

def memN (n : Nat) : List Nat → Bool
  | [] => false
  | m :: l => Nat.beq m n || memN n l
theorem memN_iff : ∀ {n : Nat} {l : List Nat}, memN n l = true ↔ n ∈ l
  | n, [] => by simp [memN]
  | n, m :: l => by
    simp only [memN, Bool.or_eq_true, List.mem_cons, memN_iff (n := n) (l := l)]
    constructor
    · rintro (h | h)
      · exact .inl (Nat.eq_of_beq_eq_true h).symm
      · exact .inr h
    · rintro (h | h)
      · subst h; exact .inl (Nat.beq_refl n)
      · exact .inr h
/-! What an operation's step depends on. -/
def A.blks : A → List Nat | .ptr j _ => [j] | .row j _ _ => [j] | .rptr j _ _ _ => [j] | _ => []
def TV.blks : TV → List Nat | .c a => a.blks | .g l => l.flatMap A.blks
def AV.blks : AV → List Nat | .v t => t.blks | .tup l => l.flatMap TV.blks

section
variable {P : Program} {B1 B2 : Nat → Blk}
theorem loadA_congr {T : TypeId} {a : A} (h : ∀ j ∈ a.blks, B1 j = B2 j) : loadA P B1 T a = loadA P B2 T a := by
  cases a with
  | ptr j o => simp only [loadA, h j (by simp [A.blks])]
  | rptr j s i o => simp only [loadA, h j (by simp [A.blks])]
  | _ => rfl
theorem storeA_congr {T : TypeId} {a : A} {x : TV} (h : ∀ j ∈ a.blks, B1 j = B2 j) : storeA P B1 T a x = storeA P B2 T a x := by
  cases a with
  | ptr j o => simp only [storeA, h j (by simp [A.blks])]
  | rptr j s i o => simp only [storeA, h j (by simp [A.blks])]
  | _ => rfl
theorem A.toD_congr {a : A} (h : ∀ j ∈ a.blks, B1 j = B2 j) : a.toD B1 = a.toD B2 := by
  cases a with
  | row j es n => simp only [A.toD, h j (by simp [A.blks])]
  | _ => rfl
theorem mapM_congr {α β : Type} {f g : α → Option β} : ∀ {l : List α}, (∀ x ∈ l, f x = g x) → l.mapM f = l.mapM g
  | [], _ => rfl
  | x :: l, h => by
    rw [List.mapM_cons, List.mapM_cons, h x (by simp), mapM_congr fun y hy => h y (by simp [hy])]
theorem TV.toD_congr {t : TV} (h : ∀ j ∈ t.blks, B1 j = B2 j) : t.toD B1 = t.toD B2 := by
  cases t with
  | c a => simp only [TV.toD, A.toD_congr (a := a) h]
  | g l =>
    simp only [TV.toD]
    rw [mapM_congr (l := l) fun a ha => A.toD_congr fun j hj => h j (by simp only [TV.blks, List.mem_flatMap]; exact ⟨a, ha, hj⟩)]
theorem A.rows_blks {a : A} {j : Nat} (h : j ∈ a.rows) : j ∈ a.blks := by cases a <;> simp_all [A.rows, A.blks]
theorem TV.rows_blks {t : TV} {j : Nat} (h : j ∈ t.rows) : j ∈ t.blks := by
  cases t with
  | c a => exact A.rows_blks h
  | g l =>
    simp only [TV.rows, TV.blks, List.mem_flatMap] at *
    obtain ⟨a, h1, h2⟩ := h
    exact ⟨a, h1, A.rows_blks h2⟩
theorem fixA_blks {T : TypeId} {a : AV} {j : Nat} (h : j ∈ (fixA P T a).blks) : j ∈ a.blks := by
  unfold fixA at h
  split at h
  · split at h
    · simp [AV.blks, TV.blks, A.blks] at h
    · exact h
  · exact h

/-- Two contexts in which an operation's step is the same. -/
structure Alike (c1 c2 : Ctx) (o : Oper) : Prop where
  P : c1.P = c2.P
  nb : c1.nb = c2.nb
  nv : c1.nv = c2.nv
  bo : c1.bo = c2.bo
  x : ∀ q ∈ o.op.operands, c1.x q = c2.x q
  B : ∀ q ∈ o.op.operands, ∀ j ∈ (c1.x q).blks, c1.B j = c2.B j

theorem callA_congr {c1 c2 : Ctx} {f : FuncId} {args : Array Operand} {tys : Array TypeId} (hP : c1.P = c2.P) (hnv : c1.nv = c2.nv) (hx : ∀ q ∈ args, c1.x q = c2.x q) (hB : ∀ q ∈ args, ∀ j ∈ (c1.x q).blks, c1.B j = c2.B j) : callA c1 f args tys = callA c2 f args tys := by
  have h1 : ((args.toList.zip tys.toList).map fun p => fixA c1.P p.2 (c1.x p.1)) = (args.toList.zip tys.toList).map fun p => fixA c2.P p.2 (c2.x p.1) := by
    apply List.map_congr_left
    intro p hp
    rw [hP, hx p.1 (by
      have := (List.of_mem_zip (a := p.1) (b := p.2) hp).1
      simpa using this)]
  unfold callA
  rw [← hP, ← hnv]
  cases hf : c1.P.funcs[f]? with
  | none => rfl
  | some fn =>
    simp only []
    by_cases hb : fn.body.isNone = true
    · rw [if_pos hb, if_pos hb]
    · rw [if_neg hb, if_neg hb]
      by_cases hs : args.size ≠ tys.size
      · rw [if_pos hs, if_pos hs]
      · rw [if_neg hs, if_neg hs]
        rw [hP] at h1 ⊢
        rw [h1]
        cases hts : ((args.toList.zip tys.toList).map fun p => fixA c2.P p.2 (c2.x p.1)).mapM (fun | .v t => some t | _ => none : AV → Option TV) with
        | none => rfl
        | some ts =>
          cases hus : fn.resultTypes.toList.mapM (tsOf c2.P) with
          | none => rfl
          | some us =>
            simp only []
            have hblk : ∀ t ∈ ts, ∀ j ∈ t.blks, c1.B j = c2.B j := by
              intro t ht j hj
              have key : ∀ (l : List AV) (ts : List TV), l.mapM (fun | .v t => some t | _ => none : AV → Option TV) = some ts → ∀ t ∈ ts, AV.v t ∈ l := by
                intro l
                induction l with
                | nil => intro ts h t ht; simp at h; subst h; cases ht
                | cons X l ih =>
                  intro ts h t ht
                  rw [List.mapM_cons] at h
                  cases X with
                  | v t0 =>
                    simp only [Option.bind_eq_bind, Option.bind_some, Option.bind_eq_some_iff] at h
                    obtain ⟨ts', q1, q2⟩ := h
                    simp at q2
                    subst q2
                    rcases List.mem_cons.1 ht with rfl | ht
                    · exact List.mem_cons_self ..
                    · exact List.mem_cons_of_mem _ (ih _ q1 _ ht)
                  | tup _ => simp at h
              have hm := key _ _ hts t ht
              obtain ⟨p, hp, he⟩ := List.mem_map.1 hm
              have hpa : p.1 ∈ args := by
                have := (List.of_mem_zip (a := p.1) (b := p.2) hp).1
                simpa using this
              refine hB p.1 hpa j ?_
              rw [hx p.1 hpa]
              refine fixA_blks (P := c2.P) (T := p.2) ?_
              rw [he]
              exact hj
            rw [mapM_congr (l := ts) fun t ht => TV.toD_congr (hblk t ht)]
            cases hps : ts.mapM (TV.toD c2.B) with
            | none => rfl
            | some ps =>
              simp only []
              congr 2
              apply List.map_congr_left
              intro j hj
              obtain ⟨t, ht, hjt⟩ := List.mem_flatMap.1 hj
              rw [hblk t ht j (TV.rows_blks hjt)]

theorem act_congr {c1 c2 : Ctx} {o : Oper} (h : Alike c1 c2 o) : act c1 o = act c2 o := by
  obtain ⟨hP, hnb, hnv, hbo, hx, hB⟩ := h
  unfold act
  rw [← hP]
  simp only []
  split
  · rename_i x hop; rw [hx x (by simp [hop, Op.operands])]
  · rename_i x hop; rw [hx x (by simp [hop, Op.operands])]
  · rename_i q a b hop; rw [hx q (by simp [hop, Op.operands]), hx a (by simp [hop, Op.operands]), hx b (by simp [hop, Op.operands]), hbo]
  · rw [hnb]
  · rename_i T x hop; rw [hx x (by simp [hop, Op.operands]), hnb]
  · rename_i T x hop
    have hB' := hB x (by simp [hop, Op.operands])
    rw [hx x (by simp [hop, Op.operands])] at hB' ⊢
    cases hX : c2.x x with
    | v t =>
      cases t with
      | c a => rw [hX] at hB'; simp only [loadA_congr (P := c1.P) (T := T) (a := a) hB']
      | g l => rfl
    | tup l => rfl
  · rename_i T p x hop
    have hB' := hB p (by simp [hop, Op.operands])
    rw [hx x (by simp [hop, Op.operands])]
    rw [hx p (by simp [hop, Op.operands])] at hB' ⊢
    cases hX : c2.x p with
    | v t =>
      cases t with
      | c a =>
        rw [hX] at hB'
        cases hY : fixA c1.P T (c2.x x) with
        | v t => simp only [storeA_congr (P := c1.P) (T := T) (a := a) (x := t) hB']
        | tup l => rfl
      | g l => rfl
    | tup l => rfl
  · rename_i x hop; rw [hx x (by simp [hop, Op.operands])]
  · rename_i op xT x y yT hop; rw [hx x (by simp [hop, Op.operands]), hx y (by simp [hop, Op.operands])]
  · rename_i op xT x hop; rw [hx x (by simp [hop, Op.operands])]
  · rename_i s d x hop; rw [hx x (by simp [hop, Op.operands])]
  · rename_i S x f hop; rw [hx x (by simp [hop, Op.operands])]
  · rename_i S x f hop; rw [hx x (by simp [hop, Op.operands])]
  · rename_i T x i hop; rw [hx x (by simp [hop, Op.operands]), hx i (by simp [hop, Op.operands])]
  · rename_i t i hop; rw [hx t (by simp [hop, Op.operands])]
  · rename_i f args tys hop
    refine callA_congr hP hnv (fun q hq => hx q ?_) (fun q hq => hB q ?_) <;> simp [hop, Op.operands, Call.operands, hq]
  · rename_i args tys hop
    cases hT : tys[0]? with
    | none => rfl
    | some T =>
      cases hX : args[0]? with
      | none => rfl
      | some x =>
        simp only []
        rw [hx x (by simp [hop, Op.operands, Call.operands]; exact Array.mem_of_getElem? hX)]
        unfold lenA
        rw [hP]
  · rename_i args tys hop
    cases hT : tys[0]? with
    | none => rfl
    | some T =>
      cases hX : args[0]? with
      | none => rfl
      | some x =>
        cases hY : args[1]? with
        | none => rfl
        | some y =>
          have hxm : x ∈ o.op.operands := by simp [hop, Op.operands, Call.operands]; exact Array.mem_of_getElem? hX
          have hym : y ∈ o.op.operands := by simp [hop, Op.operands, Call.operands]; exact Array.mem_of_getElem? hY
          have hB' := hB x hxm
          simp only []
          rw [hx x hxm] at hB' ⊢
          rw [hx y hym]
          unfold copyA
          rw [hP]
          cases c2.P.underlying T with
          | none => rfl
          | some dsc =>
            cases dsc with
            | slice e =>
              simp only []
              cases hXX : c2.x x with
              | v t =>
                cases t with
                | c a =>
                  cases a with
                  | row j es n =>
                    rw [hXX] at hB'
                    simp only []
                    rw [hB' j (by simp [AV.blks, TV.blks, A.blks])]
                  | _ => rfl
                | g l => rfl
              | tup l => rfl
            | _ => rfl
  · rename_i args tys hop
    split
    · rename_i x y hxy
      have hm : ∀ q ∈ [x, y], q ∈ o.op.operands := fun q hq => by
        rw [← hxy] at hq
        simp [hop, Op.operands, Call.operands]; simpa using hq
      rw [hx x (hm x (by simp)), hx y (hm y (by simp))]
    · rfl
  · rename_i args tys hop
    split
    · rename_i x y hxy
      have hm : ∀ q ∈ [x, y], q ∈ o.op.operands := fun q hq => by
        rw [← hxy] at hq
        simp [hop, Op.operands, Call.operands]; simpa using hq
      rw [hx x (hm x (by simp)), hx y (hm y (by simp))]
    · rfl
  · rename_i T l cp hop
    rw [hx l (by simp [hop, Op.operands]), hx cp (by simp [hop, Op.operands])]
    unfold makeA
    rw [hP, hnb]
  · rename_i T x lo hi mx hop
    have hopt : ∀ (q : Option Operand), (∀ p, q = some p → p ∈ o.op.operands) → optE c1.x q = optE c2.x q := by
      intro q hq
      cases q with
      | none => rfl
      | some p => simp only [optE]; rw [hx p (hq p rfl)]
    have hxm : x ∈ o.op.operands := by simp [hop, Op.operands]
    have hB' := hB x hxm
    rw [hx x hxm] at hB' ⊢
    unfold sliceA
    rw [hP, hopt lo (fun p hp => by subst hp; simp [hop, Op.operands]), hopt hi (fun p hp => by subst hp; simp [hop, Op.operands]), hopt mx (fun p hp => by subst hp; simp [hop, Op.operands])]
    cases hXX : c2.x x with
    | v t =>
      cases t with
      | c a =>
        cases a with
        | row j es n =>
          rw [hXX] at hB'
          simp only []
          rw [hB' j (by simp [AV.blks, TV.blks, A.blks])]
        | d s e => cases s <;> rfl
        | _ => rfl
      | g l => rfl
    | tup l => rfl
  · rename_i T x i hop
    rw [hx x (by simp [hop, Op.operands]), hx i (by simp [hop, Op.operands])]
    unfold indexA
    rw [hP]
  · rename_i T parts hop
    have hfill : ∀ (ps : List (Nat × Operand)), (∀ p ∈ ps, p.2 ∈ o.op.operands) → ∀ l, fillA c1 T l ps = fillA c2 T l ps := by
      intro ps
      induction ps with
      | nil => intro _ l; rfl
      | cons p ps ih =>
        obtain ⟨i, q⟩ := p
        intro hq l
        simp only [fillA]
        rw [hP, hx q (hq (i, q) (by simp))]
        have ih' := ih fun p hp => hq p (by simp [hp])
        simp only [ih']
    unfold buildA
    rw [hP]
    have := hfill parts.toList (fun p hp => by simp only [hop, Op.operands]; simp; exact ⟨p.1, by simpa using hp⟩)
    simp only [this]
  · rfl
end
end Go.Proofs.Ytokjokbbegcceaa.Sx
