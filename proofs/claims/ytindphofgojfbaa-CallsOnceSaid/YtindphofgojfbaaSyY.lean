/-
  A part of a symbolic walk that is proved sound: what the functions of a program do with data. No conditions.
-/
import Derived.Test.YtindphofgojfbaaSyS
import Derived.Orders
set_option linter.unusedSimpArgs false
set_option linter.unusedVariables false
namespace Go.Proofs.Ytindphofgojfbaa.Sy
open Go.RowKit
def memN (n : Nat) : List Nat → Bool
  | [] => false
  | m :: l => Nat.beq m n || memN n l
theorem memN_iff : ∀ {n : Nat} {l : List Nat}, memN n l = true ↔ n ∈ l
  | n, [] => by simp [memN]
  | n, m :: l => by
    simp only [memN, Bool.or_eq_true, List.mem_cons, memN_iff (n := n) (l := l)]
    constructor
    · rintro (h | h)
      · exact .inl (Nat.eq_of_beq_eq_true h).symm
      · exact .inr h
    · rintro (h | h)
      · subst h; exact .inl (Nat.beq_refl n)
      · exact .inr h
def A.blks : A → List Nat | .ptr j _ => [j] | .row j _ _ => [j] | .rptr j _ _ _ => [j] | .fn _ caps => caps.map (·.1) | _ => []
def TV.blks : TV → List Nat | .c a => a.blks | .g l => l.flatMap A.blks
def AV.blks : AV → List Nat | .v t => t.blks | .tup l => l.flatMap TV.blks
def Blk.blks : Blk → List Nat | .cells l => l.flatMap A.blks | _ => []
def reachL (B : Nat → Blk) (l : List Nat) : List Nat := l ++ l.flatMap fun j => (B j).blks
def AV.reach (B : Nat → Blk) (a : AV) : List Nat := reachL B a.blks

section
variable {P : Program} {G : Globs} {B1 B2 : Nat → Blk}
theorem loadA_congr {T : TypeId} {a : A} (h : ∀ j ∈ a.blks, B1 j = B2 j) : loadA P B1 T a = loadA P B2 T a := by
  cases a with
  | ptr j o => simp only [loadA, h j (by simp [A.blks])]
  | rptr j s i o => simp only [loadA, h j (by simp [A.blks])]
  | _ => rfl
theorem storeA_congr {T : TypeId} {a : A} {x : TV} (h : ∀ j ∈ a.blks, B1 j = B2 j) : storeA P B1 T a x = storeA P B2 T a x := by
  cases a with
  | ptr j o => simp only [storeA, h j (by simp [A.blks])]
  | rptr j s i o => simp only [storeA, h j (by simp [A.blks])]
  | _ => rfl
theorem A.toD_congr {a : A} (h : ∀ j ∈ a.blks, B1 j = B2 j) : a.toD B1 = a.toD B2 := by
  cases a with
  | row j es n => simp only [A.toD, h j (by simp [A.blks])]
  | _ => rfl
theorem mapM_congr {α β : Type} {f g : α → Option β} : ∀ {l : List α}, (∀ x ∈ l, f x = g x) → l.mapM f = l.mapM g
  | [], _ => rfl
  | x :: l, h => by
    rw [List.mapM_cons, List.mapM_cons, h x (by simp), mapM_congr fun y hy => h y (by simp [hy])]
theorem A.rows_blks {a : A} {j : Nat} (h : j ∈ a.rows) : j ∈ a.blks := by cases a <;> simp_all [A.rows, A.blks]
theorem prepA_congr {k : CK} {a : A} (h : ∀ j ∈ a.blks, B1 j = B2 j) : prepA B1 k a = prepA B2 k a := by
  cases k with
  | s s => simp only [prepA, A.toD_congr h]
  | r es =>
    cases a with
    | row j es' n => simp only [prepA, h j (by simp [A.blks])]
    | _ => rfl
theorem prepAs_congr : ∀ {ks : List CK} {as : List A}, (∀ j ∈ as.flatMap A.blks, B1 j = B2 j) → prepAs B1 ks as = prepAs B2 ks as
  | [], [], _ => rfl
  | k :: ks, a :: as, h => by
    simp only [List.flatMap_cons, List.mem_append] at h
    simp only [prepAs, prepA_congr (k := k) (a := a) fun j hj => h j (.inl hj), prepAs_congr (ks := ks) (as := as) fun j hj => h j (.inr hj)]
  | [], _ :: _, _ => rfl
  | _ :: _, [], _ => rfl
theorem prepT_congr {t : TS} {a : TV} (h : ∀ j ∈ reachL B1 a.blks, B1 j = B2 j) : prepT B1 t a = prepT B2 t a := by
  have h0 : ∀ j ∈ a.blks, B1 j = B2 j := fun j hj => h j (by simp [reachL, hj])
  cases t with
  | c s => cases a with
    | c a => simp only [prepT]; exact prepA_congr h0
    | g l => rfl
  | r es => cases a with
    | c a => simp only [prepT]; exact prepA_congr h0
    | g l => rfl
  | g l => cases a with
    | c a => rfl
    | g as => simp only [prepT, prepAs_congr (ks := l.map .s) (as := as) h0]
  | h l => cases a with
    | c a => rfl
    | g as => simp only [prepT, prepAs_congr (ks := l) (as := as) h0]
  | i _ _ => cases a <;> rfl
  | p l => cases a with
    | g as => rfl
    | c a =>
      cases a with
      | ptr j o =>
        cases o with
        | succ o => rfl
        | zero =>
          have hj := h0 j (by simp [TV.blks, A.blks])
          simp only [prepT]
          cases hB : B1 j with
          | cells as =>
            rw [hB] at hj
            rw [← hj]
            simp only [prepAs_congr (ks := l) (as := as) fun i hi => h i (by simp only [reachL, TV.blks, A.blks, List.mem_append, List.flatMap_cons, List.flatMap_nil, List.append_nil, hB, Blk.blks]; exact .inr hi)]
          | _ => rw [hB] at hj; rw [← hj]
      | _ => rfl
theorem prepTs_congr : ∀ {ts : List TS} {as : List TV}, (∀ a ∈ as, ∀ j ∈ reachL B1 a.blks, B1 j = B2 j) → prepTs B1 ts as = prepTs B2 ts as
  | [], [], _ => rfl
  | t :: ts, a :: as, h => by
    simp only [prepTs, prepT_congr (t := t) (a := a) (h a (by simp)), prepTs_congr (ts := ts) (as := as) fun b hb => h b (by simp [hb])]
  | [], _ :: _, _ => rfl
  | _ :: _, [], _ => rfl
theorem prepA_frz {k : CK} {a : A} {e : E} {f : List Nat} {o : List (Option Nat)} (h : prepA B1 k a = some (e, f, o)) : ∀ j ∈ f, j ∈ a.blks := by
  unfold prepA at h
  split at h
  · split at h
    · split at h
      · simp only [Option.some.injEq, Prod.mk.injEq] at h
        obtain ⟨_, rfl, _⟩ := h
        exact fun j hj => A.rows_blks hj
      · cases h
    · cases h
  · split at h
    · split at h
      · simp only [Option.some.injEq, Prod.mk.injEq] at h
        obtain ⟨_, rfl, _⟩ := h
        intro j hj; cases hj
      · cases h
    · cases h
  · simp only [Option.some.injEq, Prod.mk.injEq] at h
    obtain ⟨_, rfl, _⟩ := h
    intro j hj; cases hj
  · cases h
theorem prepAs_frz : ∀ {ks : List CK} {as : List A} {r : List E × List Nat × List (Option Nat)}, prepAs B1 ks as = some r → ∀ j ∈ r.2.1, j ∈ as.flatMap A.blks
  | [], [], r, h => by simp only [prepAs, Option.some.injEq] at h; subst h; intro j hj; cases hj
  | k :: ks, a :: as, r, h => by
    simp only [prepAs] at h
    split at h
    · rename_i hp hps
      simp only [Option.some.injEq] at h
      subst h
      intro j hj
      simp only [List.flatMap_cons, List.mem_append] at hj ⊢
      exact hj.imp (prepA_frz hp j) (prepAs_frz hps j)
    · cases h
  | [], _ :: _, r, h => by simp [prepAs] at h
  | _ :: _, [], r, h => by simp [prepAs] at h
theorem prepT_frz {t : TS} {a : TV} {e : E} {f : List Nat} {o : List (Option Nat)} (h : prepT B1 t a = some (e, f, o)) : ∀ j ∈ f, j ∈ reachL B1 a.blks := by
  have up : ∀ j, j ∈ a.blks → j ∈ reachL B1 a.blks := fun j hj => by simp [reachL, hj]
  unfold prepT at h
  split at h
  · exact fun j hj => up j (prepA_frz h j hj)
  · exact fun j hj => up j (prepA_frz h j hj)
  · split at h
    · rename_i hp
      simp only [Option.some.injEq, Prod.mk.injEq] at h
      obtain ⟨_, rfl, _⟩ := h
      exact fun j hj => up j (prepAs_frz hp j hj)
    · cases h
  · split at h
    · rename_i hp
      simp only [Option.some.injEq, Prod.mk.injEq] at h
      obtain ⟨_, rfl, _⟩ := h
      exact fun j hj => up j (prepAs_frz hp j hj)
    · cases h
  · split at h
    · rename_i as hB
      split at h
      · rename_i hp
        simp only [Option.some.injEq, Prod.mk.injEq] at h
        obtain ⟨_, rfl, _⟩ := h
        intro j hj
        simp only [reachL, TV.blks, A.blks, List.mem_append, List.flatMap_cons, List.flatMap_nil, List.append_nil, hB, Blk.blks]
        exact .inr (prepAs_frz hp j hj)
      · cases h
    · cases h
  · cases h
theorem prepTs_frz : ∀ {ks : List TS} {as : List TV} {r : List E × List Nat × List (Option Nat)}, prepTs B1 ks as = some r → ∀ j ∈ r.2.1, ∃ a ∈ as, j ∈ reachL B1 a.blks
  | [], [], r, h => by simp only [prepTs, Option.some.injEq] at h; subst h; intro j hj; cases hj
  | k :: ks, a :: as, r, h => by
    simp only [prepTs] at h
    split at h
    · rename_i hp hps
      simp only [Option.some.injEq] at h
      subst h
      intro j hj
      simp only [List.mem_append] at hj
      rcases hj with hj | hj
      · exact ⟨a, by simp, prepT_frz hp j hj⟩
      · obtain ⟨b, hb, h2⟩ := prepTs_frz hps j hj
        exact ⟨b, by simp [hb], h2⟩
    · cases h
  | [], _ :: _, r, h => by simp [prepTs] at h
  | _ :: _, [], r, h => by simp [prepTs] at h
theorem fixA_blks {T : TypeId} {a : AV} {j : Nat} (h : j ∈ (fixA P T a).blks) : j ∈ a.blks := by
  unfold fixA at h
  split at h
  · split at h
    · simp [AV.blks, TV.blks, A.blks] at h
    · exact h
  · exact h

theorem srcOf_congr {es : List Sh} {a : AV} (h : ∀ j ∈ a.blks, B1 j = B2 j) : srcOf B1 es a = srcOf B2 es a := by
  cases a with
  | tup _ => rfl
  | v t =>
    cases t with
    | g _ => rfl
    | c a =>
      cases a with
      | row j es' n => simp only [srcOf, h j (by simp [AV.blks, TV.blks, A.blks])]
      | d s e => cases s <;> rfl
      | _ => rfl
theorem baseOf_congr {es : List Sh} {a : AV} (h : ∀ j ∈ a.blks, B1 j = B2 j) : baseOf B1 es a = baseOf B2 es a := by
  cases a with
  | tup _ => rfl
  | v t =>
    cases t with
    | g _ => rfl
    | c a =>
      cases a with
      | row j es' n => simp only [baseOf, h j (by simp [AV.blks, TV.blks, A.blks])]
      | _ => rfl
theorem fixA_reach {T : TypeId} {a : AV} {j : Nat} (h : j ∈ (fixA P T a).reach B1) : j ∈ a.reach B1 := by
  unfold fixA at h
  split at h
  · split at h
    · simp [AV.reach, reachL, AV.blks, TV.blks, A.blks] at h
    · exact h
  · exact h

structure Alike (c1 c2 : Ctx) (o : Oper) : Prop where
  P : c1.P = c2.P
  nb : c1.nb = c2.nb
  nv : c1.nv = c2.nv
  bo : c1.bo = c2.bo
  sg : c1.sg = c2.sg
  room : c1.room = c2.room
  x : ∀ q ∈ o.op.operands, c1.x q = c2.x q
  B : ∀ q ∈ o.op.operands, ∀ j ∈ (c1.x q).reach c1.B, c1.B j = c2.B j

theorem callA_congr {c1 c2 : Ctx} {f : FuncId} {args : Array Operand} {tys : Array TypeId} {extra : List A} (hP : c1.P = c2.P) (hnb : c1.nb = c2.nb) (hnv : c1.nv = c2.nv) (hsg : c1.sg = c2.sg) (hroom : c1.room = c2.room) (hx : ∀ q ∈ args, c1.x q = c2.x q) (hB : ∀ q ∈ args, ∀ j ∈ (c1.x q).reach c1.B, c1.B j = c2.B j) (hE : ∀ a ∈ extra, ∀ j ∈ reachL c1.B a.blks, c1.B j = c2.B j) : callA c1 f args tys extra = callA c2 f args tys extra := by
  have h1 : ((args.toList.zip tys.toList).map fun p => fixA c1.P p.2 (c1.x p.1)) = (args.toList.zip tys.toList).map fun p => fixA c2.P p.2 (c2.x p.1) := by
    apply List.map_congr_left
    intro p hp
    rw [hP, hx p.1 (by
      have := (List.of_mem_zip (a := p.1) (b := p.2) hp).1
      simpa using this)]
  unfold callA
  rw [← hP, ← hnv, ← hnb, ← hsg, ← hroom]
  cases hf : c1.P.funcs[f]? with
  | none => rfl
  | some fn =>
    simp only []
    by_cases hb : fn.body.isNone = true
    · rw [if_pos hb, if_pos hb]
    rw [if_neg hb, if_neg hb]
    by_cases hs : args.size ≠ tys.size
    · rw [if_pos hs, if_pos hs]
    rw [if_neg hs, if_neg hs]
    rw [hP] at h1 ⊢
    rw [h1]
    cases hts : ((args.toList.zip tys.toList).map fun p => fixA c2.P p.2 (c2.x p.1)).mapM (fun | .v t => some t | _ => none : AV → Option TV) with
    | none => rfl
    | some as =>
      have hreach : ∀ t ∈ as ++ extra.map TV.c, ∀ j ∈ reachL c1.B t.blks, c1.B j = c2.B j := by
        intro t ht j hj
        rcases List.mem_append.1 ht with ht | ht
        · have key : ∀ (l : List AV) (ts : List TV), l.mapM (fun | .v t => some t | _ => none : AV → Option TV) = some ts → ∀ t ∈ ts, AV.v t ∈ l := by
            intro l
            induction l with
            | nil => intro ts h t ht; simp at h; subst h; cases ht
            | cons X l ih =>
              intro ts h t ht
              rw [List.mapM_cons] at h
              cases X with
              | v t0 =>
                simp only [Option.bind_eq_bind, Option.bind_some, Option.bind_eq_some_iff] at h
                obtain ⟨ts', q1, q2⟩ := h
                simp at q2
                subst q2
                rcases List.mem_cons.1 ht with rfl | ht
                · exact List.mem_cons_self ..
                · exact List.mem_cons_of_mem _ (ih _ q1 _ ht)
              | tup _ => simp at h
          have hm := key _ _ hts t ht
          obtain ⟨p, hp, he⟩ := List.mem_map.1 hm
          have hpa : p.1 ∈ args := by
            have := (List.of_mem_zip (a := p.1) (b := p.2) hp).1
            simpa using this
          refine hB p.1 hpa j ?_
          rw [hx p.1 hpa]
          refine fixA_reach (P := c2.P) (T := p.2) ?_
          rw [he]
          exact hj
        · obtain ⟨a, ha, rfl⟩ := List.mem_map.1 ht
          exact hE a ha j hj
      have hpc : ∀ ts, prepTs c1.B ts (as ++ extra.map TV.c) = prepTs c2.B ts (as ++ extra.map TV.c) := fun ts => prepTs_congr hreach
      split
      · rename_i as' ts us has hsig
        cases has
        rw [hpc]
        cases hps : prepTs c2.B ts (as ++ extra.map TV.c) with
        | none => rfl
        | some r =>
          obtain ⟨es, frz, own⟩ := r
          simp only []
          have hfz : (frz.map fun j => (j, frozenB (c1.B j))) = frz.map fun j => (j, frozenB (c2.B j)) := by
            apply List.map_congr_left
            intro j hj
            obtain ⟨a, ha, hja⟩ := prepTs_frz (by rw [hpc]; exact hps) j hj
            rw [hreach a ha j hja]
          rw [hfz]
      · rfl

theorem callI_congr {c1 c2 : Ctx} {f : FuncId} {args : Array Operand} {tys : Array TypeId} {extra : List A} (hP : c1.P = c2.P) (hnv : c1.nv = c2.nv) (hsg : c1.sg = c2.sg) (hx : ∀ q ∈ args, c1.x q = c2.x q) (hB : ∀ q ∈ args, ∀ j ∈ (c1.x q).reach c1.B, c1.B j = c2.B j) : callI c1 f args tys extra = callI c2 f args tys extra := by
  have h1 : ((args.toList.zip tys.toList).map fun p => fixA c1.P p.2 (c1.x p.1)) = (args.toList.zip tys.toList).map fun p => fixA c2.P p.2 (c2.x p.1) := by
    apply List.map_congr_left
    intro p hp
    rw [hP, hx p.1 (by
      have := (List.of_mem_zip (a := p.1) (b := p.2) hp).1
      simpa using this)]
  unfold callI
  rw [← hP, ← hnv, ← hsg]
  cases hf : c1.P.funcs[f]? with
  | none => rfl
  | some fn =>
    cases extra with
    | cons _ _ => rfl
    | nil =>
      simp only []
      by_cases hb : fn.body.isNone = true
      · rw [if_pos hb, if_pos hb]
      rw [if_neg hb, if_neg hb]
      by_cases hs : args.size ≠ tys.size
      · rw [if_pos hs, if_pos hs]
      rw [if_neg hs, if_neg hs]
      rw [hP] at h1 ⊢
      rw [h1]
      cases hts : ((args.toList.zip tys.toList).map fun p => fixA c2.P p.2 (c2.x p.1)).mapM (fun | .v t => some t | _ => none : AV → Option TV) with
      | none => rfl
      | some as =>
        have hreach : ∀ t ∈ as, ∀ j ∈ reachL c1.B t.blks, c1.B j = c2.B j := by
          intro t ht j hj
          have key : ∀ (l : List AV) (ts : List TV), l.mapM (fun | .v t => some t | _ => none : AV → Option TV) = some ts → ∀ t ∈ ts, AV.v t ∈ l := by
            intro l
            induction l with
            | nil => intro ts h t ht; simp at h; subst h; cases ht
            | cons X l ih =>
              intro ts h t ht
              rw [List.mapM_cons] at h
              cases X with
              | v t0 =>
                simp only [Option.bind_eq_bind, Option.bind_some, Option.bind_eq_some_iff] at h
                obtain ⟨ts', q1, q2⟩ := h
                simp at q2
                subst q2
                rcases List.mem_cons.1 ht with rfl | ht
                · exact List.mem_cons_self ..
                · exact List.mem_cons_of_mem _ (ih _ q1 _ ht)
              | tup _ => simp at h
          have hm := key _ _ hts t ht
          obtain ⟨p, hp, he⟩ := List.mem_map.1 hm
          have hpa : p.1 ∈ args := by
            have := (List.of_mem_zip (a := p.1) (b := p.2) hp).1
            simpa using this
          refine hB p.1 hpa j ?_
          rw [hx p.1 hpa]
          refine fixA_reach (P := c2.P) (T := p.2) ?_
          rw [he]
          exact hj
        split
        · rename_i j o as' n s ts has hsig
          cases has
          have hj : c1.B j = c2.B j := hreach (.c (.ptr j o)) (by simp) j (by simp [reachL, TV.blks, A.blks])
          rw [hj, prepTs_congr (B1 := c1.B) (B2 := c2.B) (ts := ts) (as := as') fun a ha => hreach a (List.mem_cons_of_mem _ ha)]
        · rfl
theorem callB_congr {c1 c2 : Ctx} {f : FuncId} {args : Array Operand} {tys : Array TypeId} {extra : List A} (hP : c1.P = c2.P) (hnb : c1.nb = c2.nb) (hnv : c1.nv = c2.nv) (hsg : c1.sg = c2.sg) (hroom : c1.room = c2.room) (hx : ∀ q ∈ args, c1.x q = c2.x q) (hB : ∀ q ∈ args, ∀ j ∈ (c1.x q).reach c1.B, c1.B j = c2.B j) (hE : ∀ a ∈ extra, ∀ j ∈ reachL c1.B a.blks, c1.B j = c2.B j) : callB c1 f args tys extra = callB c2 f args tys extra := by
  unfold callB
  rw [callA_congr hP hnb hnv hsg hroom hx hB hE, callI_congr hP hnv hsg hx hB]

theorem bytesA_congr {c1 c2 : Ctx} {s d : TypeId} {X : AV} (hP : c1.P = c2.P) (h : ∀ j ∈ X.blks, c1.B j = c2.B j) : bytesA c1 s d X = bytesA c2 s d X := by
  unfold bytesA
  rw [hP]
  split
  · rfl
  · rw [srcOf_congr h]
  · rename_i e e' j es n _ _
    rw [h j (by simp [AV.blks, TV.blks, A.blks])]
  · rfl
theorem act_congr {c1 c2 : Ctx} {o : Oper} (h : Alike c1 c2 o) : act c1 o = act c2 o := by
  obtain ⟨hP, hnb, hnv, hbo, hsg, hroom, hx, hB0⟩ := h
  have hB : ∀ q ∈ o.op.operands, ∀ j ∈ (c1.x q).blks, c1.B j = c2.B j := fun q hq j hj => hB0 q hq j (by simp [AV.reach, reachL, hj])
  unfold act
  rw [← hP]
  simp only []
  split
  · rename_i x hop; rw [hx x (by simp [hop, Op.operands])]
  · rename_i x hop; rw [hx x (by simp [hop, Op.operands])]
  · rename_i q a b hop; rw [hx q (by simp [hop, Op.operands]), hx a (by simp [hop, Op.operands]), hx b (by simp [hop, Op.operands]), hbo]
  · rw [hnb]
  · rename_i T x hop; rw [hx x (by simp [hop, Op.operands]), hnb]
  · rename_i T x hop
    have hB' := hB x (by simp [hop, Op.operands])
    rw [hx x (by simp [hop, Op.operands])] at hB' ⊢
    cases hX : c2.x x with
    | v t =>
      cases t with
      | c a => rw [hX] at hB'; simp only [loadA_congr (P := c1.P) (T := T) (a := a) hB']
      | g l => rfl
    | tup l => rfl
  · rename_i T p x hop
    have hB' := hB p (by simp [hop, Op.operands])
    rw [hx x (by simp [hop, Op.operands])]
    rw [hx p (by simp [hop, Op.operands])] at hB' ⊢
    cases hX : c2.x p with
    | v t =>
      cases t with
      | c a =>
        rw [hX] at hB'
        cases hY : fixA c1.P T (c2.x x) with
        | v t => simp only [storeA_congr (P := c1.P) (T := T) (a := a) (x := t) hB']
        | tup l => rfl
      | g l => rfl
    | tup l => rfl
  · rename_i x hop; rw [hx x (by simp [hop, Op.operands])]
  · rename_i op xT x y yT hop; rw [hx x (by simp [hop, Op.operands]), hx y (by simp [hop, Op.operands])]
  · rename_i op xT x hop; rw [hx x (by simp [hop, Op.operands])]
  · rename_i s d x hop
    have hB' := hB x (by simp [hop, Op.operands])
    rw [hx x (by simp [hop, Op.operands])] at hB' ⊢
    rw [bytesA_congr hP fun j hj => hB' j (fixA_blks hj)]
  · rename_i S x f hop; rw [hx x (by simp [hop, Op.operands])]
  · rename_i S x f hop; rw [hx x (by simp [hop, Op.operands])]
  · rename_i T x i hop
    rw [hx x (by simp [hop, Op.operands]), hx i (by simp [hop, Op.operands])]
    unfold indexAddrT
    rw [← hP, hbo]
  · rename_i t i hop; rw [hx t (by simp [hop, Op.operands])]
  · rename_i q args tys hop
    have hqm : q ∈ o.op.operands := by simp [hop, Op.operands, Call.operands]
    rw [hx q hqm]
    cases hcal : calleeOf (c2.x q) with
    | none => rfl
    | some p =>
      obtain ⟨f, extra⟩ := p
      simp only []
      refine callB_congr hP hnb hnv hsg hroom (fun q hq => hx q ?_) (fun q hq => hB0 q ?_) fun a ha j hj => hB0 q hqm j ?_
      · simp [hop, Op.operands, Call.operands, hq]
      · simp [hop, Op.operands, Call.operands, hq]
      · rw [hx q hqm]
        unfold calleeOf at hcal
        split at hcal
        · split at hcal
          · cases hcal; cases ha
          · cases hcal
        · rename_i f' caps hA
          cases hcal
          rw [hA]
          obtain ⟨p, hp, rfl⟩ := List.mem_map.1 ha
          have hpm : p.1 ∈ (AV.v (TV.c (A.fn f caps))).blks := by
            simp only [AV.blks, TV.blks, A.blks]
            exact List.mem_map.2 ⟨p, hp, rfl⟩
          simp only [reachL, A.blks, List.mem_append, List.mem_singleton, List.flatMap_cons, List.flatMap_nil, List.append_nil] at hj
          rcases hj with rfl | hj
          · simp only [AV.reach, reachL, List.mem_append]; exact .inl hpm
          · simp only [AV.reach, reachL, List.mem_append, List.mem_flatMap]; exact .inr ⟨p.1, hpm, hj⟩
        · cases hcal
  · rename_i args tys hop
    cases hT : tys[0]? with
    | none => rfl
    | some T =>
      cases hX : args[0]? with
      | none => rfl
      | some x =>
        simp only []
        rw [hx x (by simp [hop, Op.operands, Call.operands]; exact Array.mem_of_getElem? hX)]
        unfold lenA
        rw [hP]
  · rename_i args tys hop
    cases hT : tys[0]? with
    | none => rfl
    | some T =>
      cases hX : args[0]? with
      | none => rfl
      | some x =>
        cases hY : args[1]? with
        | none => rfl
        | some y =>
          have hxm : x ∈ o.op.operands := by simp [hop, Op.operands, Call.operands]; exact Array.mem_of_getElem? hX
          have hym : y ∈ o.op.operands := by simp [hop, Op.operands, Call.operands]; exact Array.mem_of_getElem? hY
          have hB' := hB x hxm
          have hBy := hB y hym
          simp only []
          rw [hx x hxm] at hB' ⊢
          rw [hx y hym] at hBy ⊢
          unfold copyA
          rw [hP]
          have hsr : ∀ es, srcOf c1.B es (c2.x y) = srcOf c2.B es (c2.x y) := fun es => srcOf_congr hBy
          simp only [hsr]
          cases c2.P.underlying T with
          | none => rfl
          | some dsc =>
            cases dsc with
            | slice e =>
              simp only []
              cases hXX : c2.x x with
              | v t =>
                cases t with
                | c a =>
                  cases a with
                  | row j es n =>
                    rw [hXX] at hB'
                    simp only []
                    rw [hB' j (by simp [AV.blks, TV.blks, A.blks])]
                  | _ => rfl
                | g l => rfl
              | tup l => rfl
            | _ => rfl
  · rename_i args tys hop
    split
    · rename_i x y hxy
      have hm : ∀ q ∈ [x, y], q ∈ o.op.operands := fun q hq => by
        rw [← hxy] at hq
        simp [hop, Op.operands, Call.operands]; simpa using hq
      rw [hx x (hm x (by simp)), hx y (hm y (by simp))]
    · rfl
  · rename_i args tys hop
    split
    · rename_i x y hxy
      have hm : ∀ q ∈ [x, y], q ∈ o.op.operands := fun q hq => by
        rw [← hxy] at hq
        simp [hop, Op.operands, Call.operands]; simpa using hq
      rw [hx x (hm x (by simp)), hx y (hm y (by simp))]
    · rfl
  · rename_i args tys hop
    cases hT : tys[0]? with
    | none => rfl
    | some T =>
      cases hxT : tys[1]? with
      | none => rfl
      | some xT =>
        cases hX : args[0]? with
        | none => rfl
        | some x =>
          cases hY : args[1]? with
          | none => rfl
          | some y =>
            have hxm : x ∈ o.op.operands := by simp [hop, Op.operands, Call.operands]; exact Array.mem_of_getElem? hX
            have hym : y ∈ o.op.operands := by simp [hop, Op.operands, Call.operands]; exact Array.mem_of_getElem? hY
            have hBx := hB x hxm
            have hBy := hB y hym
            simp only []
            rw [hx x hxm] at hBx ⊢
            rw [hx y hym] at hBy ⊢
            unfold appendA
            rw [hP, hnb]
            have hsr : ∀ es, srcOf c1.B es (fixA c2.P xT (c2.x y)) = srcOf c2.B es (fixA c2.P xT (c2.x y)) := fun es => srcOf_congr fun j hj => hBy j (fixA_blks hj)
            have hba : ∀ es, baseOf c1.B es (fixA c2.P T (c2.x x)) = baseOf c2.B es (fixA c2.P T (c2.x x)) := fun es => baseOf_congr fun j hj => hBx j (fixA_blks hj)
            simp only [hsr, hba]
  · rename_i args tys hop
    cases hT : tys[0]? with
    | none => rfl
    | some T =>
      cases hX : args[0]? with
      | none => rfl
      | some x =>
        simp only []
        rw [hx x (by simp [hop, Op.operands, Call.operands]; exact Array.mem_of_getElem? hX)]
  · rename_i T n parts hop
    have hfill : ∀ (e : TypeId) (es : List Sh) (ps : List (Nat × Operand)), (∀ p ∈ ps, p.2 ∈ o.op.operands) → ∀ l, fillE c1 e es l ps = fillE c2 e es l ps ∧ ∀ r, fillE c2 e es l ps = some r → ∀ j ∈ r.2, c1.B j = c2.B j := by
      intro e es ps
      induction ps with
      | nil => intro _ l; exact ⟨rfl, fun r hr => by simp only [fillE, Option.some.injEq] at hr; subst hr; intro j hj; cases hj⟩
      | cons p ps ih =>
        obtain ⟨i, q⟩ := p
        intro hq l
        have hqm := hq (i, q) (by simp)
        have ih' := ih fun p hp => hq p (by simp [hp])
        have hBq := hB q hqm
        simp only [fillE]
        rw [hP, hx q hqm]
        rw [hx q hqm] at hBq
        cases hf : fixA c2.P e (c2.x q) with
        | tup _ => exact ⟨rfl, fun r hr => by cases hr⟩
        | v t =>
          simp only []
          cases has : t.as with
          | none => exact ⟨rfl, fun r hr => by cases hr⟩
          | some as =>
            have hBa : ∀ j ∈ as.flatMap A.blks, c1.B j = c2.B j := by
              intro j hj
              refine hBq j (fixA_blks (P := c2.P) (T := e) ?_)
              rw [hf]
              unfold TV.as at has
              split at has
              · cases has
              · cases has; simpa [AV.blks, TV.blks] using hj
              · cases has; exact hj
            simp only []
            rw [prepAs_congr hBa]
            cases hpa : prepAs c2.B (es.map .s) as with
            | none => exact ⟨rfl, fun r hr => by cases hr⟩
            | some r0 =>
              obtain ⟨xs, f, own⟩ := r0
              have hfr := prepAs_frz hpa
              cases own with
              | cons _ _ => exact ⟨rfl, fun r hr => by cases hr⟩
              | nil =>
                simp only []
                split
                · obtain ⟨i1, i2⟩ := ih' (l.set i (elemE es xs))
                  rw [i1]
                  refine ⟨rfl, fun r hr => ?_⟩
                  split at hr
                  · rename_i l' f' hr'
                    cases hr
                    intro j hj
                    rcases List.mem_append.1 hj with hj | hj
                    · exact hBa j (hfr j hj)
                    · exact i2 _ hr' j hj
                  · cases hr
                · exact ⟨rfl, fun r hr => by cases hr⟩
    unfold buildSliceA
    rw [hP, hnb]
    cases c2.P.underlying T with
    | none => rfl
    | some dsc =>
      cases dsc with
      | slice e =>
        simp only []
        split
        · split
          · split
            · split
              · obtain ⟨f1, f2⟩ := hfill e _ parts.toList (fun p hp => by simp only [hop, Op.operands]; simp; exact ⟨p.1, by simpa using hp⟩) (List.replicate n (elemE ‹_› ‹_›))
                rw [f1]
                split
                · rename_i l' f' hff
                  have : (f'.map fun j => (j, frozenB (c1.B j))) = f'.map fun j => (j, frozenB (c2.B j)) := by
                    apply List.map_congr_left
                    intro j hj
                    rw [f2 _ hff j hj]
                  rw [this]
                · rfl
              · rfl
            · rfl
          · rfl
        · rfl
      | _ => rfl
  · rename_i f first caps hop
    split
    · have : caps.toList.mapM (fun q => ptrOf (c1.x q)) = caps.toList.mapM (fun q => ptrOf (c2.x q)) := mapM_congr fun q hq => by
        rw [hx q (by simp [hop, Op.operands]; right; simpa using hq)]
      rw [this]
    · rfl
  · rename_i T x hop
    have hBx := hB x (by simp [hop, Op.operands])
    rw [hx x (by simp [hop, Op.operands])] at hBx ⊢
    cases c1.P.underlying T with
    | none => rfl
    | some dsc =>
      cases dsc with
      | struct fs =>
        cases hX : c2.x x with
        | v t =>
          cases t with
          | g l =>
            rw [hX] at hBx
            simp only []
            rw [mapM_congr (l := l) fun a ha => A.toD_congr fun j hj => hBx j (by simp only [AV.blks, TV.blks, List.mem_flatMap]; exact ⟨a, ha, hj⟩)]
          | c a => rfl
        | tup _ => rfl
      | _ => rfl
  · rename_i T l cp hop
    rw [hx l (by simp [hop, Op.operands]), hx cp (by simp [hop, Op.operands])]
    unfold makeA
    rw [hP, hnb]
  · rename_i T x lo hi mx hop
    have hopt : ∀ (q : Option Operand), (∀ p, q = some p → p ∈ o.op.operands) → optE c1.x q = optE c2.x q := by
      intro q hq
      cases q with
      | none => rfl
      | some p => simp only [optE]; rw [hx p (hq p rfl)]
    have hxm : x ∈ o.op.operands := by simp [hop, Op.operands]
    have hB' := hB x hxm
    rw [hx x hxm] at hB' ⊢
    unfold sliceA
    rw [hP, hopt lo (fun p hp => by subst hp; simp [hop, Op.operands]), hopt hi (fun p hp => by subst hp; simp [hop, Op.operands]), hopt mx (fun p hp => by subst hp; simp [hop, Op.operands])]
    cases hXX : c2.x x with
    | v t =>
      cases t with
      | c a =>
        cases a with
        | row j es n =>
          rw [hXX] at hB'
          simp only []
          rw [hB' j (by simp [AV.blks, TV.blks, A.blks])]
        | d s e => cases s <;> rfl
        | _ => rfl
      | g l => rfl
    | tup l => rfl
  · rename_i T x i hop
    rw [hx x (by simp [hop, Op.operands]), hx i (by simp [hop, Op.operands])]
    unfold indexA
    rw [hP]
  · rename_i T parts hop
    have hfill : ∀ (ps : List (Nat × Operand)), (∀ p ∈ ps, p.2 ∈ o.op.operands) → ∀ l, fillA c1 T l ps = fillA c2 T l ps := by
      intro ps
      induction ps with
      | nil => intro _ l; rfl
      | cons p ps ih =>
        obtain ⟨i, q⟩ := p
        intro hq l
        simp only [fillA]
        rw [hP, hx q (hq (i, q) (by simp))]
        have ih' := ih fun p hp => hq p (by simp [hp])
        simp only [ih']
    unfold buildA
    rw [hP]
    have := hfill parts.toList (fun p hp => by simp only [hop, Op.operands]; simp; exact ⟨p.1, by simpa using hp⟩)
    simp only [this]
  · rfl
end

end Go.Proofs.Ytindphofgojfbaa.Sy
