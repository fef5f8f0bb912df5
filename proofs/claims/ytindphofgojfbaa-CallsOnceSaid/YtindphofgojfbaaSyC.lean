/-
  A part of a symbolic walk that is proved sound: what the functions of a program do with data. No conditions.
-/
import Derived.Test.YtindphofgojfbaaSyB
set_option linter.unusedSimpArgs false
set_option linter.unusedVariables false
namespace Go.Proofs.Ytindphofgojfbaa.Sy
open Go.RowKit
inductive CK where
  | s (s : Sh)
  | r (es : List Sh)
  deriving Inhabited
inductive TS where
  | c (s : Sh)
  | g (l : List Sh)
  | r (es : List Sh)
  | h (l : List CK)
  | p (l : List CK)
  | i (n : Nat) (s : Sh)
  deriving Inhabited
def RepT (M : Mem) : TS → Value → D → Prop
  | .c s, v, d => Rep M s v d
  | .g l, v, d => ∃ (vs : List Value) (ds : List D), v = .agg vs.toArray ∧ d = .rc ds ∧ vs.length = l.length ∧ RepCells M l (fun o => vs[o]?) 0 ds
  | _, _, _ => False

inductive A where
  | any
  | d (s : Sh) (e : E)
  | k (v : Value)
  | ptr (j o : Nat)
  | elem (es : List Sh) (x : E) (o : Nat)
  | row (j : Nat) (es : List Sh) (n : E)
  | nilS (es : List Sh)
  | rptr (j : Nat) (sz : Nat) (i : E) (o : Nat)
  | fn (f : FuncId) (caps : List (Nat × Nat))
  | ifc (T : TypeId) (es : List Sh) (x : E)
  | arr (es : List Sh) (l : E)
  | nilq (l : E)
  deriving Inhabited
inductive TV where
  | c (a : A)
  | g (l : List A)
  deriving Inhabited
inductive AV where
  | v (t : TV)
  | tup (l : List TV)
  deriving Inhabited
inductive Blk where
  | none
  | dead
  | cells (l : List A)
  | row (es : List Sh) (l : E) (frozen : Bool)
  deriving Inhabited

structure Env where
  al : Nat → Option (Nat × Nat)
  ρ : List D

structure Env.le (η η' : Env) : Prop where
  al : ∀ j p, η.al j = some p → η'.al j = some p
  ρ : η'.ρ = η.ρ
theorem Env.le.refl (η : Env) : η.le η := ⟨fun _ _ h => h, rfl⟩
theorem Env.le.trans {a b c : Env} (h : a.le b) (k : b.le c) : a.le c := ⟨fun j p x => k.al j p (h.al j p x), k.ρ.trans h.ρ⟩

def AbsA (η : Env) (M : Mem) : A → Value → Prop
  | .any, _ => True
  | .d s e, v => Rep M s v (e.den η.ρ)
  | .k c, v => v = c
  | .ptr j o, v => ∃ b c, η.al j = some (b, c) ∧ v = .pointer (some ⟨b, o, none⟩)
  | .elem es x o, v => ∃ b q, v = .pointer (some ⟨b, q + o, none⟩) ∧ RepCells M es (fun o => M b (q + o)) 0 ((x.den η.ρ).cells es)
  | .row j es n, v => ∃ b c, ∃ m : Nat, η.al j = some (b, c) ∧ n.den η.ρ = .int .i64 m ∧ m ≤ c ∧ c ≤ maxLen ∧ ((0 < c ∧ v = .slice (some ⟨b, 0, none⟩) m c) ∨ (c = 0 ∧ ∃ a, v = .slice a 0 0))
  | .nilS _, v => ∃ a, v = .slice a 0 0
  | .rptr j sz i o, v => ∃ b c, ∃ m : Nat, η.al j = some (b, c) ∧ (i.den η.ρ).toI = m ∧ v = .pointer (some ⟨b, m * sz + o, none⟩)
  | .fn f caps, v => ∃ vs : List Value, v = .func (.func f) #[] vs.toArray ∧ caps.length = vs.length ∧ ∀ (k : Nat) (p : Nat × Nat), caps[k]? = some p → ∃ b c, η.al p.1 = some (b, c) ∧ vs[k]? = some (.pointer (some ⟨b, p.2, none⟩))
  | .ifc T es x, v => ∃ u, v = .iface T u ∧ RepT M (.g es) u (x.den η.ρ)
  | .nilq l, v => ∃ b xs, v = .bool b ∧ l.den η.ρ = .lst xs ∧ (b = true → xs = [])
  | .arr es l, v => ∃ b q xs, v = .pointer (some ⟨b, q, none⟩) ∧ l.den η.ρ = .lst xs ∧ ∀ (i : Nat) (x : D), xs[i]? = some x → RepCells M es (fun o => M b (q + i * es.length + o)) 0 (x.cells es)

theorem nil_rep {M : Mem} {es : List Sh} {v : Value} (h : ∃ a, v = .slice a 0 0) : Rep M (.lst es) v (.lst []) := by
  obtain ⟨a, rfl⟩ := h
  rw [Rep_lst]
  refine ⟨[], rfl, by simp, ?_⟩
  cases a with
  | none => exact .inl ⟨rfl, rfl⟩
  | some a => obtain ⟨b, o, sp⟩ := a; exact .inr ⟨b, o, sp, 0, rfl, fun h => by omega, by simp, by simp, fun i x hx => by simp at hx⟩
def oneB : Value → Bool
  | .agg _ => false
  | .tuple _ => false
  | _ => true
def One (v : Value) : Prop := oneB v = true
theorem One.cells {v : Value} (h : One v) : v.cells = #[v] := by
  cases v <;> first | rfl | (simp [One, oneB] at h)
inductive AbsL (η : Env) (M : Mem) : List A → List Value → Prop
  | nil : AbsL η M [] []
  | cons {a as v vs} : AbsA η M a v → One v → AbsL η M as vs → AbsL η M (a :: as) (v :: vs)
def AbsT (η : Env) (M : Mem) : TV → Value → Prop
  | .c .any, _ => True
  | .c a, v => AbsA η M a v ∧ One v
  | .g l, v => ∃ vs, v = .agg vs.toArray ∧ AbsL η M l vs
inductive AbsTs (η : Env) (M : Mem) : List TV → List Value → Prop
  | nil : AbsTs η M [] []
  | cons {a as v vs} : AbsT η M a v → AbsTs η M as vs → AbsTs η M (a :: as) (v :: vs)
def AbsV (η : Env) (M : Mem) : AV → Value → Prop
  | .v t, v => AbsT η M t v
  | .tup l, v => ∃ vs, v = .tuple vs.toArray ∧ AbsTs η M l vs

theorem RepT.mono {M M' : Mem} (hM : M.le M') {t : TS} {v : Value} {d : D} (h : RepT M t v d) : RepT M' t v d := by
  cases t with
  | c s => exact Rep.mono hM _ _ _ h
  | g l => obtain ⟨vs, ds, h1, h2, h3, h4⟩ := h; exact ⟨vs, ds, h1, h2, h3, RepCells.mono hM _ _ _ _ _ (fun _ _ h => h) h4⟩
  | _ => exact h.elim
theorem AbsA.mono {η η' : Env} {M M' : Mem} (he : η.le η') (hM : M.le M') {a : A} {v : Value} (h : AbsA η M a v) : AbsA η' M' a v := by
  have hρ := he.ρ
  cases a with
  | any => trivial
  | d s e => simp only [AbsA] at *; rw [hρ]; exact Rep.mono hM _ _ _ h
  | k c => exact h
  | ptr j o => obtain ⟨b, c, h1, h2⟩ := h; exact ⟨b, c, he.al _ _ h1, h2⟩
  | elem es x o => obtain ⟨b, q, h1, h2⟩ := h; exact ⟨b, q, h1, by rw [hρ]; exact RepCells.mono hM _ _ _ _ _ (fun o v hv => hM _ _ _ hv) h2⟩
  | row j es n => obtain ⟨b, c, m, h1, h2, h3⟩ := h; exact ⟨b, c, m, he.al _ _ h1, by rw [hρ]; exact h2, h3⟩
  | nilS es => exact h
  | rptr j sz i o => obtain ⟨b, c, m, h1, h2, h3⟩ := h; exact ⟨b, c, m, he.al _ _ h1, by rw [hρ]; exact h2, h3⟩
  | fn f caps => obtain ⟨vs, h1, h2, h3⟩ := h; exact ⟨vs, h1, h2, fun k p hk => by obtain ⟨b, c, g1, g2⟩ := h3 k p hk; exact ⟨b, c, he.al _ _ g1, g2⟩⟩
  | ifc T es x => obtain ⟨u, h1, h2⟩ := h; exact ⟨u, h1, by rw [hρ]; exact RepT.mono hM h2⟩
  | arr es l => obtain ⟨b, q, xs, h1, h0, h2⟩ := h; exact ⟨b, q, xs, h1, by rw [hρ]; exact h0, fun i x hx => RepCells.mono hM _ _ _ _ _ (fun o v hv => hM _ _ _ hv) (h2 i x hx)⟩
  | nilq l => obtain ⟨b, xs, h1, h2, h3⟩ := h; exact ⟨b, xs, h1, by rw [hρ]; exact h2, h3⟩
theorem AbsL.mono {η η' : Env} {M M' : Mem} (he : η.le η') (hM : M.le M') {l : List A} {vs : List Value} (h : AbsL η M l vs) : AbsL η' M' l vs := by
  induction h with
  | nil => exact .nil
  | cons h1 h2 _ ih => exact .cons (h1.mono he hM) h2 ih
theorem AbsT.mono {η η' : Env} {M M' : Mem} (he : η.le η') (hM : M.le M') {t : TV} {v : Value} (h : AbsT η M t v) : AbsT η' M' t v := by
  cases t with
  | c a => cases a <;> first | exact trivial | exact ⟨AbsA.mono he hM h.1, h.2⟩
  | g l => obtain ⟨vs, h1, h2⟩ := h; exact ⟨vs, h1, h2.mono he hM⟩
theorem AbsTs.mono {η η' : Env} {M M' : Mem} (he : η.le η') (hM : M.le M') {l : List TV} {vs : List Value} (h : AbsTs η M l vs) : AbsTs η' M' l vs := by
  induction h with
  | nil => exact .nil
  | cons h1 _ ih => exact .cons (h1.mono he hM) ih
theorem AbsV.mono {η η' : Env} {M M' : Mem} (he : η.le η') (hM : M.le M') {t : AV} {v : Value} (h : AbsV η M t v) : AbsV η' M' t v := by
  cases t with
  | v t => exact AbsT.mono he hM h
  | tup l => obtain ⟨vs, h1, h2⟩ := h; exact ⟨vs, h1, h2.mono he hM⟩
theorem AbsL.length {η : Env} {M : Mem} {l : List A} {vs : List Value} (h : AbsL η M l vs) : vs.length = l.length := by
  induction h with
  | nil => rfl
  | cons _ _ _ ih => simp [ih]
theorem AbsL.get {η : Env} {M : Mem} {l : List A} {vs : List Value} (h : AbsL η M l vs) (i : Nat) (a : A) (ha : l[i]? = some a) : ∃ v, vs[i]? = some v ∧ AbsA η M a v ∧ One v := by
  induction h generalizing i with
  | nil => simp at ha
  | cons h1 h2 _ ih =>
    cases i with
    | zero => simp at ha; subst ha; exact ⟨_, rfl, h1, h2⟩
    | succ i => exact ih i (by simpa using ha)
theorem AbsL.drop {η : Env} {M : Mem} {l : List A} {vs : List Value} (h : AbsL η M l vs) (n : Nat) : AbsL η M (l.drop n) (vs.drop n) := by
  induction h generalizing n with
  | nil => simp; exact .nil
  | cons h1 h2 h3 ih =>
    cases n with
    | zero => exact .cons h1 h2 h3
    | succ n => simpa using ih n
theorem AbsL.take {η : Env} {M : Mem} {l : List A} {vs : List Value} (h : AbsL η M l vs) (n : Nat) : AbsL η M (l.take n) (vs.take n) := by
  induction h generalizing n with
  | nil => simp; exact .nil
  | cons h1 h2 h3 ih =>
    cases n with
    | zero => simp; exact .nil
    | succ n => simpa using .cons h1 h2 (ih n)
theorem AbsL.append {η : Env} {M : Mem} {l l' : List A} {vs vs' : List Value} (h : AbsL η M l vs) (h' : AbsL η M l' vs') : AbsL η M (l ++ l') (vs ++ vs') := by
  induction h with
  | nil => exact h'
  | cons h1 h2 h3 ih => exact .cons h1 h2 ih
theorem AbsL.set {η : Env} {M : Mem} {l : List A} {vs : List Value} (h : AbsL η M l vs) (i : Nat) {a : A} {v : Value} (ha : AbsA η M a v) (ho : One v) : AbsL η M (l.set i a) (vs.set i v) := by
  induction h generalizing i with
  | nil => simp; exact .nil
  | cons h1 h2 h3 ih =>
    cases i with
    | zero => exact .cons ha ho h3
    | succ i => exact .cons h1 h2 (ih i)

def BlkOK (η : Env) (M : Mem) (own : Nat → Prop) (w : World) (j : Nat) : Blk → Prop
  | .none => η.al j = none
  | .dead => True
  | .cells l => ∃ b c, ∃ (vs : List Value) (T : TypeId), η.al j = some (b, c) ∧ c = 1 ∧ own b ∧ w.heap[b]? = some (.cells vs.toArray T (0, 0)) ∧ AbsL η M l vs ∧ ∀ o, M b o = none
  | .row es l fr => ∃ b c, ∃ (xs : List D), η.al j = some (b, c) ∧ l.den η.ρ = .lst xs ∧ xs.length ≤ c ∧ c ≤ maxLen ∧ (0 < c → own b ∧ ∃ (vs : List Value) (T : TypeId), w.heap[b]? = some (.cells vs.toArray T (0, 0)) ∧ vs.length = c * es.length ∧
      (∀ v ∈ vs, One v) ∧ (∀ i x, xs[i]? = some x → RepCells M es (fun o => vs[i * es.length + o]?) 0 (x.cells es)) ∧
      (∀ o, M b o = if fr = true ∧ o < xs.length * es.length then vs[o]? else none))

structure BelowX (B : Nat) (S : Nat → Prop) (w w' : World) : Prop where
  os : w'.os = w.os
  tape : w'.tape = w.tape
  output : w'.output = w.output
  size : w.heap.size ≤ w'.heap.size
  block : ∀ k, k < B → ¬ S k → w'.heap[k]? = w.heap[k]?
theorem BelowX.refl (B : Nat) (S : Nat → Prop) (w : World) : BelowX B S w w := ⟨rfl, rfl, rfl, Nat.le_refl _, fun _ _ _ => rfl⟩
theorem BelowX.trans {B : Nat} {S : Nat → Prop} {a b c : World} (h : BelowX B S a b) (k : BelowX B S b c) : BelowX B S a c :=
  ⟨k.os.trans h.os, k.tape.trans h.tape, k.output.trans h.output, Nat.le_trans h.size k.size, fun i hi hs => (k.block i hi hs).trans (h.block i hi hs)⟩
theorem BelowX.of {B : Nat} {S : Nat → Prop} {w w' : World} (h : Below B w w') : BelowX B S w w' := ⟨h.os, h.tape, h.output, h.size, fun k hk _ => h.block k hk⟩
theorem BelowX.below {B : Nat} {S : Nat → Prop} {w w' : World} (h : BelowX B S w w') (hS : ∀ k, ¬ S k) : Below B w w' := ⟨h.os, h.tape, h.output, h.size, fun k hk => h.block k hk (hS k)⟩
abbrev Globs := List (Nat × List Sh × E)
def GlobOK (G : Globs) (M : Mem) : Prop := ∀ p ∈ G, ∀ (ρ : List D), ∃ xs, p.2.2.den ρ = .lst xs ∧ ∀ (i : Nat) (x : D), xs[i]? = some x → RepCells M p.2.1 (fun o => M p.1 (0 + i * p.2.1.length + o)) 0 (x.cells p.2.1)
theorem GlobOK.mono {G : Globs} {M M' : Mem} (hM : M.le M') (h : GlobOK G M) : GlobOK G M' := fun p hp ρ => by
  obtain ⟨xs, h1, h2⟩ := h p hp ρ
  exact ⟨xs, h1, fun i x hx => RepCells.mono hM _ _ _ _ _ (fun o v hv => hM _ _ _ hv) (h2 i x hx)⟩
structure Base where
  n0 : Nat
  W0 : World
  M0 : Mem
  S : Nat → Prop
  pal : List (Nat × (Nat × Nat))
  G : Globs
def Base.own (Z : Base) (b : Nat) : Prop := Z.n0 ≤ b ∨ Z.S b
structure WR (Z : Base) (η : Env) (M : Mem) (blks : List Blk) (w : World) : Prop where
  below : BelowX Z.n0 Z.S Z.W0 w
  size : Z.n0 ≤ w.heap.size
  base : Z.M0.le M
  new : ∀ b o v, M b o = some v → Z.M0 b o = some v ∨ Z.own b
  mem : ∀ b o v, M b o = some v → w.cell? ⟨b, o, none⟩ = some v
  one : ∀ b o v, M b o = some v → One v
  blk : ∀ j B, blks[j]? = some B → BlkOK η M Z.own w j B
  inj : ∀ i j B C p q, blks[i]? = some B → blks[j]? = some C → B ≠ .dead → C ≠ .dead → η.al i = some p → η.al j = some q → 0 < p.2 → 0 < q.2 → p.1 = q.1 → i = j
  out : ∀ j, blks.length ≤ j → η.al j = none
  pal : ∀ j p, (j, p) ∈ Z.pal → η.al j = some p
  glob : GlobOK Z.G Z.M0

structure HdL where
  kind : Bool
  id : Nat
  nv : Nat
  tmps : List AV
  blks : List Blk
  shs : List Sh
  rs : List Nat := []
  bs : List Nat := []
  fz : List Nat := []
structure St where
  tmps : List AV
  blks : List Blk
  nv : Nat
  asm : List (E × Bool)
  dep : Nat
  pj : List Nat
  sg : Nat → Option (List TS × List TS)
  gl : Globs
  /-- Where the ways are to meet: ahead of a region, and which slots live on (none named: all). -/
  jn : List (Nat × List Nat) := []
  /-- Heads that are printed ahead. -/
  hd : List HdL := []
  deriving Inhabited

structure Rel (Z : Base) (η : Env) (M : Mem) (σ : St) (tmps : Array Value) (w : World) : Prop where
  wr : WR Z η M σ.blks w
  sz : σ.tmps.length = tmps.size
  tmp : ∀ t A, σ.tmps[t]? = some A → AbsV η M A (tmps.getD t undef)
  asm : ∀ e b, (e, b) ∈ σ.asm → (e.den η.ρ).toB = b
  pj : Z.pal.map (·.1) = σ.pj
  gl : σ.gl = Z.G


end Go.Proofs.Ytindphofgojfbaa.Sy
