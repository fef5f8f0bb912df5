/-
  A part of a symbolic walk that is proved sound: what the functions of a program do with data. No conditions.
-/
import Derived.Test.YtindphofgojfbaaSyA
set_option linter.unusedSimpArgs false
set_option linter.unusedVariables false
namespace Go.Proofs.Ytindphofgojfbaa.Sy
open Go.RowKit
inductive E where
  | v (n : Nat)
  | ki (k : IntKind) (n : Int) | kb (b : Bool) | ks (s : ByteArray)
  | ar (op : BinOp) (k : IntKind) (a b : E)
  | shf (op : BinOp) (k : IntKind) (a b : E)
  | cmp (op : BinOp) (a b : E)
  | beq (a b : E) | not (a : E) | neg (k : IntKind) (a : E) | inv (k : IntKind) (a : E) | and (a b : E)
  | conv (k : IntKind) (a : E)
  | mn (k : IntKind) (a b : E) | mx (k : IntKind) (a b : E)
  | len (a : E)
  | nil | cons (x l : E) | rc (l : E)
  | get (l i : E) | cell (x : E) (j : Nat)
  | sub (l lo hi : E) | app (a b : E) | set (l i x : E) | setc (l i : E) (j : Nat) (x : E) | rep (n x : E)
  | cpy (a b : E)
  | seq (a b : E) | slt (a b : E) | sidx (s i : E) | ssub (s lo hi : E) | scat (a b : E) | s2b (s : E) | b2s (l : E)
  deriving Inhabited

def D.toI : D → Int | .int _ n => n | _ => 0
def D.toB : D → Bool | .bool b => b | _ => false
def D.toS : D → ByteArray | .str s => s | _ => ByteArray.empty
def D.toL : D → List D | .lst l => l | .rc l => l | _ => []
def D.mapL (f : List D → List D) : D → D | .lst l => .lst (f l) | d => d
def D.len : D → Int | .lst l => l.length | .str s => s.size | _ => 0

def arI (op : BinOp) (k : IntKind) (x y : Int) : Int :=
  match op with
  | .add => k.wrap (x + y)
  | .sub => k.wrap (x - y)
  | .mul => k.wrap (x * y)
  | .quo => k.wrap (x.tdiv y)
  | .rem => x.tmod y
  | .and => k.wrap (BitVec.ofInt k.bits x &&& BitVec.ofInt k.bits y).toNat
  | .or => k.wrap (BitVec.ofInt k.bits x ||| BitVec.ofInt k.bits y).toNat
  | .xor => k.wrap (BitVec.ofInt k.bits x ^^^ BitVec.ofInt k.bits y).toNat
  | .andNot => k.wrap (BitVec.ofInt k.bits x &&& ~~~ BitVec.ofInt k.bits y).toNat
  | _ => 0
def shI (op : BinOp) (k : IntKind) (x y : Int) : Int :=
  match op with
  | .shl => k.wrap (x * 2 ^ (min y.toNat k.bits))
  | .shr => x.fdiv (2 ^ (min y.toNat k.bits))
  | _ => 0
def cmpB (op : BinOp) (x y : Int) : Bool :=
  match op with
  | .eql => x == y
  | .neq => x != y
  | .lss => x < y
  | .leq => x ≤ y
  | .gtr => x > y
  | .geq => x ≥ y
  | _ => false
def D.setc (j : Nat) (x : D) : D → D
  | .rc ds => .rc (ds.set j x)
  | d => d
def bytesD (s : ByteArray) : List D := s.data.toList.map fun b => .int .u8 b.toNat
def strD (l : List D) : ByteArray := ⟨(l.map fun d => UInt8.ofNat d.toI.toNat).toArray⟩

def E.den (ρ : List D) : E → D
  | .v n => ρ.getD n default
  | .ki k n => .int k n
  | .kb b => .bool b
  | .ks s => .str s
  | .ar op k a b => .int k (arI op k (a.den ρ).toI (b.den ρ).toI)
  | .shf op k a b => .int k (shI op k (a.den ρ).toI (b.den ρ).toI)
  | .cmp op a b => .bool (cmpB op (a.den ρ).toI (b.den ρ).toI)
  | .beq a b => .bool ((a.den ρ).toB == (b.den ρ).toB)
  | .not a => .bool (!(a.den ρ).toB)
  | .and a b => .bool ((a.den ρ).toB && (b.den ρ).toB)
  | .neg k a => .int k (k.wrap (0 - (a.den ρ).toI))
  | .inv k a => .int k (arI .xor k (if k.signed then -1 else k.max) (a.den ρ).toI)
  | .conv k a => .int k (k.wrap (a.den ρ).toI)
  | .mn k a b => .int k (if (b.den ρ).toI < (a.den ρ).toI then (b.den ρ).toI else (a.den ρ).toI)
  | .mx k a b => .int k (if (b.den ρ).toI > (a.den ρ).toI then (b.den ρ).toI else (a.den ρ).toI)
  | .len a => .int .i64 (a.den ρ).len
  | .nil => .lst []
  | .cons x l => .lst (x.den ρ :: (l.den ρ).toL)
  | .rc l => .rc (l.den ρ).toL
  | .get l i => ((l.den ρ).toL).getD (i.den ρ).toI.toNat default
  | .cell x j => ((x.den ρ).toL).getD j default
  | .sub l lo hi => .lst ((((l.den ρ).toL).take (hi.den ρ).toI.toNat).drop (lo.den ρ).toI.toNat)
  | .app a b => .lst ((a.den ρ).toL ++ (b.den ρ).toL)
  | .set l i x => (l.den ρ).mapL fun l => l.set (i.den ρ).toI.toNat (x.den ρ)
  | .setc l i j x => (l.den ρ).mapL fun l => l.modify (i.den ρ).toI.toNat (D.setc j (x.den ρ))
  | .rep n x => .lst (List.replicate (n.den ρ).toI.toNat (x.den ρ))
  | .cpy a b => (a.den ρ).mapL fun l => (b.den ρ).toL.take l.length ++ l.drop (b.den ρ).toL.length
  | .seq a b => .bool ((a.den ρ).toS.toList == (b.den ρ).toS.toList)
  | .slt a b => .bool (Op.bytesLess (a.den ρ).toS.toList (b.den ρ).toS.toList)
  | .sidx s i => .int .u8 (((s.den ρ).toS.data.toList).getD (i.den ρ).toI.toNat 0).toNat
  | .ssub s lo hi => .str ((s.den ρ).toS.extract (lo.den ρ).toI.toNat (hi.den ρ).toI.toNat)
  | .scat a b => .str ((a.den ρ).toS ++ (b.den ρ).toS)
  | .s2b s => .lst (bytesD (s.den ρ).toS)
  | .b2s l => .str (strD (l.den ρ).toL)

def kbeq : IntKind → IntKind → Bool
  | .i8, .i8 => true
  | .i16, .i16 => true
  | .i32, .i32 => true
  | .i64, .i64 => true
  | .u8, .u8 => true
  | .u16, .u16 => true
  | .u32, .u32 => true
  | .u64, .u64 => true
  | _, _ => false
theorem kbeq_eq : ∀ a b, kbeq a b = true → a = b := by intro a b; cases a <;> cases b <;> simp [kbeq]
def onum : BinOp → Nat
  | .add => 0
  | .sub => 1
  | .mul => 2
  | .quo => 3
  | .rem => 4
  | .and => 5
  | .or => 6
  | .xor => 7
  | .shl => 8
  | .shr => 9
  | .andNot => 10
  | .eql => 11
  | .neq => 12
  | .lss => 13
  | .leq => 14
  | .gtr => 15
  | .geq => 16
def obeq (a b : BinOp) : Bool := Nat.beq (onum a) (onum b)
theorem obeq_eq (a b : BinOp) (h : obeq a b = true) : a = b := by
  unfold obeq at h
  cases a <;> cases b <;> first | rfl | (simp [onum] at h)
def ibeq : Int → Int → Bool
  | .ofNat a, .ofNat b => Nat.beq a b
  | .negSucc a, .negSucc b => Nat.beq a b
  | _, _ => false
theorem ibeq_eq : ∀ a b, ibeq a b = true → a = b
  | .ofNat a, .ofNat b, h => by simp [ibeq] at h; rw [h]
  | .negSucc a, .negSucc b, h => by simp [ibeq] at h; rw [h]
  | .ofNat _, .negSucc _, h => by simp [ibeq] at h
  | .negSucc _, .ofNat _, h => by simp [ibeq] at h
def bbeq : Bool → Bool → Bool
  | true, b => b
  | false, true => false
  | false, false => true
theorem bbeq_eq (a b : Bool) (h : bbeq a b = true) : a = b := by cases a <;> cases b <;> simp_all [bbeq]
def E.same : E → E → Bool
  | .v x0, e => match e with | .v y0 => Nat.beq x0 y0 | _ => false
  | .ki x0 x1, e => match e with | .ki y0 y1 => kbeq x0 y0 && ibeq x1 y1 | _ => false
  | .kb x0, e => match e with | .kb y0 => bbeq x0 y0 | _ => false
  | .ks x0, e => match e with | .ks y0 => decide (x0 = y0) | _ => false
  | .ar x0 x1 x2 x3, e => match e with | .ar y0 y1 y2 y3 => obeq x0 y0 && kbeq x1 y1 && E.same x2 y2 && E.same x3 y3 | _ => false
  | .shf x0 x1 x2 x3, e => match e with | .shf y0 y1 y2 y3 => obeq x0 y0 && kbeq x1 y1 && E.same x2 y2 && E.same x3 y3 | _ => false
  | .cmp x0 x1 x2, e => match e with | .cmp y0 y1 y2 => obeq x0 y0 && E.same x1 y1 && E.same x2 y2 | _ => false
  | .beq x0 x1, e => match e with | .beq y0 y1 => E.same x0 y0 && E.same x1 y1 | _ => false
  | .not x0, e => match e with | .not y0 => E.same x0 y0 | _ => false
  | .neg x0 x1, e => match e with | .neg y0 y1 => kbeq x0 y0 && E.same x1 y1 | _ => false
  | .inv x0 x1, e => match e with | .inv y0 y1 => kbeq x0 y0 && E.same x1 y1 | _ => false
  | .and x0 x1, e => match e with | .and y0 y1 => E.same x0 y0 && E.same x1 y1 | _ => false
  | .conv x0 x1, e => match e with | .conv y0 y1 => kbeq x0 y0 && E.same x1 y1 | _ => false
  | .mn x0 x1 x2, e => match e with | .mn y0 y1 y2 => kbeq x0 y0 && E.same x1 y1 && E.same x2 y2 | _ => false
  | .mx x0 x1 x2, e => match e with | .mx y0 y1 y2 => kbeq x0 y0 && E.same x1 y1 && E.same x2 y2 | _ => false
  | .len x0, e => match e with | .len y0 => E.same x0 y0 | _ => false
  | .nil , e => match e with | .nil  => true | _ => false
  | .cons x0 x1, e => match e with | .cons y0 y1 => E.same x0 y0 && E.same x1 y1 | _ => false
  | .rc x0, e => match e with | .rc y0 => E.same x0 y0 | _ => false
  | .get x0 x1, e => match e with | .get y0 y1 => E.same x0 y0 && E.same x1 y1 | _ => false
  | .cell x0 x1, e => match e with | .cell y0 y1 => E.same x0 y0 && Nat.beq x1 y1 | _ => false
  | .sub x0 x1 x2, e => match e with | .sub y0 y1 y2 => E.same x0 y0 && E.same x1 y1 && E.same x2 y2 | _ => false
  | .app x0 x1, e => match e with | .app y0 y1 => E.same x0 y0 && E.same x1 y1 | _ => false
  | .set x0 x1 x2, e => match e with | .set y0 y1 y2 => E.same x0 y0 && E.same x1 y1 && E.same x2 y2 | _ => false
  | .setc x0 x1 x2 x3, e => match e with | .setc y0 y1 y2 y3 => E.same x0 y0 && E.same x1 y1 && Nat.beq x2 y2 && E.same x3 y3 | _ => false
  | .rep x0 x1, e => match e with | .rep y0 y1 => E.same x0 y0 && E.same x1 y1 | _ => false
  | .cpy x0 x1, e => match e with | .cpy y0 y1 => E.same x0 y0 && E.same x1 y1 | _ => false
  | .seq x0 x1, e => match e with | .seq y0 y1 => E.same x0 y0 && E.same x1 y1 | _ => false
  | .slt x0 x1, e => match e with | .slt y0 y1 => E.same x0 y0 && E.same x1 y1 | _ => false
  | .sidx x0 x1, e => match e with | .sidx y0 y1 => E.same x0 y0 && E.same x1 y1 | _ => false
  | .ssub x0 x1 x2, e => match e with | .ssub y0 y1 y2 => E.same x0 y0 && E.same x1 y1 && E.same x2 y2 | _ => false
  | .scat x0 x1, e => match e with | .scat y0 y1 => E.same x0 y0 && E.same x1 y1 | _ => false
  | .s2b x0, e => match e with | .s2b y0 => E.same x0 y0 | _ => false
  | .b2s x0, e => match e with | .b2s y0 => E.same x0 y0 | _ => false
theorem E.same_eq : ∀ a b : E, E.same a b = true → a = b
  | .v x0, e, h => by
    simp only [E.same] at h
    split at h
    rotate_left
    · cases h
    have h0 := h
    rw [(Nat.eq_of_beq_eq_true h0)]
  | .ki x0 x1, e, h => by
    simp only [E.same] at h
    split at h
    rotate_left
    · cases h
    simp only [Bool.and_eq_true] at h
    obtain ⟨h0, h1⟩ := h
    rw [(kbeq_eq _ _ h0), (ibeq_eq _ _ h1)]
  | .kb x0, e, h => by
    simp only [E.same] at h
    split at h
    rotate_left
    · cases h
    have h0 := h
    rw [(bbeq_eq _ _ h0)]
  | .ks x0, e, h => by
    simp only [E.same] at h
    split at h
    rotate_left
    · cases h
    have h0 := h
    rw [(of_decide_eq_true h0)]
  | .ar x0 x1 x2 x3, e, h => by
    simp only [E.same] at h
    split at h
    rotate_left
    · cases h
    simp only [Bool.and_eq_true] at h
    obtain ⟨⟨⟨h0, h1⟩, h2⟩, h3⟩ := h
    rw [(obeq_eq _ _ h0), (kbeq_eq _ _ h1), (E.same_eq _ _ h2), (E.same_eq _ _ h3)]
  | .shf x0 x1 x2 x3, e, h => by
    simp only [E.same] at h
    split at h
    rotate_left
    · cases h
    simp only [Bool.and_eq_true] at h
    obtain ⟨⟨⟨h0, h1⟩, h2⟩, h3⟩ := h
    rw [(obeq_eq _ _ h0), (kbeq_eq _ _ h1), (E.same_eq _ _ h2), (E.same_eq _ _ h3)]
  | .cmp x0 x1 x2, e, h => by
    simp only [E.same] at h
    split at h
    rotate_left
    · cases h
    simp only [Bool.and_eq_true] at h
    obtain ⟨⟨h0, h1⟩, h2⟩ := h
    rw [(obeq_eq _ _ h0), (E.same_eq _ _ h1), (E.same_eq _ _ h2)]
  | .beq x0 x1, e, h => by
    simp only [E.same] at h
    split at h
    rotate_left
    · cases h
    simp only [Bool.and_eq_true] at h
    obtain ⟨h0, h1⟩ := h
    rw [(E.same_eq _ _ h0), (E.same_eq _ _ h1)]
  | .not x0, e, h => by
    simp only [E.same] at h
    split at h
    rotate_left
    · cases h
    have h0 := h
    rw [(E.same_eq _ _ h0)]
  | .neg x0 x1, e, h => by
    simp only [E.same] at h
    split at h
    rotate_left
    · cases h
    simp only [Bool.and_eq_true] at h
    obtain ⟨h0, h1⟩ := h
    rw [(kbeq_eq _ _ h0), (E.same_eq _ _ h1)]
  | .inv x0 x1, e, h => by
    simp only [E.same] at h
    split at h
    rotate_left
    · cases h
    simp only [Bool.and_eq_true] at h
    obtain ⟨h0, h1⟩ := h
    rw [(kbeq_eq _ _ h0), (E.same_eq _ _ h1)]
  | .and x0 x1, e, h => by
    simp only [E.same] at h
    split at h
    rotate_left
    · cases h
    simp only [Bool.and_eq_true] at h
    obtain ⟨h0, h1⟩ := h
    rw [(E.same_eq _ _ h0), (E.same_eq _ _ h1)]
  | .conv x0 x1, e, h => by
    simp only [E.same] at h
    split at h
    rotate_left
    · cases h
    simp only [Bool.and_eq_true] at h
    obtain ⟨h0, h1⟩ := h
    rw [(kbeq_eq _ _ h0), (E.same_eq _ _ h1)]
  | .mn x0 x1 x2, e, h => by
    simp only [E.same] at h
    split at h
    rotate_left
    · cases h
    simp only [Bool.and_eq_true] at h
    obtain ⟨⟨h0, h1⟩, h2⟩ := h
    rw [(kbeq_eq _ _ h0), (E.same_eq _ _ h1), (E.same_eq _ _ h2)]
  | .mx x0 x1 x2, e, h => by
    simp only [E.same] at h
    split at h
    rotate_left
    · cases h
    simp only [Bool.and_eq_true] at h
    obtain ⟨⟨h0, h1⟩, h2⟩ := h
    rw [(kbeq_eq _ _ h0), (E.same_eq _ _ h1), (E.same_eq _ _ h2)]
  | .len x0, e, h => by
    simp only [E.same] at h
    split at h
    rotate_left
    · cases h
    have h0 := h
    rw [(E.same_eq _ _ h0)]
  | .nil , e, h => by
    simp only [E.same] at h
    split at h
    · rfl
    · cases h
  | .cons x0 x1, e, h => by
    simp only [E.same] at h
    split at h
    rotate_left
    · cases h
    simp only [Bool.and_eq_true] at h
    obtain ⟨h0, h1⟩ := h
    rw [(E.same_eq _ _ h0), (E.same_eq _ _ h1)]
  | .rc x0, e, h => by
    simp only [E.same] at h
    split at h
    rotate_left
    · cases h
    have h0 := h
    rw [(E.same_eq _ _ h0)]
  | .get x0 x1, e, h => by
    simp only [E.same] at h
    split at h
    rotate_left
    · cases h
    simp only [Bool.and_eq_true] at h
    obtain ⟨h0, h1⟩ := h
    rw [(E.same_eq _ _ h0), (E.same_eq _ _ h1)]
  | .cell x0 x1, e, h => by
    simp only [E.same] at h
    split at h
    rotate_left
    · cases h
    simp only [Bool.and_eq_true] at h
    obtain ⟨h0, h1⟩ := h
    rw [(E.same_eq _ _ h0), (Nat.eq_of_beq_eq_true h1)]
  | .sub x0 x1 x2, e, h => by
    simp only [E.same] at h
    split at h
    rotate_left
    · cases h
    simp only [Bool.and_eq_true] at h
    obtain ⟨⟨h0, h1⟩, h2⟩ := h
    rw [(E.same_eq _ _ h0), (E.same_eq _ _ h1), (E.same_eq _ _ h2)]
  | .app x0 x1, e, h => by
    simp only [E.same] at h
    split at h
    rotate_left
    · cases h
    simp only [Bool.and_eq_true] at h
    obtain ⟨h0, h1⟩ := h
    rw [(E.same_eq _ _ h0), (E.same_eq _ _ h1)]
  | .set x0 x1 x2, e, h => by
    simp only [E.same] at h
    split at h
    rotate_left
    · cases h
    simp only [Bool.and_eq_true] at h
    obtain ⟨⟨h0, h1⟩, h2⟩ := h
    rw [(E.same_eq _ _ h0), (E.same_eq _ _ h1), (E.same_eq _ _ h2)]
  | .setc x0 x1 x2 x3, e, h => by
    simp only [E.same] at h
    split at h
    rotate_left
    · cases h
    simp only [Bool.and_eq_true] at h
    obtain ⟨⟨⟨h0, h1⟩, h2⟩, h3⟩ := h
    rw [(E.same_eq _ _ h0), (E.same_eq _ _ h1), (Nat.eq_of_beq_eq_true h2), (E.same_eq _ _ h3)]
  | .rep x0 x1, e, h => by
    simp only [E.same] at h
    split at h
    rotate_left
    · cases h
    simp only [Bool.and_eq_true] at h
    obtain ⟨h0, h1⟩ := h
    rw [(E.same_eq _ _ h0), (E.same_eq _ _ h1)]
  | .cpy x0 x1, e, h => by
    simp only [E.same] at h
    split at h
    rotate_left
    · cases h
    simp only [Bool.and_eq_true] at h
    obtain ⟨h0, h1⟩ := h
    rw [(E.same_eq _ _ h0), (E.same_eq _ _ h1)]
  | .seq x0 x1, e, h => by
    simp only [E.same] at h
    split at h
    rotate_left
    · cases h
    simp only [Bool.and_eq_true] at h
    obtain ⟨h0, h1⟩ := h
    rw [(E.same_eq _ _ h0), (E.same_eq _ _ h1)]
  | .slt x0 x1, e, h => by
    simp only [E.same] at h
    split at h
    rotate_left
    · cases h
    simp only [Bool.and_eq_true] at h
    obtain ⟨h0, h1⟩ := h
    rw [(E.same_eq _ _ h0), (E.same_eq _ _ h1)]
  | .sidx x0 x1, e, h => by
    simp only [E.same] at h
    split at h
    rotate_left
    · cases h
    simp only [Bool.and_eq_true] at h
    obtain ⟨h0, h1⟩ := h
    rw [(E.same_eq _ _ h0), (E.same_eq _ _ h1)]
  | .ssub x0 x1 x2, e, h => by
    simp only [E.same] at h
    split at h
    rotate_left
    · cases h
    simp only [Bool.and_eq_true] at h
    obtain ⟨⟨h0, h1⟩, h2⟩ := h
    rw [(E.same_eq _ _ h0), (E.same_eq _ _ h1), (E.same_eq _ _ h2)]
  | .scat x0 x1, e, h => by
    simp only [E.same] at h
    split at h
    rotate_left
    · cases h
    simp only [Bool.and_eq_true] at h
    obtain ⟨h0, h1⟩ := h
    rw [(E.same_eq _ _ h0), (E.same_eq _ _ h1)]
  | .s2b x0, e, h => by
    simp only [E.same] at h
    split at h
    rotate_left
    · cases h
    have h0 := h
    rw [(E.same_eq _ _ h0)]
  | .b2s x0, e, h => by
    simp only [E.same] at h
    split at h
    rotate_left
    · cases h
    have h0 := h
    rw [(E.same_eq _ _ h0)]


end Go.Proofs.Ytindphofgojfbaa.Sy
