/-
  The rewriting rules that walks over conditions use, in one fact. No program, no conditions.
-/
import Derived.Test.YtighdhddeidmcaaBytes
set_option linter.unusedSimpArgs false
set_option linter.unusedVariables false
namespace Go.Proofs.Ytighdhddeidmcaa
open Go.Proofs.Ytighdhddeidmcaa.Sy
theorem dE :
    (∀ x y : Int, cmpB .eql x y = (x == y)) ∧ (∀ x y : Int, cmpB .neq x y = (x != y)) ∧ (∀ x y : Int, cmpB .lss x y = decide (x < y)) ∧ (∀ x y : Int, cmpB .leq x y = decide (x ≤ y)) ∧
    (∀ x y : Int, cmpB .gtr x y = decide (x > y)) ∧ (∀ x y : Int, cmpB .geq x y = decide (x ≥ y)) ∧
    (∀ (k : IntKind) (x y : Int), arI .add k x y = k.wrap (x + y)) ∧ (∀ (k : IntKind) (x y : Int), arI .sub k x y = k.wrap (x - y)) ∧ (∀ (k : IntKind) (x y : Int), arI .mul k x y = k.wrap (x * y)) ∧
    (∀ (k : IntKind) (x y : Int), arI .quo k x y = k.wrap (x.tdiv y)) ∧ (∀ (k : IntKind) (x y : Int), arI .rem k x y = x.tmod y) ∧
    (∀ {α β : Type} {f : α → β} {a : α} {l : List α}, (a :: l).map f = f a :: l.map f) ∧ (∀ {α β : Type} {f : α → β}, ([] : List α).map f = []) ∧
    (∀ {α : Type} {x d : α} {l : List α}, (x :: l).getD 0 d = x) ∧ (∀ {α : Type} {x d : α} {l : List α} {n : Nat}, (x :: l).getD (n + 1) d = l.getD n d) ∧
    (∀ {α : Type} {a : α} {l m : List α}, a :: l ++ m = a :: (l ++ m)) ∧ (∀ {α : Type} (l : List α), [] ++ l = l) ∧ (∀ {α : Type} (l : List α), l ++ [] = l) ∧
    (∀ {α β : Type} (l : List α) (f : α → β), (l.map f).length = l.length) ∧ (∀ {α : Type} (l m : List α), (l ++ m).length = l.length + m.length) ∧ (∀ {α : Type} (a : α) (l : List α), (a :: l).length = l.length + 1) ∧ (∀ {α : Type}, ([] : List α).length = 0) ∧
    (∀ {p : Prop} [Decidable p], (decide p = true) = p) ∧ (∀ {p : Prop} [Decidable p], (decide p = false) ↔ ¬ p) ∧
    (∀ {α : Type} [BEq α] [LawfulBEq α] {a b : α}, a == b ↔ a = b) ∧ (∀ {α : Type} [BEq α] [LawfulBEq α] {a b : α}, (a == b) = false ↔ a ≠ b) ∧ (∀ {α : Type} [BEq α] [LawfulBEq α] {a b : α}, a != b ↔ a ≠ b) ∧ (∀ {α : Type} [BEq α] [LawfulBEq α] {a b : α}, (a != b) = false ↔ a = b) ∧
    (∀ {α : Type} (a b : α), (a ≠ b) = ¬ (a = b)) ∧ (∀ n : Nat, ((n : Int)).toNat = n) ∧ (∀ x y : Int, (x > y) ↔ (y < x)) ∧ (∀ x y : Int, (x ≥ y) ↔ (y ≤ x)) ∧ (∀ {a b : Int}, ¬ (a < b) ↔ b ≤ a) ∧ (∀ {a b : Int}, ¬ (a ≤ b) ↔ b < a) ∧
    (∀ b : Bool, (¬ (b = true)) = (b = false)) ∧ (∀ b : Bool, (¬ (b = false)) = (b = true)) ∧ (∀ a b : Bool, ((a && b) = true) = (a = true ∧ b = true)) ∧ ((true = false) = False) ∧ ((false = true) = False) ∧
    (∀ {a b : Bool}, ((!a) = b) ↔ (a = !b)) ∧ ((!true) = false) ∧ ((!false) = true) :=
  ⟨fun _ _ => rfl, fun _ _ => rfl, fun _ _ => rfl, fun _ _ => rfl, fun _ _ => rfl, fun _ _ => rfl, fun _ _ _ => rfl, fun _ _ _ => rfl, fun _ _ _ => rfl, fun _ _ _ => rfl, fun _ _ _ => rfl,
    List.map_cons, List.map_nil, List.getD_cons_zero, List.getD_cons_succ, List.cons_append, List.nil_append, List.append_nil, fun _ _ => List.length_map _, fun _ _ => List.length_append, fun _ _ => List.length_cons, List.length_nil,
    decide_eq_true_eq, decide_eq_false_iff_not, beq_iff_eq, beq_eq_false_iff_ne, bne_iff_ne, bne_eq_false_iff_eq, ne_eq, Int.toNat_natCast, fun _ _ => gt_iff_lt, fun _ _ => ge_iff_le, Int.not_lt, Int.not_le,
    Bool.not_eq_true, Bool.not_eq_false, Bool.and_eq_true, Bool.true_eq_false, Bool.false_eq_true, Bool.not_eq_eq_eq_not, Bool.not_true, Bool.not_false⟩
/-- What the expressions mean, as rules, in one fact. -/
theorem dF :
    (∀ (ρ : List D) (n : Nat), (E.v n).den ρ = ρ.getD n default) ∧
    (∀ (ρ : List D) (k : IntKind) (n : Int), (E.ki k n).den ρ = .int k n) ∧
    (∀ (ρ : List D) (b : Bool), (E.kb b).den ρ = .bool b) ∧
    (∀ (ρ : List D) (s : ByteArray), (E.ks s).den ρ = .str s) ∧
    (∀ (ρ : List D) (op : BinOp) (k : IntKind) (a : E) (b : E), (E.ar op k a b).den ρ = .int k (arI op k (a.den ρ).toI (b.den ρ).toI)) ∧
    (∀ (ρ : List D) (op : BinOp) (k : IntKind) (a : E) (b : E), (E.shf op k a b).den ρ = .int k (shI op k (a.den ρ).toI (b.den ρ).toI)) ∧
    (∀ (ρ : List D) (op : BinOp) (a : E) (b : E), (E.cmp op a b).den ρ = .bool (cmpB op (a.den ρ).toI (b.den ρ).toI)) ∧
    (∀ (ρ : List D) (a : E) (b : E), (E.beq a b).den ρ = .bool ((a.den ρ).toB == (b.den ρ).toB)) ∧
    (∀ (ρ : List D) (a : E), (E.not a).den ρ = .bool (!(a.den ρ).toB)) ∧
    (∀ (ρ : List D) (a : E) (b : E), (E.and a b).den ρ = .bool ((a.den ρ).toB && (b.den ρ).toB)) ∧
    (∀ (ρ : List D) (k : IntKind) (a : E), (E.neg k a).den ρ = .int k (k.wrap (0 - (a.den ρ).toI))) ∧
    (∀ (ρ : List D) (k : IntKind) (a : E), (E.inv k a).den ρ = .int k (arI .xor k (if k.signed then -1 else k.max) (a.den ρ).toI)) ∧
    (∀ (ρ : List D) (k : IntKind) (a : E), (E.conv k a).den ρ = .int k (k.wrap (a.den ρ).toI)) ∧
    (∀ (ρ : List D) (k : IntKind) (a : E) (b : E), (E.mn k a b).den ρ = .int k (if (b.den ρ).toI < (a.den ρ).toI then (b.den ρ).toI else (a.den ρ).toI)) ∧
    (∀ (ρ : List D) (k : IntKind) (a : E) (b : E), (E.mx k a b).den ρ = .int k (if (b.den ρ).toI > (a.den ρ).toI then (b.den ρ).toI else (a.den ρ).toI)) ∧
    (∀ (ρ : List D) (a : E), (E.len a).den ρ = .int .i64 (a.den ρ).len) ∧
    (∀ (ρ : List D), E.nil.den ρ = .lst []) ∧
    (∀ (ρ : List D) (x : E) (l : E), (E.cons x l).den ρ = .lst (x.den ρ :: (l.den ρ).toL)) ∧
    (∀ (ρ : List D) (l : E), (E.rc l).den ρ = .rc (l.den ρ).toL) ∧
    (∀ (ρ : List D) (l : E) (i : E), (E.get l i).den ρ = ((l.den ρ).toL).getD (i.den ρ).toI.toNat default) ∧
    (∀ (ρ : List D) (x : E) (j : Nat), (E.cell x j).den ρ = ((x.den ρ).toL).getD j default) ∧
    (∀ (ρ : List D) (l : E) (lo : E) (hi : E), (E.sub l lo hi).den ρ = .lst ((((l.den ρ).toL).take (hi.den ρ).toI.toNat).drop (lo.den ρ).toI.toNat)) ∧
    (∀ (ρ : List D) (a : E) (b : E), (E.app a b).den ρ = .lst ((a.den ρ).toL ++ (b.den ρ).toL)) ∧
    (∀ (ρ : List D) (l : E) (i : E) (x : E), (E.set l i x).den ρ = (l.den ρ).mapL fun l => l.set (i.den ρ).toI.toNat (x.den ρ)) ∧
    (∀ (ρ : List D) (l : E) (i : E) (j : Nat) (x : E), (E.setc l i j x).den ρ = (l.den ρ).mapL fun l => l.modify (i.den ρ).toI.toNat (D.setc j (x.den ρ))) ∧
    (∀ (ρ : List D) (n : E) (x : E), (E.rep n x).den ρ = .lst (List.replicate (n.den ρ).toI.toNat (x.den ρ))) ∧
    (∀ (ρ : List D) (a : E) (b : E), (E.cpy a b).den ρ = (a.den ρ).mapL fun l => (b.den ρ).toL.take l.length ++ l.drop (b.den ρ).toL.length) ∧
    (∀ (ρ : List D) (a : E) (b : E), (E.seq a b).den ρ = .bool ((a.den ρ).toS.toList == (b.den ρ).toS.toList)) ∧
    (∀ (ρ : List D) (a : E) (b : E), (E.slt a b).den ρ = .bool (Op.bytesLess (a.den ρ).toS.toList (b.den ρ).toS.toList)) ∧
    (∀ (ρ : List D) (s : E) (i : E), (E.sidx s i).den ρ = .int .u8 (((s.den ρ).toS.data.toList).getD (i.den ρ).toI.toNat 0).toNat) ∧
    (∀ (ρ : List D) (s : E) (lo : E) (hi : E), (E.ssub s lo hi).den ρ = .str ((s.den ρ).toS.extract (lo.den ρ).toI.toNat (hi.den ρ).toI.toNat)) ∧
    (∀ (ρ : List D) (a : E) (b : E), (E.scat a b).den ρ = .str ((a.den ρ).toS ++ (b.den ρ).toS)) ∧
    (∀ (ρ : List D) (s : E), (E.s2b s).den ρ = .lst (bytesD (s.den ρ).toS)) ∧
    (∀ (ρ : List D) (l : E), (E.b2s l).den ρ = .str (strD (l.den ρ).toL)) ∧
    (∀ (k : IntKind) (n : Int), (D.int k n).toI = n) ∧
    (∀ (b : Bool), (D.bool b).toB = b) ∧
    (∀ (s : ByteArray), (D.str s).toS = s) ∧
    (∀ (l : List D), (D.lst l).toL = l) ∧
    (∀ (l : List D), (D.rc l).toL = l) ∧
    (∀ (f : List D → List D) (l : List D), (D.lst l).mapL f = .lst (f l)) ∧
    (∀ (l : List D), (D.lst l).len = (l.length : Int)) ∧
    (∀ (s : ByteArray), (D.str s).len = (s.size : Int)) ∧
    (∀ (s : Sh) (ts : List TS) (d : D) (ds : List D), flatD (.c s :: ts) (d :: ds) = d :: flatD ts ds) ∧
    (∀ (s : List Sh) (ts : List TS) (d : D) (ds : List D), flatD (.r s :: ts) (d :: ds) = d :: flatD ts ds) ∧
    (∀ (s : List Sh) (ts : List TS) (d ds : List D), flatD (.g s :: ts) (.rc d :: ds) = d ++ flatD ts ds) ∧
    (∀ (s : List CK) (ts : List TS) (d ds : List D), flatD (.h s :: ts) (.rc d :: ds) = d ++ flatD ts ds) ∧
    (∀ (s : List CK) (ts : List TS) (d ds : List D), flatD (.p s :: ts) (.rc d :: ds) = d ++ flatD ts ds) ∧
    (∀ (ds : List D), flatD [] ds = []) :=
  ⟨fun _ _ => rfl,
  fun _ _ _ => rfl,
  fun _ _ => rfl,
  fun _ _ => rfl,
  fun _ _ _ _ _ => rfl,
  fun _ _ _ _ _ => rfl,
  fun _ _ _ _ => rfl,
  fun _ _ _ => rfl,
  fun _ _ => rfl,
  fun _ _ _ => rfl,
  fun _ _ _ => rfl,
  fun _ _ _ => rfl,
  fun _ _ _ => rfl,
  fun _ _ _ _ => rfl,
  fun _ _ _ _ => rfl,
  fun _ _ => rfl,
  fun _ => rfl,
  fun _ _ _ => rfl,
  fun _ _ => rfl,
  fun _ _ _ => rfl,
  fun _ _ _ => rfl,
  fun _ _ _ _ => rfl,
  fun _ _ _ => rfl,
  fun _ _ _ _ => rfl,
  fun _ _ _ _ _ => rfl,
  fun _ _ _ => rfl,
  fun _ _ _ => rfl,
  fun _ _ _ => rfl,
  fun _ _ _ => rfl,
  fun _ _ _ => rfl,
  fun _ _ _ _ => rfl,
  fun _ _ _ => rfl,
  fun _ _ => rfl,
  fun _ _ => rfl,
  fun _ _ => rfl,
  fun _ => rfl,
  fun _ => rfl,
  fun _ => rfl,
  fun _ => rfl,
  fun _ _ => rfl,
  fun _ => rfl,
  fun _ => rfl,
  fun _ _ _ _ => rfl,
  fun _ _ _ _ => rfl,
  fun _ _ _ _ => rfl,
  fun _ _ _ _ => rfl,
  fun _ _ _ _ => rfl,
  fun _ => rfl⟩
end Go.Proofs.Ytighdhddeidmcaa
