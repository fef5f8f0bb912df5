/-
  The rewriting rules that walks over conditions use, in one fact. No program, no conditions.
-/
import Derived.Test.YtmkkijgnlohieaaBytes
set_option linter.unusedSimpArgs false
set_option linter.unusedVariables false
namespace Go.Proofs.Ytmkkijgnlohieaa
open Go.Proofs.Ytmkkijgnlohieaa.Sy
theorem dE :
    (∀ x y : Int, cmpB .eql x y = (x == y)) ∧ (∀ x y : Int, cmpB .neq x y = (x != y)) ∧ (∀ x y : Int, cmpB .lss x y = decide (x < y)) ∧ (∀ x y : Int, cmpB .leq x y = decide (x ≤ y)) ∧
    (∀ x y : Int, cmpB .gtr x y = decide (x > y)) ∧ (∀ x y : Int, cmpB .geq x y = decide (x ≥ y)) ∧
    (∀ (k : IntKind) (x y : Int), arI .add k x y = k.wrap (x + y)) ∧ (∀ (k : IntKind) (x y : Int), arI .sub k x y = k.wrap (x - y)) ∧ (∀ (k : IntKind) (x y : Int), arI .mul k x y = k.wrap (x * y)) ∧
    (∀ (k : IntKind) (x y : Int), arI .quo k x y = k.wrap (x.tdiv y)) ∧ (∀ (k : IntKind) (x y : Int), arI .rem k x y = x.tmod y) ∧
    (∀ {α β : Type} {f : α → β} {a : α} {l : List α}, (a :: l).map f = f a :: l.map f) ∧ (∀ {α β : Type} {f : α → β}, ([] : List α).map f = []) ∧
    (∀ {α : Type} {x d : α} {l : List α}, (x :: l).getD 0 d = x) ∧ (∀ {α : Type} {x d : α} {l : List α} {n : Nat}, (x :: l).getD (n + 1) d = l.getD n d) ∧
    (∀ {α : Type} {a : α} {l m : List α}, a :: l ++ m = a :: (l ++ m)) ∧ (∀ {α : Type} (l : List α), [] ++ l = l) ∧ (∀ {α : Type} (l : List α), l ++ [] = l) ∧
    (∀ {α β : Type} (l : List α) (f : α → β), (l.map f).length = l.length) ∧ (∀ {α : Type} (l m : List α), (l ++ m).length = l.length + m.length) ∧ (∀ {α : Type} (a : α) (l : List α), (a :: l).length = l.length + 1) ∧ (∀ {α : Type}, ([] : List α).length = 0) ∧
    (∀ {p : Prop} [Decidable p], (decide p = true) = p) ∧ (∀ {p : Prop} [Decidable p], (decide p = false) ↔ ¬ p) ∧
    (∀ {α : Type} [BEq α] [LawfulBEq α] {a b : α}, a == b ↔ a = b) ∧ (∀ {α : Type} [BEq α] [LawfulBEq α] {a b : α}, (a == b) = false ↔ a ≠ b) ∧ (∀ {α : Type} [BEq α] [LawfulBEq α] {a b : α}, a != b ↔ a ≠ b) ∧ (∀ {α : Type} [BEq α] [LawfulBEq α] {a b : α}, (a != b) = false ↔ a = b) ∧
    (∀ {α : Type} (a b : α), (a ≠ b) = ¬ (a = b)) ∧ (∀ n : Nat, ((n : Int)).toNat = n) ∧ (∀ x y : Int, (x > y) ↔ (y < x)) ∧ (∀ x y : Int, (x ≥ y) ↔ (y ≤ x)) ∧ (∀ {a b : Int}, ¬ (a < b) ↔ b ≤ a) ∧ (∀ {a b : Int}, ¬ (a ≤ b) ↔ b < a) ∧
    (∀ b : Bool, (¬ (b = true)) = (b = false)) ∧ (∀ b : Bool, (¬ (b = false)) = (b = true)) ∧ (∀ a b : Bool, ((a && b) = true) = (a = true ∧ b = true)) ∧ ((true = false) = False) ∧ ((false = true) = False) ∧
    (∀ {a b : Bool}, ((!a) = b) ↔ (a = !b)) ∧ ((!true) = false) ∧ ((!false) = true) :=
  ⟨fun _ _ => rfl, fun _ _ => rfl, fun _ _ => rfl, fun _ _ => rfl, fun _ _ => rfl, fun _ _ => rfl, fun _ _ _ => rfl, fun _ _ _ => rfl, fun _ _ _ => rfl, fun _ _ _ => rfl, fun _ _ _ => rfl,
    List.map_cons, List.map_nil, List.getD_cons_zero, List.getD_cons_succ, List.cons_append, List.nil_append, List.append_nil, fun _ _ => List.length_map _, fun _ _ => List.length_append, fun _ _ => List.length_cons, List.length_nil,
    decide_eq_true_eq, decide_eq_false_iff_not, beq_iff_eq, beq_eq_false_iff_ne, bne_iff_ne, bne_eq_false_iff_eq, ne_eq, Int.toNat_natCast, fun _ _ => gt_iff_lt, fun _ _ => ge_iff_le, Int.not_lt, Int.not_le,
    Bool.not_eq_true, Bool.not_eq_false, Bool.and_eq_true, Bool.true_eq_false, Bool.false_eq_true, Bool.not_eq_eq_eq_not, Bool.not_true, Bool.not_false⟩
end Go.Proofs.Ytmkkijgnlohieaa
