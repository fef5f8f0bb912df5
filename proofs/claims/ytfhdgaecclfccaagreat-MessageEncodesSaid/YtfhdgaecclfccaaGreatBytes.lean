/-
  Words for bytes: data, and what the conditions' operations are on numbers. No program, no conditions.
-/
import Derived.Test.YtfhdgaecclfccaaGreatSyO3
set_option linter.unusedSimpArgs false
set_option linter.unusedVariables false
namespace Go.Proofs.YtfhdgaecclfccaaGreat
open Go.Proofs.YtfhdgaecclfccaaGreat.Sy
abbrev bD (l : List Int) : D := .lst (l.map U8d)
abbrev bbD (l : List (List Int)) : D := .lst (l.map bD)
abbrev tYY : TS := .c (.lst [.lst [.int .u8]])
theorem get_U {l : List Int} {i : Nat} (h : i < l.length) : (l.map U8d).getD i default = U8d (l.getD i 0) := by simp [List.getD_eq_getElem?_getD, h]
theorem get_B {l : List (List Int)} {i : Nat} (h : i < l.length) : (l.map bD).getD i default = bD (l.getD i []) := by simp [List.getD_eq_getElem?_getD, h]
theorem drop_get {α : Type} (d : α) {l : List α} {i : Nat} (h : i < l.length) : l.drop i = l.getD i d :: l.drop (i + 1) := by
  rw [List.drop_eq_getElem_cons h]; simp [List.getD_eq_getElem?_getD, h]
theorem take_get {α : Type} (d : α) {l : List α} {i : Nat} (h : i < l.length) : l.take (i + 1) = l.take i ++ [l.getD i d] := by
  rw [List.take_succ_eq_append_getElem h]; simp [List.getD_eq_getElem?_getD, h]
theorem arI_add (k : IntKind) (x y : Int) : arI .add k x y = k.wrap (x + y) := rfl
theorem arI_sub (k : IntKind) (x y : Int) : arI .sub k x y = k.wrap (x - y) := rfl
theorem arI_mul (k : IntKind) (x y : Int) : arI .mul k x y = k.wrap (x * y) := rfl
theorem arI_quo (k : IntKind) (x y : Int) : arI .quo k x y = k.wrap (x.tdiv y) := rfl
theorem arI_rem (k : IntKind) (x y : Int) : arI .rem k x y = x.tmod y := rfl
theorem shI_shl (k : IntKind) (x y : Int) : shI .shl k x y = k.wrap (x * 2 ^ (min y.toNat k.bits)) := rfl
theorem shI_shr (k : IntKind) (x y : Int) : shI .shr k x y = x.fdiv (2 ^ (min y.toNat k.bits)) := rfl
theorem cmpB_eql (x y : Int) : cmpB .eql x y = (x == y) := rfl
theorem cmpB_neq (x y : Int) : cmpB .neq x y = (x != y) := rfl
theorem cmpB_lss (x y : Int) : cmpB .lss x y = decide (x < y) := rfl
theorem cmpB_leq (x y : Int) : cmpB .leq x y = decide (x ≤ y) := rfl
theorem cmpB_gtr (x y : Int) : cmpB .gtr x y = decide (x > y) := rfl
theorem cmpB_geq (x y : Int) : cmpB .geq x y = decide (x ≥ y) := rfl
theorem wrap_u8 {n : Int} (h0 : 0 ≤ n) (h1 : n ≤ 255) : IntKind.wrap .u8 n = n := by
  simp [IntKind.wrap, IntKind.bits, IntKind.signed]; omega
theorem wrap_u8_mod (n : Int) : IntKind.wrap .u8 n = n % 256 := by simp [IntKind.wrap, IntKind.bits, IntKind.signed]
theorem wrap_u16 {n : Int} (h0 : 0 ≤ n) (h1 : n ≤ 65535) : IntKind.wrap .u16 n = n := by
  simp [IntKind.wrap, IntKind.bits, IntKind.signed]; omega
theorem wrap_u16_mod (n : Int) : IntKind.wrap .u16 n = n % 65536 := by simp [IntKind.wrap, IntKind.bits, IntKind.signed]
theorem wrap_u64 {n : Int} (h0 : 0 ≤ n) (h1 : n ≤ 18446744073709551615) : IntKind.wrap .u64 n = n := by
  simp [IntKind.wrap, IntKind.bits, IntKind.signed]; omega
theorem wrap_u64_mod (n : Int) : IntKind.wrap .u64 n = n % 18446744073709551616 := by simp [IntKind.wrap, IntKind.bits, IntKind.signed]
theorem bv_toNat {n : Nat} {x : Int} (h0 : 0 ≤ x) (h1 : x < 2 ^ n) : (BitVec.ofInt n x).toNat = x.toNat := by
  rw [BitVec.toNat_ofInt, Int.emod_eq_of_lt h0 (by simpa [Int.natCast_pow] using h1)]
theorem typ_bytes {d : D} (h : Typ (.lst [.int .u8]) d) : ∃ l : List Int, d = bD l ∧ l.length ≤ maxLen ∧ ∀ n ∈ l, 0 ≤ n ∧ n ≤ 255 := by
  unfold Typ at h
  obtain ⟨l, rfl, hl, hx⟩ := h
  obtain ⟨L, rfl, hL⟩ := list_read (g := U8d) (q := fun n => 0 ≤ n ∧ n ≤ 255) (p := fun d => Typ (.int .u8) d) (fun d hd => by
    unfold Typ at hd
    obtain ⟨n, rfl, h1, h2⟩ := hd
    rw [min_u8] at h1
    rw [max_u8] at h2
    exact ⟨n, rfl, h1, h2⟩) l (fun x hm => by
    have := hx x hm
    rw [D.cells_one rfl] at this
    unfold Typs at this
    obtain ⟨d, ds, h1, h2, _⟩ := this
    cases h1
    exact h2)
  exact ⟨L, rfl, by simpa using hl, hL⟩
theorem typ_byteses {d : D} (h : Typ (.lst [.lst [.int .u8]]) d) : ∃ l : List (List Int), d = bbD l ∧ l.length ≤ maxLen ∧ ∀ b ∈ l, b.length ≤ maxLen ∧ ∀ n ∈ b, 0 ≤ n ∧ n ≤ 255 := by
  unfold Typ at h
  obtain ⟨l, rfl, hl, hx⟩ := h
  obtain ⟨L, rfl, hL⟩ := list_read (g := bD) (q := fun b => b.length ≤ maxLen ∧ ∀ n ∈ b, 0 ≤ n ∧ n ≤ 255) (p := fun d => Typ (.lst [.int .u8]) d) (fun d hd => typ_bytes hd) l (fun x hm => by
    have := hx x hm
    rw [D.cells_one rfl] at this
    unfold Typs at this
    obtain ⟨d, ds, h1, h2, _⟩ := this
    cases h1
    exact h2)
  exact ⟨L, rfl, by simpa using hl, hL⟩
theorem u8_inj {a b : List Int} (h : a.map U8d = b.map U8d) : a = b := by
  induction a generalizing b with
  | nil => cases b with
    | nil => rfl
    | cons y b => simp at h
  | cons x a ih => cases b with
    | nil => simp at h
    | cons y b =>
      simp only [List.map_cons, List.cons.injEq, D.int.injEq, true_and] at h
      rw [h.1, ih h.2]
theorem strD_eq {a b : List Int} (ha : ∀ x ∈ a, 0 ≤ x ∧ x ≤ 255) (hb : ∀ x ∈ b, 0 ≤ x ∧ x ≤ 255) : ((strD (a.map U8d)).toList == (strD (b.map U8d)).toList) = decide (a = b) := by
  have key : ∀ {a b : List Int}, (∀ x ∈ a, 0 ≤ x ∧ x ≤ 255) → (∀ x ∈ b, 0 ≤ x ∧ x ≤ 255) → a.map (fun n => UInt8.ofNat n.toNat) = b.map (fun n => UInt8.ofNat n.toNat) → a = b := by
    intro a
    induction a with
    | nil => intro b _ _ h; cases b with
      | nil => rfl
      | cons y b => simp at h
    | cons x a ih => intro b ha hb h; cases b with
      | nil => simp at h
      | cons y b =>
        simp only [List.map_cons, List.cons.injEq] at h
        have hx := ha x (by simp)
        have hy := hb y (by simp)
        have e := congrArg UInt8.toNat h.1
        simp [UInt8.toNat_ofNat] at e
        rw [ih (fun z hz => ha z (by simp [hz])) (fun z hz => hb z (by simp [hz])) h.2, show x = y by omega]
  have e1 : ∀ l : List Int, (strD (l.map U8d)).toList = l.map fun n => UInt8.ofNat n.toNat := by
    intro l
    rw [ByteArray.toList_eq]
    simp [strD, D.toI]
  rw [e1, e1]
  by_cases h : a = b
  · subst h; simp
  · simp only [h, decide_false, beq_eq_false_iff_ne, ne_eq]
    exact fun he => h (key ha hb he)
/-- The room of a row (by this lemma where a length begins with a literal: to reckon with it by unfolding is deep). -/
theorem ob_leq {ρ : List D} {a : E} {xs : List D} (h : a.den ρ = .lst xs) (hl : xs.length ≤ 4294967296) : ((E.cmp .leq (.len a) (.ki .i64 4294967296)).den ρ).toB = true := by
  have e : (E.cmp .leq (.len a) (.ki .i64 4294967296)).den ρ = .bool (decide ((xs.length : Int) ≤ 4294967296)) := by
    simp only [E.den, h, D.len, D.toI, cmpB_leq]
  rw [e]
  simp only [D.toB, decide_eq_true_eq]
  omega
end Go.Proofs.YtfhdgaecclfccaaGreat
set_option linter.unusedSimpArgs false
set_option linter.unusedVariables false
namespace Go.Proofs.YtfhdgaecclfccaaGreat
open Go.Proofs.YtfhdgaecclfccaaGreat.Sy
theorem dE :
    (∀ x y : Int, cmpB .eql x y = (x == y)) ∧ (∀ x y : Int, cmpB .neq x y = (x != y)) ∧ (∀ x y : Int, cmpB .lss x y = decide (x < y)) ∧ (∀ x y : Int, cmpB .leq x y = decide (x ≤ y)) ∧
    (∀ x y : Int, cmpB .gtr x y = decide (x > y)) ∧ (∀ x y : Int, cmpB .geq x y = decide (x ≥ y)) ∧
    (∀ (k : IntKind) (x y : Int), arI .add k x y = k.wrap (x + y)) ∧ (∀ (k : IntKind) (x y : Int), arI .sub k x y = k.wrap (x - y)) ∧ (∀ (k : IntKind) (x y : Int), arI .mul k x y = k.wrap (x * y)) ∧
    (∀ (k : IntKind) (x y : Int), arI .quo k x y = k.wrap (x.tdiv y)) ∧ (∀ (k : IntKind) (x y : Int), arI .rem k x y = x.tmod y) ∧
    (∀ {α β : Type} {f : α → β} {a : α} {l : List α}, (a :: l).map f = f a :: l.map f) ∧ (∀ {α β : Type} {f : α → β}, ([] : List α).map f = []) ∧
    (∀ {α : Type} {x d : α} {l : List α}, (x :: l).getD 0 d = x) ∧ (∀ {α : Type} {x d : α} {l : List α} {n : Nat}, (x :: l).getD (n + 1) d = l.getD n d) ∧
    (∀ {α : Type} {a : α} {l m : List α}, a :: l ++ m = a :: (l ++ m)) ∧ (∀ {α : Type} (l : List α), [] ++ l = l) ∧ (∀ {α : Type} (l : List α), l ++ [] = l) ∧
    (∀ {α β : Type} (l : List α) (f : α → β), (l.map f).length = l.length) ∧ (∀ {α : Type} (l m : List α), (l ++ m).length = l.length + m.length) ∧ (∀ {α : Type} (a : α) (l : List α), (a :: l).length = l.length + 1) ∧ (∀ {α : Type}, ([] : List α).length = 0) ∧
    (∀ {p : Prop} [Decidable p], (decide p = true) = p) ∧ (∀ {p : Prop} [Decidable p], (decide p = false) ↔ ¬ p) ∧
    (∀ {α : Type} [BEq α] [LawfulBEq α] {a b : α}, a == b ↔ a = b) ∧ (∀ {α : Type} [BEq α] [LawfulBEq α] {a b : α}, (a == b) = false ↔ a ≠ b) ∧ (∀ {α : Type} [BEq α] [LawfulBEq α] {a b : α}, a != b ↔ a ≠ b) ∧ (∀ {α : Type} [BEq α] [LawfulBEq α] {a b : α}, (a != b) = false ↔ a = b) ∧
    (∀ {α : Type} (a b : α), (a ≠ b) = ¬ (a = b)) ∧ (∀ n : Nat, ((n : Int)).toNat = n) ∧ (∀ x y : Int, (x > y) ↔ (y < x)) ∧ (∀ x y : Int, (x ≥ y) ↔ (y ≤ x)) ∧ (∀ {a b : Int}, ¬ (a < b) ↔ b ≤ a) ∧ (∀ {a b : Int}, ¬ (a ≤ b) ↔ b < a) ∧
    (∀ b : Bool, (¬ (b = true)) = (b = false)) ∧ (∀ b : Bool, (¬ (b = false)) = (b = true)) ∧ (∀ a b : Bool, ((a && b) = true) = (a = true ∧ b = true)) ∧ ((true = false) = False) ∧ ((false = true) = False) ∧
    (∀ {a b : Bool}, ((!a) = b) ↔ (a = !b)) ∧ ((!true) = false) ∧ ((!false) = true) :=
  ⟨fun _ _ => rfl, fun _ _ => rfl, fun _ _ => rfl, fun _ _ => rfl, fun _ _ => rfl, fun _ _ => rfl, fun _ _ _ => rfl, fun _ _ _ => rfl, fun _ _ _ => rfl, fun _ _ _ => rfl, fun _ _ _ => rfl,
    List.map_cons, List.map_nil, List.getD_cons_zero, List.getD_cons_succ, List.cons_append, List.nil_append, List.append_nil, fun _ _ => List.length_map _, fun _ _ => List.length_append, fun _ _ => List.length_cons, List.length_nil,
    decide_eq_true_eq, decide_eq_false_iff_not, beq_iff_eq, beq_eq_false_iff_ne, bne_iff_ne, bne_eq_false_iff_eq, ne_eq, Int.toNat_natCast, fun _ _ => gt_iff_lt, fun _ _ => ge_iff_le, Int.not_lt, Int.not_le,
    Bool.not_eq_true, Bool.not_eq_false, Bool.and_eq_true, Bool.true_eq_false, Bool.false_eq_true, Bool.not_eq_eq_eq_not, Bool.not_true, Bool.not_false⟩
/-- What the expressions mean, as rules, in one fact. -/
theorem dF :
    (∀ (ρ : List D) (n : Nat), (E.v n).den ρ = ρ.getD n default) ∧
    (∀ (ρ : List D) (k : IntKind) (n : Int), (E.ki k n).den ρ = .int k n) ∧
    (∀ (ρ : List D) (b : Bool), (E.kb b).den ρ = .bool b) ∧
    (∀ (ρ : List D) (s : ByteArray), (E.ks s).den ρ = .str s) ∧
    (∀ (ρ : List D) (op : BinOp) (k : IntKind) (a : E) (b : E), (E.ar op k a b).den ρ = .int k (arI op k (a.den ρ).toI (b.den ρ).toI)) ∧
    (∀ (ρ : List D) (op : BinOp) (k : IntKind) (a : E) (b : E), (E.shf op k a b).den ρ = .int k (shI op k (a.den ρ).toI (b.den ρ).toI)) ∧
    (∀ (ρ : List D) (op : BinOp) (a : E) (b : E), (E.cmp op a b).den ρ = .bool (cmpB op (a.den ρ).toI (b.den ρ).toI)) ∧
    (∀ (ρ : List D) (a : E) (b : E), (E.beq a b).den ρ = .bool ((a.den ρ).toB == (b.den ρ).toB)) ∧
    (∀ (ρ : List D) (a : E), (E.not a).den ρ = .bool (!(a.den ρ).toB)) ∧
    (∀ (ρ : List D) (a : E) (b : E), (E.and a b).den ρ = .bool ((a.den ρ).toB && (b.den ρ).toB)) ∧
    (∀ (ρ : List D) (k : IntKind) (a : E), (E.neg k a).den ρ = .int k (k.wrap (0 - (a.den ρ).toI))) ∧
    (∀ (ρ : List D) (k : IntKind) (a : E), (E.inv k a).den ρ = .int k (arI .xor k (if k.signed then -1 else k.max) (a.den ρ).toI)) ∧
    (∀ (ρ : List D) (k : IntKind) (a : E), (E.conv k a).den ρ = .int k (k.wrap (a.den ρ).toI)) ∧
    (∀ (ρ : List D) (k : IntKind) (a : E) (b : E), (E.mn k a b).den ρ = .int k (if (b.den ρ).toI < (a.den ρ).toI then (b.den ρ).toI else (a.den ρ).toI)) ∧
    (∀ (ρ : List D) (k : IntKind) (a : E) (b : E), (E.mx k a b).den ρ = .int k (if (b.den ρ).toI > (a.den ρ).toI then (b.den ρ).toI else (a.den ρ).toI)) ∧
    (∀ (ρ : List D) (a : E), (E.len a).den ρ = .int .i64 (a.den ρ).len) ∧
    (∀ (ρ : List D), E.nil.den ρ = .lst []) ∧
    (∀ (ρ : List D) (x : E) (l : E), (E.cons x l).den ρ = .lst (x.den ρ :: (l.den ρ).toL)) ∧
    (∀ (ρ : List D) (l : E), (E.rc l).den ρ = .rc (l.den ρ).toL) ∧
    (∀ (ρ : List D) (l : E) (i : E), (E.get l i).den ρ = ((l.den ρ).toL).getD (i.den ρ).toI.toNat default) ∧
    (∀ (ρ : List D) (x : E) (j : Nat), (E.cell x j).den ρ = ((x.den ρ).toL).getD j default) ∧
    (∀ (ρ : List D) (l : E) (lo : E) (hi : E), (E.sub l lo hi).den ρ = .lst ((((l.den ρ).toL).take (hi.den ρ).toI.toNat).drop (lo.den ρ).toI.toNat)) ∧
    (∀ (ρ : List D) (a : E) (b : E), (E.app a b).den ρ = .lst ((a.den ρ).toL ++ (b.den ρ).toL)) ∧
    (∀ (ρ : List D) (l : E) (i : E) (x : E), (E.set l i x).den ρ = (l.den ρ).mapL fun l => l.set (i.den ρ).toI.toNat (x.den ρ)) ∧
    (∀ (ρ : List D) (l : E) (i : E) (j : Nat) (x : E), (E.setc l i j x).den ρ = (l.den ρ).mapL fun l => l.modify (i.den ρ).toI.toNat (D.setc j (x.den ρ))) ∧
    (∀ (ρ : List D) (n : E) (x : E), (E.rep n x).den ρ = .lst (List.replicate (n.den ρ).toI.toNat (x.den ρ))) ∧
    (∀ (ρ : List D) (a : E) (b : E), (E.cpy a b).den ρ = (a.den ρ).mapL fun l => (b.den ρ).toL.take l.length ++ l.drop (b.den ρ).toL.length) ∧
    (∀ (ρ : List D) (a : E) (b : E), (E.seq a b).den ρ = .bool ((a.den ρ).toS.toList == (b.den ρ).toS.toList)) ∧
    (∀ (ρ : List D) (a : E) (b : E), (E.slt a b).den ρ = .bool (Op.bytesLess (a.den ρ).toS.toList (b.den ρ).toS.toList)) ∧
    (∀ (ρ : List D) (s : E) (i : E), (E.sidx s i).den ρ = .int .u8 (((s.den ρ).toS.data.toList).getD (i.den ρ).toI.toNat 0).toNat) ∧
    (∀ (ρ : List D) (s : E) (lo : E) (hi : E), (E.ssub s lo hi).den ρ = .str ((s.den ρ).toS.extract (lo.den ρ).toI.toNat (hi.den ρ).toI.toNat)) ∧
    (∀ (ρ : List D) (a : E) (b : E), (E.scat a b).den ρ = .str ((a.den ρ).toS ++ (b.den ρ).toS)) ∧
    (∀ (ρ : List D) (s : E), (E.s2b s).den ρ = .lst (bytesD (s.den ρ).toS)) ∧
    (∀ (ρ : List D) (l : E), (E.b2s l).den ρ = .str (strD (l.den ρ).toL)) ∧
    (∀ (k : IntKind) (n : Int), (D.int k n).toI = n) ∧
    (∀ (b : Bool), (D.bool b).toB = b) ∧
    (∀ (s : ByteArray), (D.str s).toS = s) ∧
    (∀ (l : List D), (D.lst l).toL = l) ∧
    (∀ (l : List D), (D.rc l).toL = l) ∧
    (∀ (f : List D → List D) (l : List D), (D.lst l).mapL f = .lst (f l)) ∧
    (∀ (l : List D), (D.lst l).len = (l.length : Int)) ∧
    (∀ (s : ByteArray), (D.str s).len = (s.size : Int)) ∧
    (∀ (s : Sh) (ts : List TS) (d : D) (ds : List D), flatD (.c s :: ts) (d :: ds) = d :: flatD ts ds) ∧
    (∀ (s : List Sh) (ts : List TS) (d : D) (ds : List D), flatD (.r s :: ts) (d :: ds) = d :: flatD ts ds) ∧
    (∀ (s : List Sh) (ts : List TS) (d ds : List D), flatD (.g s :: ts) (.rc d :: ds) = d ++ flatD ts ds) ∧
    (∀ (s : List CK) (ts : List TS) (d ds : List D), flatD (.h s :: ts) (.rc d :: ds) = d ++ flatD ts ds) ∧
    (∀ (s : List CK) (ts : List TS) (d ds : List D), flatD (.p s :: ts) (.rc d :: ds) = d ++ flatD ts ds) ∧
    (∀ (ds : List D), flatD [] ds = []) :=
  ⟨fun _ _ => rfl,
  fun _ _ _ => rfl,
  fun _ _ => rfl,
  fun _ _ => rfl,
  fun _ _ _ _ _ => rfl,
  fun _ _ _ _ _ => rfl,
  fun _ _ _ _ => rfl,
  fun _ _ _ => rfl,
  fun _ _ => rfl,
  fun _ _ _ => rfl,
  fun _ _ _ => rfl,
  fun _ _ _ => rfl,
  fun _ _ _ => rfl,
  fun _ _ _ _ => rfl,
  fun _ _ _ _ => rfl,
  fun _ _ => rfl,
  fun _ => rfl,
  fun _ _ _ => rfl,
  fun _ _ => rfl,
  fun _ _ _ => rfl,
  fun _ _ _ => rfl,
  fun _ _ _ _ => rfl,
  fun _ _ _ => rfl,
  fun _ _ _ _ => rfl,
  fun _ _ _ _ _ => rfl,
  fun _ _ _ => rfl,
  fun _ _ _ => rfl,
  fun _ _ _ => rfl,
  fun _ _ _ => rfl,
  fun _ _ _ => rfl,
  fun _ _ _ _ => rfl,
  fun _ _ _ => rfl,
  fun _ _ => rfl,
  fun _ _ => rfl,
  fun _ _ => rfl,
  fun _ => rfl,
  fun _ => rfl,
  fun _ => rfl,
  fun _ => rfl,
  fun _ _ => rfl,
  fun _ => rfl,
  fun _ => rfl,
  fun _ _ _ _ => rfl,
  fun _ _ _ _ => rfl,
  fun _ _ _ _ => rfl,
  fun _ _ _ _ => rfl,
  fun _ _ _ _ => rfl,
  fun _ => rfl⟩
theorem dN {α : Type} : (∀ (a : α) (l m : List α), (a :: l) ++ m = a :: (l ++ m)) ∧ (∀ l : List α, [] ++ l = l) := ⟨fun _ _ _ => rfl, fun _ => rfl⟩
abbrev shM6 : List Sh := [(.int .i64), (.int .i64), (.int .i64), (.int .i64), (.int .i64), (.int .i64), (.int .i64), (.int .i64), .str, .str, .str, .bool, (.lst [(.int .i64), (.int .i64)]), (.int .i64), (.int .i64), (.int .i64), (.int .i64), (.int .i64), .str, (.int .i64), (.int .i64), (.int .i64), (.int .i64), (.lst [(.int .i64), (.int .i64)]), (.lst [.str, .str, .str, (.int .i64), (.int .i64), (.int .i64)])]
abbrev shP6 : List Sh := [(.int .i64), (.int .i64), (.int .i64), (.int .i64), (.int .i64), .str, (.int .i64), (.int .i64), (.int .i64), (.int .i64), (.lst [(.int .i64), (.int .i64)])]
def dI (n : Nat) : A := .d (.int .i64) (.v n)
def dS (n : Nat) : A := .d .str (.v n)
def vI (n : Nat) : AV := .v (.c (dI n))
def sI : Sh := .int .i64
def lII : Sh := .lst [.int .i64, .int .i64]
def fSh : List Sh := [.int .i64, .lst [.int .u8]]
def an6 (n : Nat) : List AV := List.replicate n (.v (.c .any))
def gM6 (n : Nat) : List A := [dI n, dI (n + 1), dI (n + 2), dI (n + 3), dI (n + 4), dI (n + 5), dI (n + 6), dI (n + 7), dS (n + 8), dS (n + 9), dS (n + 10), .d .bool (.v (n + 11)), .d lII (.v (n + 12)), dI (n + 13), dI (n + 14), dI (n + 15), dI (n + 16), dI (n + 17), dS (n + 18), dI (n + 19), dI (n + 20), dI (n + 21), dI (n + 22), .d lII (.v (n + 23)), .d (.lst [.str, .str, .str, .int .i64, .int .i64, .int .i64]) (.v (n + 24))]
end Go.Proofs.YtfhdgaecclfccaaGreat
