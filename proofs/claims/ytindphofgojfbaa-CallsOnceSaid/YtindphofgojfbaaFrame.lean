/-
  The frame shared by the proofs of this seat: a law that returns true and leaves all old memory as it was meets its row.
-/
import Derived.Test.YtindphofgojfbaaRows
import Derived.WalkKit
import Derived.ProofKit
import Derived.OpenShut
import Derived.JoinedCond
import Derived.Lib.Hide
import Derived.Deep.RegionHeld3
import Derived.Test.YtindphofgojfbaaSyO3
namespace Go.Proofs.Ytindphofgojfbaa
open Go.RowKit Go.WideShapes Go.ChangeShapes

theorem laidOut : laidOutB Try.prog = true := by kernel_rfl
theorem own : ownKnob Try.prog.godebug = none := by kernel_rfl

/-- Cells and marks of old blocks read as before. -/
theorem bcell {W w1 : World} (hb : Below W.heap.size W w1) : (∀ b o, b < W.heap.size → w1.cell? ⟨b, o, none⟩ = W.cell? ⟨b, o, none⟩) ∧ (∀ b o, b < W.heap.size → w1.frozen? ⟨b, o, none⟩ = W.frozen? ⟨b, o, none⟩) :=
  ⟨fun b o h => hb.cell (p := ⟨b, o, none⟩) h, fun b o h => hb.frozen (p := ⟨b, o, none⟩) h⟩

/-- What a drawn region carries along: all cells of the blocks below B are as in W. -/
theorem s_keep {B : Nat} {W w1 w2 : World} (hB : B ≤ W.heap.size) (h : (∀ b o, b < B → w1.cell? ⟨b, o, none⟩ = W.cell? ⟨b, o, none⟩) ∧ Below B W w1) (hb : Below w1.heap.size w1 w2) :
    (∀ b o, b < B → w2.cell? ⟨b, o, none⟩ = W.cell? ⟨b, o, none⟩) ∧ Below B W w2 := by
  have h2 : Below B W w2 := h.2.trans (hb.mono (Nat.le_trans hB h.2.size))
  exact ⟨fun b o hlt => h2.cell (p := ⟨b, o, none⟩) hlt, h2⟩
theorem s_start {B : Nat} {W : World} : (∀ b o, b < B → W.drew.cell? ⟨b, o, none⟩ = W.cell? ⟨b, o, none⟩) ∧ Below B W W.drew :=
  ⟨fun _ _ _ => rfl, (Below.refl _ _).drew⟩
theorem s_drew {B : Nat} {W w1 : World} (h : (∀ b o, b < B → w1.cell? ⟨b, o, none⟩ = W.cell? ⟨b, o, none⟩) ∧ Below B W w1) : (∀ b o, b < B → w1.drew.cell? ⟨b, o, none⟩ = W.cell? ⟨b, o, none⟩) ∧ Below B W w1.drew :=
  ⟨h.1, h.2.drew⟩

theorem s_alloc {B : Nat} {W w1 : World} {o : Obj} (hB : B ≤ W.heap.size) (h : (∀ b o, b < B → w1.cell? ⟨b, o, none⟩ = W.cell? ⟨b, o, none⟩) ∧ Below B W w1) :
    (∀ b o', b < B → (w1.alloc o).cell? ⟨b, o', none⟩ = W.cell? ⟨b, o', none⟩) ∧ Below B W (w1.alloc o) := by
  have h2 : Below B W (w1.alloc o) := h.2.alloc (Nat.le_trans hB h.2.size) o
  exact ⟨fun b o' hlt => h2.cell (p := ⟨b, o', none⟩) hlt, h2⟩
theorem below_step {w W w1 : World} (hb : Below W.heap.size W w1) (h : Below w.heap.size w W) : Below w.heap.size w w1 := h.trans (hb.mono h.size)
theorem below_out {B : Nat} {w W w2 : World} (h : (∀ b o, b < B → w2.cell? ⟨b, o, none⟩ = W.cell? ⟨b, o, none⟩) ∧ Below B W w2) (hB : w.heap.size ≤ B) (h0 : Below w.heap.size w W) : Below w.heap.size w w2 := h0.trans (h.2.mono hB)

section
variable {H : Type} {enc : TypeId × Value → H} {P : Program}

/-- Readings of arguments stay, if below the old heap's end nothing has turned. -/
theorem trodAll_stays {W W' : World} (hl : laidOutB P = true) (hb : Below W.heap.size W W') :
    ∀ (ts : List TypeId) {vs : List Value} {ds : List (DataW H)} {ps : List MemPlace}, (ts.all fun t => P.readableRec t && decide (t < P.types.size)) = true →
      DataW.TrodAll enc P W 0 (fun _ => true) true ts vs ds ps → (∀ x ∈ ps, x.block < W.heap.size) → ∀ sp : Nat → Bool, (∀ p ∈ ps, sp p.block = true) →
      DataW.TrodAll enc P W' 0 sp true ts vs ds ps
  | [], vs, ds, ps, _, h, _, _, _ => by
    obtain ⟨rfl, rfl, rfl⟩ := trodAll_nil h
    exact trodAll_mk0
  | t :: ts, vs, ds, ps, hall, h, hlt, sp, hsp => by
    obtain ⟨v, vs', d, ds', p, q, rfl, rfl, rfl, h1, h2⟩ := trodAll_cons h
    simp only [List.all_cons, Bool.and_eq_true, decide_eq_true_eq] at hall
    obtain ⟨⟨hr, hrow⟩, hrest⟩ := hall
    exact trodAll_cons_mk
      (WideElems.Trod_stays hl hr hrow h1 (fun x hx => hb.same (hlt x (List.mem_append_left _ hx))) (fun x hx => hsp x (List.mem_append_left _ hx)))
      (trodAll_stays hl hb ts hrest h2 (fun x hx => hlt x (List.mem_append_right _ hx)) sp (fun x hx => hsp x (List.mem_append_right _ hx)))

/-- THE ROW's LAST STEP: the law has returned true, and nothing that was there has turned. -/
theorem law_post {f : Func} {s : ChangeSpec} {apart fresh handsOn again : Bool} {W W' : World} {args : Array Value} {ds gs : List (DataW H)} {before : List MemPlace} {tb : TypeId}
    (hl : laidOutB P = true) (hvars : s.vars = []) (hpar : (f.params.toList.all fun t => P.readableRec t && decide (t < P.types.size)) = true)
    (hres : f.resultTypes = #[tb]) (htb : P.underlying tb = some .bool)
    (hW : DataW.Whole enc P f.params.toList s.vars apart W args.toList ds gs before)
    (hfn : s.fn H ds = { results := [.lit (.bool true)], args := ds })
    (hb : Below W.heap.size W W') :
    s.post enc P f apart fresh handsOn again W args (.bool true) W' := by
  have hW0 := hW
  obtain ⟨p, q, hA, hV, hbef, hfz, hnd⟩ := hW
  rw [hvars] at hV
  obtain ⟨rfl, rfl⟩ := trodVars_none hV
  rw [List.append_nil] at hbef
  subst hbef
  have hlt : ∀ x ∈ before, x.block < W.heap.size := fun x hx => hW0.lt x hx
  have hfn' : s.fn H (ds ++ []) = { results := [.lit (.bool true)], args := ds } := by rw [List.append_nil]; exact hfn
  have hargs : ∀ sp : Nat → Bool, (∀ p ∈ before, sp p.block = true) → DataW.TrodAll enc P W' 0 sp true f.params.toList args.toList ds before := fun sp hsp => trodAll_stays hl hb _ hpar hA hlt sp hsp
  have hold : ∀ p ∈ before, (fun b => decide (b < W.heap.size)) p.block = true := fun p hp => by simpa using hlt p hp
  have hrt : f.resultTypes.toList = [tb] := by rw [hres]
  have hrs : f.resultTypes.size = 1 := by rw [hres]; rfl
  have hRes : ∀ (b : Nat) (sp : Nat → Bool) (hd : Bool), DataW.TrodAll enc P W' b sp hd f.resultTypes.toList ((Value.bool true).resultList f.resultTypes.size) [.lit (.bool true)] [] := fun b sp hd => by
    rw [hrt, hrs]; exact trodAll_mk1 (shut_bool htb true)
  refine ⟨ds, [], before, [], before, [], hW0, by rw [hfn']; exact hRes _ _ _, by rw [hfn']; exact hargs _ hold, by rw [hfn', hvars]; rfl, World.keptBut_mono (fun p hp => ⟨hp, Or.inr (Or.inl hp)⟩) (hb.frame (· ∈ before)), fun _ => ?_⟩
  refine ⟨?_, ?_⟩
  · rw [hres]; exact ok_one (f := { f with resultTypes := #[tb] }) rfl rfl (okWide_bool_mk htb true)
  · refine ⟨[.lit (.bool true)] ++ ds, [], [] ++ before, ⟨[] ++ before, [], trodAll_append (hargs _ (fun _ _ => rfl)) (hRes _ _ _), by rw [hvars]; rfl, by simp, ?_, ?_⟩, ?_⟩
    · intro b off hp
      have hin : MemPlace.cell b off ∈ before := by simpa using hp
      rw [hb.frozen (hlt _ hin)]
      exact hfz b off hin
    · intro ha
      have := hnd ha
      simpa using this
    · intro p hp _
      simpa using hp
end
end Go.Proofs.Ytindphofgojfbaa
set_option linter.unusedSimpArgs false
set_option linter.unusedVariables false
namespace Go.Proofs.Ytindphofgojfbaa
open Go.Proofs.Ytindphofgojfbaa.Sy
abbrev bD (l : List Int) : D := .lst (l.map U8d)
abbrev bbD (l : List (List Int)) : D := .lst (l.map bD)
abbrev tYY : TS := .c (.lst [.lst [.int .u8]])
theorem get_U {l : List Int} {i : Nat} (h : i < l.length) : (l.map U8d).getD i default = U8d (l.getD i 0) := by simp [List.getD_eq_getElem?_getD, h]
theorem get_B {l : List (List Int)} {i : Nat} (h : i < l.length) : (l.map bD).getD i default = bD (l.getD i []) := by simp [List.getD_eq_getElem?_getD, h]
theorem drop_get {α : Type} (d : α) {l : List α} {i : Nat} (h : i < l.length) : l.drop i = l.getD i d :: l.drop (i + 1) := by
  rw [List.drop_eq_getElem_cons h]; simp [List.getD_eq_getElem?_getD, h]
theorem take_get {α : Type} (d : α) {l : List α} {i : Nat} (h : i < l.length) : l.take (i + 1) = l.take i ++ [l.getD i d] := by
  rw [List.take_succ_eq_append_getElem h]; simp [List.getD_eq_getElem?_getD, h]
theorem shI_shl (k : IntKind) (x y : Int) : shI .shl k x y = k.wrap (x * 2 ^ (min y.toNat k.bits)) := rfl
theorem shI_shr (k : IntKind) (x y : Int) : shI .shr k x y = x.fdiv (2 ^ (min y.toNat k.bits)) := rfl
theorem wrap_u8 {n : Int} (h0 : 0 ≤ n) (h1 : n ≤ 255) : IntKind.wrap .u8 n = n := by
  simp [IntKind.wrap, IntKind.bits, IntKind.signed]; omega
theorem wrap_u64 {n : Int} (h0 : 0 ≤ n) (h1 : n ≤ 18446744073709551615) : IntKind.wrap .u64 n = n := by
  simp [IntKind.wrap, IntKind.bits, IntKind.signed]; omega
theorem wrap_u64_mod (n : Int) : IntKind.wrap .u64 n = n % 18446744073709551616 := by simp [IntKind.wrap, IntKind.bits, IntKind.signed]
theorem bv_toNat {n : Nat} {x : Int} (h0 : 0 ≤ x) (h1 : x < 2 ^ n) : (BitVec.ofInt n x).toNat = x.toNat := by
  rw [BitVec.toNat_ofInt, Int.emod_eq_of_lt h0 (by simpa [Int.natCast_pow] using h1)]
end Go.Proofs.Ytindphofgojfbaa
set_option linter.unusedSimpArgs false
set_option linter.unusedVariables false
namespace Go.Proofs.Ytindphofgojfbaa
open Go.Proofs.Ytindphofgojfbaa.Sy
theorem dE :
    (∀ x y : Int, cmpB .eql x y = (x == y)) ∧ (∀ x y : Int, cmpB .neq x y = (x != y)) ∧ (∀ x y : Int, cmpB .lss x y = decide (x < y)) ∧ (∀ x y : Int, cmpB .leq x y = decide (x ≤ y)) ∧
    (∀ x y : Int, cmpB .gtr x y = decide (x > y)) ∧ (∀ x y : Int, cmpB .geq x y = decide (x ≥ y)) ∧
    (∀ (k : IntKind) (x y : Int), arI .add k x y = k.wrap (x + y)) ∧ (∀ (k : IntKind) (x y : Int), arI .sub k x y = k.wrap (x - y)) ∧ (∀ (k : IntKind) (x y : Int), arI .mul k x y = k.wrap (x * y)) ∧
    (∀ (k : IntKind) (x y : Int), arI .quo k x y = k.wrap (x.tdiv y)) ∧ (∀ (k : IntKind) (x y : Int), arI .rem k x y = x.tmod y) ∧
    (∀ {α β : Type} {f : α → β} {a : α} {l : List α}, (a :: l).map f = f a :: l.map f) ∧ (∀ {α β : Type} {f : α → β}, ([] : List α).map f = []) ∧
    (∀ {α : Type} {x d : α} {l : List α}, (x :: l).getD 0 d = x) ∧ (∀ {α : Type} {x d : α} {l : List α} {n : Nat}, (x :: l).getD (n + 1) d = l.getD n d) ∧
    (∀ {α : Type} {a : α} {l m : List α}, a :: l ++ m = a :: (l ++ m)) ∧ (∀ {α : Type} (l : List α), [] ++ l = l) ∧ (∀ {α : Type} (l : List α), l ++ [] = l) ∧
    (∀ {α β : Type} (l : List α) (f : α → β), (l.map f).length = l.length) ∧ (∀ {α : Type} (l m : List α), (l ++ m).length = l.length + m.length) ∧ (∀ {α : Type} (a : α) (l : List α), (a :: l).length = l.length + 1) ∧ (∀ {α : Type}, ([] : List α).length = 0) ∧
    (∀ {p : Prop} [Decidable p], (decide p = true) = p) ∧ (∀ {p : Prop} [Decidable p], (decide p = false) ↔ ¬ p) ∧
    (∀ {α : Type} [BEq α] [LawfulBEq α] {a b : α}, a == b ↔ a = b) ∧ (∀ {α : Type} [BEq α] [LawfulBEq α] {a b : α}, (a == b) = false ↔ a ≠ b) ∧ (∀ {α : Type} [BEq α] [LawfulBEq α] {a b : α}, a != b ↔ a ≠ b) ∧ (∀ {α : Type} [BEq α] [LawfulBEq α] {a b : α}, (a != b) = false ↔ a = b) ∧
    (∀ {α : Type} (a b : α), (a ≠ b) = ¬ (a = b)) ∧ (∀ n : Nat, ((n : Int)).toNat = n) ∧ (∀ x y : Int, (x > y) ↔ (y < x)) ∧ (∀ x y : Int, (x ≥ y) ↔ (y ≤ x)) ∧ (∀ {a b : Int}, ¬ (a < b) ↔ b ≤ a) ∧ (∀ {a b : Int}, ¬ (a ≤ b) ↔ b < a) ∧
    (∀ b : Bool, (¬ (b = true)) = (b = false)) ∧ (∀ b : Bool, (¬ (b = false)) = (b = true)) ∧ (∀ a b : Bool, ((a && b) = true) = (a = true ∧ b = true)) ∧ ((true = false) = False) ∧ ((false = true) = False) ∧
    (∀ {a b : Bool}, ((!a) = b) ↔ (a = !b)) ∧ ((!true) = false) ∧ ((!false) = true) :=
  ⟨fun _ _ => rfl, fun _ _ => rfl, fun _ _ => rfl, fun _ _ => rfl, fun _ _ => rfl, fun _ _ => rfl, fun _ _ _ => rfl, fun _ _ _ => rfl, fun _ _ _ => rfl, fun _ _ _ => rfl, fun _ _ _ => rfl,
    List.map_cons, List.map_nil, List.getD_cons_zero, List.getD_cons_succ, List.cons_append, List.nil_append, List.append_nil, fun _ _ => List.length_map _, fun _ _ => List.length_append, fun _ _ => List.length_cons, List.length_nil,
    decide_eq_true_eq, decide_eq_false_iff_not, beq_iff_eq, beq_eq_false_iff_ne, bne_iff_ne, bne_eq_false_iff_eq, ne_eq, Int.toNat_natCast, fun _ _ => gt_iff_lt, fun _ _ => ge_iff_le, Int.not_lt, Int.not_le,
    Bool.not_eq_true, Bool.not_eq_false, Bool.and_eq_true, Bool.true_eq_false, Bool.false_eq_true, Bool.not_eq_eq_eq_not, Bool.not_true, Bool.not_false⟩
/-- What the expressions mean, as rules, in one fact. -/
theorem dF :
    (∀ (ρ : List D) (n : Nat), (E.v n).den ρ = ρ.getD n default) ∧
    (∀ (ρ : List D) (k : IntKind) (n : Int), (E.ki k n).den ρ = .int k n) ∧
    (∀ (ρ : List D) (b : Bool), (E.kb b).den ρ = .bool b) ∧
    (∀ (ρ : List D) (s : ByteArray), (E.ks s).den ρ = .str s) ∧
    (∀ (ρ : List D) (op : BinOp) (k : IntKind) (a : E) (b : E), (E.ar op k a b).den ρ = .int k (arI op k (a.den ρ).toI (b.den ρ).toI)) ∧
    (∀ (ρ : List D) (op : BinOp) (k : IntKind) (a : E) (b : E), (E.shf op k a b).den ρ = .int k (shI op k (a.den ρ).toI (b.den ρ).toI)) ∧
    (∀ (ρ : List D) (op : BinOp) (a : E) (b : E), (E.cmp op a b).den ρ = .bool (cmpB op (a.den ρ).toI (b.den ρ).toI)) ∧
    (∀ (ρ : List D) (a : E) (b : E), (E.beq a b).den ρ = .bool ((a.den ρ).toB == (b.den ρ).toB)) ∧
    (∀ (ρ : List D) (a : E), (E.not a).den ρ = .bool (!(a.den ρ).toB)) ∧
    (∀ (ρ : List D) (a : E) (b : E), (E.and a b).den ρ = .bool ((a.den ρ).toB && (b.den ρ).toB)) ∧
    (∀ (ρ : List D) (k : IntKind) (a : E), (E.neg k a).den ρ = .int k (k.wrap (0 - (a.den ρ).toI))) ∧
    (∀ (ρ : List D) (k : IntKind) (a : E), (E.inv k a).den ρ = .int k (arI .xor k (if k.signed then -1 else k.max) (a.den ρ).toI)) ∧
    (∀ (ρ : List D) (k : IntKind) (a : E), (E.conv k a).den ρ = .int k (k.wrap (a.den ρ).toI)) ∧
    (∀ (ρ : List D) (k : IntKind) (a : E) (b : E), (E.mn k a b).den ρ = .int k (if (b.den ρ).toI < (a.den ρ).toI then (b.den ρ).toI else (a.den ρ).toI)) ∧
    (∀ (ρ : List D) (k : IntKind) (a : E) (b : E), (E.mx k a b).den ρ = .int k (if (b.den ρ).toI > (a.den ρ).toI then (b.den ρ).toI else (a.den ρ).toI)) ∧
    (∀ (ρ : List D) (a : E), (E.len a).den ρ = .int .i64 (a.den ρ).len) ∧
    (∀ (ρ : List D), E.nil.den ρ = .lst []) ∧
    (∀ (ρ : List D) (x : E) (l : E), (E.cons x l).den ρ = .lst (x.den ρ :: (l.den ρ).toL)) ∧
    (∀ (ρ : List D) (l : E), (E.rc l).den ρ = .rc (l.den ρ).toL) ∧
    (∀ (ρ : List D) (l : E) (i : E), (E.get l i).den ρ = ((l.den ρ).toL).getD (i.den ρ).toI.toNat default) ∧
    (∀ (ρ : List D) (x : E) (j : Nat), (E.cell x j).den ρ = ((x.den ρ).toL).getD j default) ∧
    (∀ (ρ : List D) (l : E) (lo : E) (hi : E), (E.sub l lo hi).den ρ = .lst ((((l.den ρ).toL).take (hi.den ρ).toI.toNat).drop (lo.den ρ).toI.toNat)) ∧
    (∀ (ρ : List D) (a : E) (b : E), (E.app a b).den ρ = .lst ((a.den ρ).toL ++ (b.den ρ).toL)) ∧
    (∀ (ρ : List D) (l : E) (i : E) (x : E), (E.set l i x).den ρ = (l.den ρ).mapL fun l => l.set (i.den ρ).toI.toNat (x.den ρ)) ∧
    (∀ (ρ : List D) (l : E) (i : E) (j : Nat) (x : E), (E.setc l i j x).den ρ = (l.den ρ).mapL fun l => l.modify (i.den ρ).toI.toNat (D.setc j (x.den ρ))) ∧
    (∀ (ρ : List D) (n : E) (x : E), (E.rep n x).den ρ = .lst (List.replicate (n.den ρ).toI.toNat (x.den ρ))) ∧
    (∀ (ρ : List D) (a : E) (b : E), (E.cpy a b).den ρ = (a.den ρ).mapL fun l => (b.den ρ).toL.take l.length ++ l.drop (b.den ρ).toL.length) ∧
    (∀ (ρ : List D) (a : E) (b : E), (E.seq a b).den ρ = .bool ((a.den ρ).toS.toList == (b.den ρ).toS.toList)) ∧
    (∀ (ρ : List D) (a : E) (b : E), (E.slt a b).den ρ = .bool (Op.bytesLess (a.den ρ).toS.toList (b.den ρ).toS.toList)) ∧
    (∀ (ρ : List D) (s : E) (i : E), (E.sidx s i).den ρ = .int .u8 (((s.den ρ).toS.data.toList).getD (i.den ρ).toI.toNat 0).toNat) ∧
    (∀ (ρ : List D) (s : E) (lo : E) (hi : E), (E.ssub s lo hi).den ρ = .str ((s.den ρ).toS.extract (lo.den ρ).toI.toNat (hi.den ρ).toI.toNat)) ∧
    (∀ (ρ : List D) (a : E) (b : E), (E.scat a b).den ρ = .str ((a.den ρ).toS ++ (b.den ρ).toS)) ∧
    (∀ (ρ : List D) (s : E), (E.s2b s).den ρ = .lst (bytesD (s.den ρ).toS)) ∧
    (∀ (ρ : List D) (l : E), (E.b2s l).den ρ = .str (strD (l.den ρ).toL)) ∧
    (∀ (k : IntKind) (n : Int), (D.int k n).toI = n) ∧
    (∀ (b : Bool), (D.bool b).toB = b) ∧
    (∀ (s : ByteArray), (D.str s).toS = s) ∧
    (∀ (l : List D), (D.lst l).toL = l) ∧
    (∀ (l : List D), (D.rc l).toL = l) ∧
    (∀ (f : List D → List D) (l : List D), (D.lst l).mapL f = .lst (f l)) ∧
    (∀ (l : List D), (D.lst l).len = (l.length : Int)) ∧
    (∀ (s : ByteArray), (D.str s).len = (s.size : Int)) ∧
    (∀ (s : Sh) (ts : List TS) (d : D) (ds : List D), flatD (.c s :: ts) (d :: ds) = d :: flatD ts ds) ∧
    (∀ (s : List Sh) (ts : List TS) (d : D) (ds : List D), flatD (.r s :: ts) (d :: ds) = d :: flatD ts ds) ∧
    (∀ (s : List Sh) (ts : List TS) (d ds : List D), flatD (.g s :: ts) (.rc d :: ds) = d ++ flatD ts ds) ∧
    (∀ (s : List CK) (ts : List TS) (d ds : List D), flatD (.h s :: ts) (.rc d :: ds) = d ++ flatD ts ds) ∧
    (∀ (s : List CK) (ts : List TS) (d ds : List D), flatD (.p s :: ts) (.rc d :: ds) = d ++ flatD ts ds) ∧
    (∀ (ds : List D), flatD [] ds = []) :=
  ⟨fun _ _ => rfl,
  fun _ _ _ => rfl,
  fun _ _ => rfl,
  fun _ _ => rfl,
  fun _ _ _ _ _ => rfl,
  fun _ _ _ _ _ => rfl,
  fun _ _ _ _ => rfl,
  fun _ _ _ => rfl,
  fun _ _ => rfl,
  fun _ _ _ => rfl,
  fun _ _ _ => rfl,
  fun _ _ _ => rfl,
  fun _ _ _ => rfl,
  fun _ _ _ _ => rfl,
  fun _ _ _ _ => rfl,
  fun _ _ => rfl,
  fun _ => rfl,
  fun _ _ _ => rfl,
  fun _ _ => rfl,
  fun _ _ _ => rfl,
  fun _ _ _ => rfl,
  fun _ _ _ _ => rfl,
  fun _ _ _ => rfl,
  fun _ _ _ _ => rfl,
  fun _ _ _ _ _ => rfl,
  fun _ _ _ => rfl,
  fun _ _ _ => rfl,
  fun _ _ _ => rfl,
  fun _ _ _ => rfl,
  fun _ _ _ => rfl,
  fun _ _ _ _ => rfl,
  fun _ _ _ => rfl,
  fun _ _ => rfl,
  fun _ _ => rfl,
  fun _ _ => rfl,
  fun _ => rfl,
  fun _ => rfl,
  fun _ => rfl,
  fun _ => rfl,
  fun _ _ => rfl,
  fun _ => rfl,
  fun _ => rfl,
  fun _ _ _ _ => rfl,
  fun _ _ _ _ => rfl,
  fun _ _ _ _ => rfl,
  fun _ _ _ _ => rfl,
  fun _ _ _ _ => rfl,
  fun _ => rfl⟩

end Go.Proofs.Ytindphofgojfbaa
