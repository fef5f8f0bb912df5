/-
  Words for bytes: data, and what the conditions' operations are on numbers. No program, no conditions.
-/
import Derived.Test.YtighdhddeidmcaaSyO3
set_option linter.unusedSimpArgs false
set_option linter.unusedVariables false
namespace Go.Proofs.Ytighdhddeidmcaa
open Go.Proofs.Ytighdhddeidmcaa.Sy
abbrev bD (l : List Int) : D := .lst (l.map U8d)
abbrev bbD (l : List (List Int)) : D := .lst (l.map bD)
abbrev tYY : TS := .c (.lst [.lst [.int .u8]])
theorem get_U {l : List Int} {i : Nat} (h : i < l.length) : (l.map U8d).getD i default = U8d (l.getD i 0) := by simp [List.getD_eq_getElem?_getD, h]
theorem get_B {l : List (List Int)} {i : Nat} (h : i < l.length) : (l.map bD).getD i default = bD (l.getD i []) := by simp [List.getD_eq_getElem?_getD, h]
theorem drop_get {α : Type} (d : α) {l : List α} {i : Nat} (h : i < l.length) : l.drop i = l.getD i d :: l.drop (i + 1) := by
  rw [List.drop_eq_getElem_cons h]; simp [List.getD_eq_getElem?_getD, h]
theorem take_get {α : Type} (d : α) {l : List α} {i : Nat} (h : i < l.length) : l.take (i + 1) = l.take i ++ [l.getD i d] := by
  rw [List.take_succ_eq_append_getElem h]; simp [List.getD_eq_getElem?_getD, h]
theorem arI_add (k : IntKind) (x y : Int) : arI .add k x y = k.wrap (x + y) := rfl
theorem arI_sub (k : IntKind) (x y : Int) : arI .sub k x y = k.wrap (x - y) := rfl
theorem arI_mul (k : IntKind) (x y : Int) : arI .mul k x y = k.wrap (x * y) := rfl
theorem arI_quo (k : IntKind) (x y : Int) : arI .quo k x y = k.wrap (x.tdiv y) := rfl
theorem arI_rem (k : IntKind) (x y : Int) : arI .rem k x y = x.tmod y := rfl
theorem shI_shl (k : IntKind) (x y : Int) : shI .shl k x y = k.wrap (x * 2 ^ (min y.toNat k.bits)) := rfl
theorem shI_shr (k : IntKind) (x y : Int) : shI .shr k x y = x.fdiv (2 ^ (min y.toNat k.bits)) := rfl
theorem cmpB_eql (x y : Int) : cmpB .eql x y = (x == y) := rfl
theorem cmpB_neq (x y : Int) : cmpB .neq x y = (x != y) := rfl
theorem cmpB_lss (x y : Int) : cmpB .lss x y = decide (x < y) := rfl
theorem cmpB_leq (x y : Int) : cmpB .leq x y = decide (x ≤ y) := rfl
theorem cmpB_gtr (x y : Int) : cmpB .gtr x y = decide (x > y) := rfl
theorem cmpB_geq (x y : Int) : cmpB .geq x y = decide (x ≥ y) := rfl
theorem wrap_u8 {n : Int} (h0 : 0 ≤ n) (h1 : n ≤ 255) : IntKind.wrap .u8 n = n := by
  simp [IntKind.wrap, IntKind.bits, IntKind.signed]; omega
theorem wrap_u8_mod (n : Int) : IntKind.wrap .u8 n = n % 256 := by simp [IntKind.wrap, IntKind.bits, IntKind.signed]
theorem wrap_u16 {n : Int} (h0 : 0 ≤ n) (h1 : n ≤ 65535) : IntKind.wrap .u16 n = n := by
  simp [IntKind.wrap, IntKind.bits, IntKind.signed]; omega
theorem wrap_u16_mod (n : Int) : IntKind.wrap .u16 n = n % 65536 := by simp [IntKind.wrap, IntKind.bits, IntKind.signed]
theorem wrap_u64 {n : Int} (h0 : 0 ≤ n) (h1 : n ≤ 18446744073709551615) : IntKind.wrap .u64 n = n := by
  simp [IntKind.wrap, IntKind.bits, IntKind.signed]; omega
theorem wrap_u64_mod (n : Int) : IntKind.wrap .u64 n = n % 18446744073709551616 := by simp [IntKind.wrap, IntKind.bits, IntKind.signed]
theorem bv_toNat {n : Nat} {x : Int} (h0 : 0 ≤ x) (h1 : x < 2 ^ n) : (BitVec.ofInt n x).toNat = x.toNat := by
  rw [BitVec.toNat_ofInt, Int.emod_eq_of_lt h0 (by simpa [Int.natCast_pow] using h1)]
theorem typ_bytes {d : D} (h : Typ (.lst [.int .u8]) d) : ∃ l : List Int, d = bD l ∧ l.length ≤ maxLen ∧ ∀ n ∈ l, 0 ≤ n ∧ n ≤ 255 := by
  unfold Typ at h
  obtain ⟨l, rfl, hl, hx⟩ := h
  obtain ⟨L, rfl, hL⟩ := list_read (g := U8d) (q := fun n => 0 ≤ n ∧ n ≤ 255) (p := fun d => Typ (.int .u8) d) (fun d hd => by
    unfold Typ at hd
    obtain ⟨n, rfl, h1, h2⟩ := hd
    rw [min_u8] at h1
    rw [max_u8] at h2
    exact ⟨n, rfl, h1, h2⟩) l (fun x hm => by
    have := hx x hm
    rw [D.cells_one rfl] at this
    unfold Typs at this
    obtain ⟨d, ds, h1, h2, _⟩ := this
    cases h1
    exact h2)
  exact ⟨L, rfl, by simpa using hl, hL⟩
theorem typ_byteses {d : D} (h : Typ (.lst [.lst [.int .u8]]) d) : ∃ l : List (List Int), d = bbD l ∧ l.length ≤ maxLen ∧ ∀ b ∈ l, b.length ≤ maxLen ∧ ∀ n ∈ b, 0 ≤ n ∧ n ≤ 255 := by
  unfold Typ at h
  obtain ⟨l, rfl, hl, hx⟩ := h
  obtain ⟨L, rfl, hL⟩ := list_read (g := bD) (q := fun b => b.length ≤ maxLen ∧ ∀ n ∈ b, 0 ≤ n ∧ n ≤ 255) (p := fun d => Typ (.lst [.int .u8]) d) (fun d hd => typ_bytes hd) l (fun x hm => by
    have := hx x hm
    rw [D.cells_one rfl] at this
    unfold Typs at this
    obtain ⟨d, ds, h1, h2, _⟩ := this
    cases h1
    exact h2)
  exact ⟨L, rfl, by simpa using hl, hL⟩
theorem u8_inj {a b : List Int} (h : a.map U8d = b.map U8d) : a = b := by
  induction a generalizing b with
  | nil => cases b with
    | nil => rfl
    | cons y b => simp at h
  | cons x a ih => cases b with
    | nil => simp at h
    | cons y b =>
      simp only [List.map_cons, List.cons.injEq, D.int.injEq, true_and] at h
      rw [h.1, ih h.2]
theorem strD_eq {a b : List Int} (ha : ∀ x ∈ a, 0 ≤ x ∧ x ≤ 255) (hb : ∀ x ∈ b, 0 ≤ x ∧ x ≤ 255) : ((strD (a.map U8d)).toList == (strD (b.map U8d)).toList) = decide (a = b) := by
  have key : ∀ {a b : List Int}, (∀ x ∈ a, 0 ≤ x ∧ x ≤ 255) → (∀ x ∈ b, 0 ≤ x ∧ x ≤ 255) → a.map (fun n => UInt8.ofNat n.toNat) = b.map (fun n => UInt8.ofNat n.toNat) → a = b := by
    intro a
    induction a with
    | nil => intro b _ _ h; cases b with
      | nil => rfl
      | cons y b => simp at h
    | cons x a ih => intro b ha hb h; cases b with
      | nil => simp at h
      | cons y b =>
        simp only [List.map_cons, List.cons.injEq] at h
        have hx := ha x (by simp)
        have hy := hb y (by simp)
        have e := congrArg UInt8.toNat h.1
        simp [UInt8.toNat_ofNat] at e
        rw [ih (fun z hz => ha z (by simp [hz])) (fun z hz => hb z (by simp [hz])) h.2, show x = y by omega]
  have e1 : ∀ l : List Int, (strD (l.map U8d)).toList = l.map fun n => UInt8.ofNat n.toNat := by
    intro l
    rw [ByteArray.toList_eq]
    simp [strD, D.toI]
  rw [e1, e1]
  by_cases h : a = b
  · subst h; simp
  · simp only [h, decide_false, beq_eq_false_iff_ne, ne_eq]
    exact fun he => h (key ha hb he)
/-- The room of a row (by this lemma where a length begins with a literal: to reckon with it by unfolding is deep). -/
theorem ob_leq {ρ : List D} {a : E} {xs : List D} (h : a.den ρ = .lst xs) (hl : xs.length ≤ 4294967296) : ((E.cmp .leq (.len a) (.ki .i64 4294967296)).den ρ).toB = true := by
  have e : (E.cmp .leq (.len a) (.ki .i64 4294967296)).den ρ = .bool (decide ((xs.length : Int) ≤ 4294967296)) := by
    simp only [E.den, h, D.len, D.toI, cmpB_leq]
  rw [e]
  simp only [D.toB, decide_eq_true_eq]
  omega
end Go.Proofs.Ytighdhddeidmcaa
