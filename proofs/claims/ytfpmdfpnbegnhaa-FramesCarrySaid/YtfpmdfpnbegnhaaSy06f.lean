/-
  Streams: more plain facts; words for the laws.
-/
import Derived.Test.YtfpmdfpnbegnhaaSy06e
set_option maxRecDepth 100000
set_option linter.unusedSimpArgs false
set_option linter.unusedVariables false
namespace Go.Proofs.Ytfpmdfpnbegnhaa
open Go.Proofs.Ytfpmdfpnbegnhaa.Sy Go.RowKit Go.WideShapes Go.ChangeShapes Go.ChangeAt

theorem fold_inB : ∀ (l : List Int) (cur : Option (List Int)) (out : List (List Int)), inB l → (∀ s, cur = some s → inB s) → (∀ p ∈ out, inB p) → (∀ s, (l.foldl scan1 (cur, out)).1 = some s → inB s) ∧ ∀ p ∈ (l.foldl scan1 (cur, out)).2, inB p
  | [], cur, out, _, h1, h2 => ⟨h1, h2⟩
  | c :: l, cur, out, hb, h1, h2 => by
    obtain ⟨hc, hl⟩ := hb.cons
    rw [List.foldl_cons]
    by_cases h : c = 192
    · have hs : inB [192] := fun x hx => by simp at hx; omega
      have e : scan1 (cur, out) c = (some [192], (scan1 (cur, out) c).2) := by simp [scan1, h]
      rw [e]
      refine fold_inB l (some [192]) _ hl (fun s e => by cases e; exact hs) ?_
      simp only [scan1, if_pos h]
      cases cur with
      | none => exact h2
      | some seg =>
        have hsg : inB (seg ++ [192]) := fun x hx => (List.mem_append.1 hx).elim (h1 seg rfl x) (hs x)
        cases hu : unpackS (seg ++ [192]) with
        | error e => simpa [hu] using h2
        | ok p =>
          simp only [hu]
          intro q hq
          rcases List.mem_append.1 hq with hq | hq
          · exact h2 q hq
          · simp at hq; subst hq; exact (pack_unpack hsg hu).2.2
    · rw [scan_none _ _ _ h]
      refine fold_inB l (cur.map (· ++ [c])) out hl (fun s e => ?_) h2
      cases cur with
      | none => cases e
      | some seg =>
        simp only [Option.map_some, Option.some.injEq] at e
        subst e
        exact fun x hx => (List.mem_append.1 hx).elim (h1 seg rfl x) (fun hx => by simp at hx; omega)
theorem feed_inB {s : List Int} (h : inB s) : inB (feedS s).1 ∧ ∀ p ∈ (feedS s).2, inB p := by
  obtain ⟨h1, h2⟩ := fold_inB s none [] h (fun s e => by cases e) (fun p hp => by cases hp)
  refine ⟨?_, h2⟩
  simp only [feedS]
  cases hc : (s.foldl scan1 (none, [])).1 with
  | none => intro x hx; cases hx
  | some seg =>
    simp only [restS]
    split
    · exact h1 seg hc
    · intro x hx; cases hx
theorem fold_cnt : ∀ (l : List Int) (cur : Option (List Int)) (out : List (List Int)), (l.foldl scan1 (cur, out)).2.length ≤ out.length + l.length
  | [], cur, out => by simp
  | c :: l, cur, out => by
    rw [List.foldl_cons]
    have := fold_cnt l (scan1 (cur, out) c).1 (scan1 (cur, out) c).2
    have h2 : (scan1 (cur, out) c).2.length ≤ out.length + 1 := by
      unfold scan1
      split
      · cases cur with
        | none => simp
        | some seg => simp only []; split <;> simp
      · simp
    simp only [List.length_cons]
    exact Nat.le_trans this (by omega)
theorem feed_cnt (s : List Int) : (feedS s).2.length ≤ s.length := by
  have := fold_cnt s none []
  simpa [feedS] using this
theorem typ_u8 {d : D} (h : Typ (.int .u8) d) : ∃ n, d = U8d n ∧ 0 ≤ n ∧ n ≤ 255 := by
  unfold Typ at h
  obtain ⟨n, rfl, h1, h2⟩ := h
  rw [min_u8] at h1
  rw [max_u8] at h2
  exact ⟨n, rfl, h1, h2⟩
theorem typ_u16 {d : D} (h : Typ (.int .u16) d) : ∃ n, d = .int .u16 n ∧ 0 ≤ n ∧ n ≤ 65535 := by
  unfold Typ at h
  obtain ⟨n, rfl, h1, h2⟩ := h
  rw [show IntKind.u16.min = 0 by decide] at h1
  rw [show IntKind.u16.max = 65535 by decide] at h2
  exact ⟨n, rfl, h1, h2⟩
theorem same_true {a : List Int} (h : inB a) : Fun Try.prog [] 17 [tY, tY] [bD a, bD a] [tB] (.ok [.bool true]) := by
  have := same_fn a a h h
  simpa using this
theorem sameall_true {a : List (List Int)} (h : ∀ x ∈ a, inB x) (hl : a.length ≤ 4294967296) : Fun Try.prog [] 22 [tYY, tYY] [bbD a, bbD a] [tB] (.ok [.bool true]) := by
  have := sameall_fn a a h h hl
  simpa using this
theorem at_rem {a : Int} {n : Nat} (h0 : 0 ≤ a) (h1 : a ≤ 65535) (hn : 0 < n) : (IntKind.wrap .i64 a).tmod (n : Int) = ((a.toNat % n : Nat) : Int) := by
  rw [wrap_i64 (by omega) (by omega), Int.tmod_eq_emod_of_nonneg h0]
  obtain ⟨m, rfl⟩ : ∃ m : Nat, a = m := ⟨a.toNat, by omega⟩
  rfl
theorem set_byte {b : List Int} {k : Nat} (hk : k < b.length) (hb : inB b) {y : Int} (h0 : 0 ≤ y) (h1 : y ≤ 255) :
    (b.map U8d).set k (D.int .u8 (arI .xor .u8 (b.getD k 0) y)) = (b.set k (xorI (b.getD k 0) y)).map U8d := by
  have hc := hb.get hk
  rw [xor8 hc.1 hc.2 h0 h1, ← set_map]
theorem pack_short {b : List Int} (h : b.length ≤ 4096) (hb : inB b) : Fun Try.prog [] 15 [tY] [bD b] [.r [.int .u8], tI] (.ok [bD (packS b), I64d 0]) := by
  have := pack_fn b hb (by omega)
  rwa [if_neg (by omega)] at this
theorem rpack_short {b : List Int} (h : b.length ≤ 4096) (hb : inB b) : Fun Try.prog [] 16 [tY] [bD b] [tY, tI] (.ok [bD (packS b), I64d 0]) := by
  have := rpack_fn b hb (by omega)
  rwa [if_neg (by omega)] at this
end Go.Proofs.Ytfpmdfpnbegnhaa
