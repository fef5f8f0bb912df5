/-
  Layer 7: the example; words for the laws.
-/
import Derived.Test.YtmdjbmpongggnaaSy07f
set_option maxRecDepth 100000
set_option linter.unusedSimpArgs false
set_option linter.unusedVariables false
namespace Go.Proofs.Ytmdjbmpongggnaa
open Go.Proofs.Ytmdjbmpongggnaa.Sy Go.RowKit Go.WideShapes Go.ChangeShapes Go.ChangeAt

theorem len_max {n : Nat} (h : n ≤ maxLen) : n ≤ 9223372036854775807 := by unfold maxLen at h; omega
theorem typ_fields {d : D} (h : Typ (.lst [.int .i64, .lst [.int .u8]]) d) : ∃ l : List Fld, d = fsD l ∧ l.length ≤ maxLen ∧ ∀ x ∈ l, in64 x.1 ∧ isB x.2 ∧ x.2.length ≤ maxLen := by
  unfold Typ at h
  obtain ⟨l, rfl, hl, hx⟩ := h
  obtain ⟨L, rfl, hL⟩ := list_read (g := fD) (q := fun x => in64 x.1 ∧ isB x.2 ∧ x.2.length ≤ maxLen) (p := fun x => Typs [.int .i64, .lst [.int .u8]] (x.cells [.int .i64, .lst [.int .u8]])) (fun x hx => by
    unfold Typs at hx
    obtain ⟨d1, ds, e1, h1, hx⟩ := hx
    unfold Typs at hx
    obtain ⟨d2, ds2, e2, h2, hx⟩ := hx
    unfold Typs at hx
    subst hx e2
    obtain ⟨b, rfl, hbl, hb⟩ := typ_bytes h2
    unfold Typ at h1
    obtain ⟨n, rfl, n1, n2⟩ := h1
    cases x with
    | rc ds =>
      simp only [D.cells] at e1
      rw [if_neg (by decide)] at e1
      subst e1
      exact ⟨(n, b), rfl, ⟨n1, n2⟩, hb, hbl⟩
    | _ => simp [D.cells] at e1) l hx
  exact ⟨L, rfl, by simpa using hl, hL⟩
theorem fun_as {P : Program} {G : Globs} {f : FuncId} {ts us : List TS} {ds rs rs' : List D} (h : Fun P G f ts ds us (.ok rs)) (e : rs = rs') : Fun P G f ts ds us (.ok rs') := e ▸ h
theorem same_true {a : List Int} (h : isB a) : Fun Try.prog [] 14 [tY, tY] [bD a, bD a] [tB] (.ok [.bool true]) := by
  have := same_fn a a h h
  simpa using this
theorem samef_true {a : List Fld} (h : ∀ x ∈ a, isB x.2) (hl : a.length ≤ 4294967296) : Fun Try.prog [] 24 [tF, tF] [fsD a, fsD a] [tB] (.ok [.bool true]) := by
  have := samef_fn a a h h hl
  simpa using this
theorem samel_true {a : List (List Int)} (h : ∀ x ∈ a, isB x) (hl : a.length ≤ 4294967296) : Fun Try.prog [] 31 [tYY, tYY] [bbD a, bbD a] [tB] (.ok [.bool true]) := by
  have := samel_fn a a h h hl
  simpa using this
theorem putG_isB : ∀ (l : List Fld) (before : Int) (b : List Int), (∀ x ∈ l, isB x.2) → (∀ x ∈ l, x.2.length ≤ 1000000) → putG before l = .ok b → isB b ∧ b.length ≤ l.length * 1000020
  | [], before, b, _, _, h => by cases h; exact ⟨isB.nil, by simp⟩
  | (t, d) :: l, before, b, hb, hs, h => by
    simp only [putG] at h
    split at h
    · cases h
    · split at h
      · cases h
      · rename_i h1 h2
        cases hp : putG t l with
        | error e => rw [hp] at h; cases h
        | ok b2 =>
          rw [hp] at h
          simp only [consA, Except.ok.injEq] at h
          subst h
          obtain ⟨g1, g2⟩ := putG_isB l t b2 (fun x hx => hb x (by simp [hx])) (fun x hx => hs x (by simp [hx])) hp
          have hd := hs (t, d) (by simp)
          simp only [] at hd
          have e1 := putS_len t
          have e2 := putS_len d.length
          refine ⟨((putS_isB (by unfold in64; omega)).join ((putS_isB (by unfold in64; omega)).join (hb (t, d) (by simp)))).join g1, ?_⟩
          have hpd : (putD d).length = (putS d.length).length + d.length := by unfold putD; rw [List.length_append]
          simp only [List.length_append, List.length_cons, hpd]
          omega
theorem putF_isB {l : List Fld} {b : List Int} (hb : ∀ x ∈ l, isB x.2) (hs : ∀ x ∈ l, x.2.length ≤ 1000000) (h : putF l = .ok b) : isB b ∧ b.length ≤ 256005120 ∧ putG 0 l = .ok b ∧ l.length ≤ 256 := by
  unfold putF at h
  split at h
  · cases h
  · obtain ⟨h1, h2⟩ := putG_isB l 0 b hb hs h
    exact ⟨h1, by omega, h, by omega⟩
theorem flat_isB {l : List (List Int)} (hb : ∀ x ∈ l, isB x) (hs : ∀ x ∈ l, x.length ≤ 1000000) : isB (l.flatMap putD) := by
  intro x hx
  obtain ⟨d, hd, hx⟩ := List.mem_flatMap.1 hx
  have := hs d hd
  exact ((putS_isB (n := d.length) (by unfold in64; omega)).join (hb d hd)) x hx
theorem putListS_isB {l : List (List Int)} {b : List Int} (hb : ∀ x ∈ l, isB x) (hs : ∀ x ∈ l, x.length ≤ 1000000) (h : putListS l = .ok b) : isB b ∧ b.length ≤ 256002570 ∧ b = putL l ∧ l.length ≤ 256 := by
  unfold putListS at h
  split at h
  · cases h
  · cases h
    have h1 := flat_len hs (Nat.le_refl l.length)
    rw [List.take_length] at h1
    have e := putS_len l.length
    refine ⟨(putS_isB (n := l.length) (by unfold in64; omega)).join (flat_isB hb hs), ?_, rfl, by omega⟩
    unfold putL
    rw [List.length_append]
    omega
theorem ex_fn : Fun Try.prog [] 16 [] [] [tB] (.ok [.bool true]) := by
  refine ex_ent _ _ ?_
  show vcex.den _ _ _ _ _
  unfold vcex
  have hB : ∀ l : List Int, (l.all fun x => decide (0 ≤ x) && decide (x ≤ 255)) = true → isB l := fun l h x hx => by
    have := List.all_eq_true.1 h x hx
    simpa using this
  have hs : ∀ x ∈ ([(1, [97, 98]), (3, [])] : List Fld), x.2.length ≤ 1000000 := by simp
  have hf : ∀ x ∈ ([(1, [97, 98]), (3, [])] : List Fld), isB x.2 := by
    intro x hx
    simp at hx
    rcases hx with rfl | rfl
    · exact hB _ rfl
    · exact hB _ rfl
  refine den_cal [I64d 64, I64d 0] rfl (fun_as (takeint_fn [128, 1] (hB _ rfl) (by decide)) (by kernel_rfl)) rfl rfl ?_
  refine den_cal [I64d 0, I64d 6] rfl (fun_as (takeint_fn [128] (hB _ rfl) (by decide)) (by kernel_rfl)) rfl rfl ?_
  refine den_cal [I64d 0, I64d 5] rfl (fun_as (takeint_fn [128, 0] (hB _ rfl) (by decide)) (by kernel_rfl)) rfl rfl ?_
  refine den_cal [bD [2, 4, 97, 98, 6, 0], I64d 0] rfl (fun_as (put_fn [(1, [97, 98]), (3, [])] (by decide) hs) (by kernel_rfl)) rfl rfl ?_
  refine den_cal [fsD [(1, [97, 98]), (3, [])], I64d 0] rfl (fun_as (take_fn [2, 4, 97, 98, 6, 0] (hB _ rfl) (by decide)) (by kernel_rfl)) rfl rfl ?_
  refine den_cal [.lst [], I64d 6] rfl (fun_as (take_fn [2, 4, 97] (hB _ rfl) (by decide)) (by kernel_rfl)) rfl rfl ?_
  refine den_cal [.lst [], I64d 5] rfl (fun_as (take_fn [6, 0, 2, 0] (hB _ rfl) (by decide)) (by kernel_rfl)) rfl rfl ?_
  refine den_cal [bD [], .bool true] rfl (fun_as (get_fn [(1, [97, 98]), (3, [])] 3 (by decide) hs) (by kernel_rfl)) rfl rfl ?_
  refine den_cal [bD [4, 2, 97, 0], I64d 0] rfl (fun_as (putl_fn [[97], []] (by decide) (by simp)) (by kernel_rfl)) rfl rfl ?_
  refine den_cal [.lst [], I64d 5] rfl (fun_as (takel_fn [0, 0] (hB _ rfl) (by decide)) (by kernel_rfl)) rfl rfl ?_
  refine den_cal [bD [128, 1]] rfl (fun_as (putint_fn 64 (by unfold in64; omega)) (by kernel_rfl)) rfl rfl ?_
  refine den_cal [.bool true] rfl (same_true (a := [128, 1]) (hB _ rfl)) rfl rfl ?_
  refine den_t (by kernel_rfl) ?_
  refine den_cal [bD [1]] rfl (fun_as (putint_fn (-1) (by unfold in64; omega)) (by kernel_rfl)) rfl rfl ?_
  refine den_cal [.bool true] rfl (same_true (a := [1]) (hB _ rfl)) rfl rfl ?_
  refine den_t (by kernel_rfl) (den_t (by kernel_rfl) (den_t (by kernel_rfl) (den_t (by kernel_rfl) (den_t (by kernel_rfl) (den_t (by kernel_rfl) ?_)))))
  refine den_cal [.bool true] rfl (same_true (a := [2, 4, 97, 98, 6, 0]) (hB _ rfl)) rfl rfl ?_
  refine den_t (by kernel_rfl) (den_t (by kernel_rfl) ?_)
  refine den_cal [.bool true] rfl (samef_true (a := [(1, [97, 98]), (3, [])]) hf (by decide)) rfl rfl ?_
  refine den_t (by kernel_rfl) (den_t (by kernel_rfl) (den_t (by kernel_rfl) (den_t (by kernel_rfl) (den_t (by kernel_rfl) ?_))))
  refine den_cal [.bool true] rfl (same_true (a := [4, 2, 97, 0]) (hB _ rfl)) rfl rfl ?_
  exact den_t (by kernel_rfl) (den_ret (by kernel_rfl))
end Go.Proofs.Ytmdjbmpongggnaa
