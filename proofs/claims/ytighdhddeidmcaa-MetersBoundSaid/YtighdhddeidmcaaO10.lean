/-
  MetersBound: plain facts. No conditions stand ahead of what is proved.
-/
import Derived.Test.YtighdhddeidmcaaC10b
set_option maxRecDepth 100000
set_option linter.unusedSimpArgs false
set_option linter.unusedVariables false
namespace Go.Proofs.Ytighdhddeidmcaa.C10
open Go.Proofs.Ytighdhddeidmcaa Go.Proofs.Ytighdhddeidmcaa.Sy Go.Proofs.Ytighdhddeidmcaa.V10 Go.RowKit
theorem sumTo_succ (dl : Nat → Int) (n : Nat) : sumTo dl (n + 1) = sumTo dl n + dl n := by simp [sumTo, List.range_succ]
theorem minTo_succ (dl : Nat → Int) (gp : Nat → Nat) (n : Nat) : minTo dl gp (n + 1) = minTo dl gp n ++ pcs (dl n) (gp n) := by simp [minTo, List.range_succ]
theorem sumTo_tel {dl : Nat → Int} {f : Nat → Int} : ∀ {m : Nat}, (∀ x, x < m → dl x = f (x + 1) - f x) → sumTo dl m = f m - f 0
  | 0, _ => by simp [sumTo]
  | m + 1, h => by
    rw [sumTo_succ, sumTo_tel (m := m) (fun x hx => h x (by omega)), h m (by omega)]
    omega
theorem min_len {dl : Nat → Int} {gp : Nat → Nat} {f : Nat → Nat} : ∀ {m : Nat}, (∀ x, x < m → f (x + 1) = f x + gp x) → (minTo dl gp m).length + f 0 = f m
  | 0, _ => by simp [minTo]
  | m + 1, h => by
    have := min_len (dl := dl) (m := m) (fun x hx => h x (by omega))
    rw [minTo_succ, List.length_append, pcs_len, h m (by omega)]
    omega
theorem range_tel (f : Nat → Int) : ∀ g : Nat, ((List.range g).map fun i => f (i + 1) - f i).sum = f g - f 0
  | 0 => by simp
  | g + 1 => by
    rw [List.range_succ, List.map_append, List.sum_append, range_tel f g]
    simp
    omega
theorem pcs_sum {e : Int} {g : Nat} (h : 1 ≤ g) : (pcs e g).sum = e := by
  have := range_tel (fun i : Nat => e * (i : Int) / g) g
  simp only [Int.natCast_add, Int.cast_ofNat_Int] at this
  have h0 : e * (g : Int) / g = e := Int.mul_ediv_cancel e (by omega)
  unfold pcs
  simp only [Int.natCast_add, Int.cast_ofNat_Int, h0] at this ⊢
  simpa using this
theorem min_sum {dl : Nat → Int} {gp : Nat → Nat} : ∀ {m : Nat}, (∀ x, x < m → 1 ≤ gp x) → (minTo dl gp m).sum = sumTo dl m
  | 0, _ => by simp [minTo, sumTo]
  | m + 1, h => by
    rw [minTo_succ, sumTo_succ, List.sum_append, min_sum (m := m) (fun x hx => h x (by omega)), pcs_sum (h m (by omega))]
theorem pcs_bd {e : Int} {g : Nat} (h0 : 0 ≤ e) (h1 : e ≤ 1000000) (hg : g ≤ 9) : ∀ y ∈ pcs e g, 0 ≤ y ∧ y ≤ 9000000 := by
  intro y hy
  obtain ⟨i, hi, rfl⟩ := List.mem_map.1 hy
  rw [List.mem_range] at hi
  have q0 : 0 ≤ e * (i : Int) := Int.mul_nonneg h0 (by omega)
  have q1 : 0 ≤ e * ((i : Int) + 1) := Int.mul_nonneg h0 (by omega)
  have q2 : e * ((i : Int) + 1) ≤ 1000000 * 9 := Int.mul_le_mul h1 (by omega) (by omega) (by omega)
  have q3 : e * (i : Int) ≤ e * ((i : Int) + 1) := Int.mul_le_mul_of_nonneg_left (by omega) h0
  have q4 : e * (i : Int) / g ≤ e * ((i : Int) + 1) / g := Int.ediv_le_ediv (by omega) q3
  have q6 : 0 ≤ e * (i : Int) / g := Int.ediv_nonneg q0 (by omega)
  have q9 : e * ((i : Int) + 1) / g ≤ e * ((i : Int) + 1) := Int.ediv_le_self _ q1
  omega
theorem min_bd {dl : Nat → Int} {gp : Nat → Nat} : ∀ {m : Nat}, (∀ x, x < m → 0 ≤ dl x ∧ dl x ≤ 1000000 ∧ gp x ≤ 9) → ∀ y ∈ minTo dl gp m, 0 ≤ y ∧ y ≤ 9000000
  | 0, _, y, hy => by simp [minTo] at hy
  | m + 1, h, y, hy => by
    rw [minTo_succ, List.mem_append] at hy
    rcases hy with hy | hy
    · exact min_bd (fun x hx => h x (by omega)) y hy
    · have := h m (by omega)
      exact pcs_bd this.1 this.2.1 this.2.2 y hy
theorem take_sum {l : List Int} {B : Int} (h : ∀ y ∈ l, 0 ≤ y ∧ y ≤ B) (hB : 0 ≤ B) : ∀ i, 0 ≤ (l.take i).sum ∧ (l.take i).sum ≤ B * i := by
  intro i
  induction i with
  | zero => simp
  | succ i ih =>
    rw [List.take_add_one, List.sum_append]
    have hm : B * ((i + 1 : Nat) : Int) = B * i + B := by rw [Int.natCast_add, Int.mul_add]; simp
    rw [hm]
    cases hg : l[i]? with
    | none => simp; omega
    | some y =>
      have := h y (List.mem_of_getElem? hg)
      simp
      omega
/-- How much came in the first n minutes. -/
def Sm (L : List Int) : Nat → Int
  | 0 => 0
  | n + 1 => Sm L n + L.getD n 0
section
variable (R M T G : Int) (L : List Int)
def Am (n : Nat) : Int := Sm L n * (1000000 + G) + T
def Em (n : Nat) : Int := Am T G L n / 1000000
def reg (n : Nat) : Int := (R + Em T G L n) % M
def rdOf (ts : List Nat) : List (Int × Int) := ts.map fun (t : Nat) => ((t : Int), reg R M T G L t)
end
structure TsInv (ts : List Nat) (i n k : Nat) : Prop where
  pos : 0 < ts.length
  len : ts.length ≤ i + 1
  fst : ts.getD 0 0 = 0
  le : ∀ x, x < ts.length → ts.getD x 0 ≤ i
  nxt : ∀ x, x + 1 < ts.length → ts.getD x 0 < ts.getD (x + 1) 0 ∧ ts.getD (x + 1) 0 ≤ ts.getD x 0 + 9
  l1 : i = n → ts.getD (ts.length - 1) 0 = n
  l2 : i < n → ts.getD (ts.length - 1) 0 + i % k = i
theorem TsInv.start {n k : Nat} : TsInv [0] 0 n k := ⟨by simp, by simp, rfl, fun x hx => by simp at hx; subst hx; simp, fun x hx => by simp at hx, fun h => by simpa using h, fun _ => by simp⟩
theorem TsInv.skip {ts : List Nat} {i n k : Nat} (h : TsInv ts i n k) (hk : 1 ≤ k) (hi : i + 1 < n) (hm : (i + 1) % k ≠ 0) : TsInv ts (i + 1) n k := by
  refine ⟨h.pos, by have := h.len; omega, h.fst, fun x hx => by have := h.le x hx; omega, h.nxt, fun e => by omega, fun _ => ?_⟩
  have h2 := h.l2 (by omega)
  have : (i + 1) % k = i % k + 1 := by
    have a1 := Nat.mod_lt i (show 0 < k by omega)
    rw [Nat.add_mod]
    rcases Nat.lt_or_ge (i % k + 1) k with h3 | h3
    · rcases Nat.lt_or_ge 1 k with h4 | h4
      · rw [Nat.mod_eq_of_lt h4, Nat.mod_eq_of_lt h3]
      · omega
    · exfalso
      apply hm
      have e : i % k = k - 1 := by omega
      rw [Nat.add_mod, e]
      rcases Nat.lt_or_ge 1 k with h4 | h4
      · rw [Nat.mod_eq_of_lt h4, show k - 1 + 1 = k by omega, Nat.mod_self]
      · have : k = 1 := by omega
        subst this
        rfl
  omega
theorem getD_snoc {α : Type} {l : List α} {a d : α} {x : Nat} : (l ++ [a]).getD x d = if x < l.length then l.getD x d else if x = l.length then a else d := by
  simp only [List.getD_eq_getElem?_getD]
  split
  · rename_i h
    rw [List.getElem?_append_left h]
  · rename_i h
    rw [List.getElem?_append_right (by omega)]
    split
    · rename_i e
      subst e
      simp
    · rename_i e
      rw [List.getElem?_eq_none (by simp; omega)]
      rfl
theorem TsInv.add {ts : List Nat} {i n k : Nat} (h : TsInv ts i n k) (hk : 1 ≤ k) (hk9 : k ≤ 9) (hi : i < n) (hm : (i + 1) % k = 0 ∨ i + 1 = n) : TsInv (ts ++ [i + 1]) (i + 1) n k := by
  have hp := h.pos
  have h2 := h.l2 hi
  have a1 := Nat.mod_lt i (show 0 < k by omega)
  have hl : (ts ++ [i + 1]).length = ts.length + 1 := by simp
  have hlast : (ts ++ [i + 1]).getD ((ts ++ [i + 1]).length - 1) 0 = i + 1 := by rw [hl, getD_snoc, if_neg (by omega), if_pos (by omega)]
  refine ⟨by omega, by have := h.len; omega, by rw [getD_snoc, if_pos hp]; exact h.fst, fun x hx => ?_, fun x hx => ?_, fun e => by rw [hlast]; exact e, fun e => ?_⟩
  · rw [getD_snoc]
    split
    · have := h.le x (by assumption); omega
    · split <;> omega
  · rw [hl] at hx
    rw [getD_snoc, if_pos (by omega), getD_snoc]
    split
    · exact h.nxt x (by assumption)
    · rw [if_pos (by omega)]
      have e : x = ts.length - 1 := by omega
      subst e
      omega
  · rw [hlast]
    rcases hm with hm | hm
    · rw [hm]
    · omega
section
variable {R M T G : Int} {L : List Int}
theorem Sm_bd {i : Nat} (h : ∀ j, j < i → 0 ≤ L.getD j 0 ∧ L.getD j 0 ≤ 100000) : 0 ≤ Sm L i ∧ Sm L i ≤ 100000 * i := by
  induction i with
  | zero => simp [Sm]
  | succ i ih =>
    have a := ih (fun j hj => h j (by omega))
    have b := h i (by omega)
    simp only [Sm]
    omega
theorem Sm_mono {i : Nat} : ∀ {d : Nat}, (∀ j, j < i + d → 0 ≤ L.getD j 0 ∧ L.getD j 0 ≤ 100000) → 0 ≤ Sm L (i + d) - Sm L i ∧ Sm L (i + d) - Sm L i ≤ 100000 * d
  | 0, _ => by simp
  | d + 1, h => by
    have a := Sm_mono (i := i) (d := d) (fun j hj => h j (by omega))
    have b := h (i + d) (by omega)
    rw [show i + (d + 1) = i + d + 1 by omega]
    simp only [Sm]
    omega
theorem Em_zero (h0 : 0 ≤ T) (h1 : T < 1000000) : Em T G L 0 = 0 := by
  simp only [Em, Am, Sm]
  omega
theorem Am_step (i : Nat) : Am T G L (i + 1) = Am T G L i + L.getD i 0 * (1000000 + G) := by
  simp only [Am, Sm, Int.add_mul]
  omega
theorem Em_diff (m7 : -100000 ≤ G) (m8 : G ≤ 100000) {i d : Nat} (hd : d ≤ 9) (h : ∀ j, j < i + d → 0 ≤ L.getD j 0 ∧ L.getD j 0 ≤ 100000) : 0 ≤ Em T G L (i + d) - Em T G L i ∧ Em T G L (i + d) - Em T G L i ≤ 990001 := by
  obtain ⟨s0, s1⟩ := Sm_mono (i := i) (d := d) h
  have p0 : 0 ≤ (Sm L (i + d) - Sm L i) * (1000000 + G) := Int.mul_nonneg s0 (by omega)
  have p1 : (Sm L (i + d) - Sm L i) * (1000000 + G) ≤ 900000 * 1100000 := Int.mul_le_mul (by omega) (by omega) (by omega) (by omega)
  have e : (Sm L (i + d) - Sm L i) * (1000000 + G) = Sm L (i + d) * (1000000 + G) - Sm L i * (1000000 + G) := Int.sub_mul _ _ _
  simp only [Em, Am]
  omega
theorem rd_len (ts : List Nat) : (rdOf R M T G L ts).length = ts.length := by simp [rdOf]
theorem rd_get {ts : List Nat} {x : Nat} (h : x < ts.length) : (rdOf R M T G L ts).getD x (0, 0) = (((ts.getD x 0 : Nat) : Int), reg R M T G L (ts.getD x 0)) := by
  simp [rdOf, List.getD_eq_getElem?_getD, h]
theorem reg_bd (hM : 0 < M) (i : Nat) : 0 ≤ reg R M T G L i ∧ reg R M T G L i < M := ⟨Int.emod_nonneg _ (by omega), Int.emod_lt_of_pos _ hM⟩
theorem reg_diff {a b : Nat} (hM : 0 < M) (h0 : 0 ≤ Em T G L b - Em T G L a) (h1 : Em T G L b - Em T G L a < M) : (reg R M T G L b - reg R M T G L a + M) % M = Em T G L b - Em T G L a := by
  have e : (reg R M T G L b - reg R M T G L a + M) % M = (Em T G L b - Em T G L a) % M := by
    rw [Int.add_emod_right]
    unfold reg
    rw [← Int.sub_emod]
    congr 1
    omega
  rw [e]
  exact Int.emod_eq_of_lt h0 h1
theorem ts_ok {ts : List Nat} {n k : Nat} (hn : n ≤ 300) (hm : mok R M T G) (hM : 1000000 ≤ M) (h : TsInv ts n n k) (hL : ∀ j, j < n → 0 ≤ L.getD j 0 ∧ L.getD j 0 ≤ 100000) :
    RdOK (rdOf R M T G L ts) M (fun x => Em T G L (ts.getD (x + 1) 0) - Em T G L (ts.getD x 0)) (fun x => ts.getD (x + 1) 0 - ts.getD x 0) := by
  obtain ⟨m1, m2, m3, m4, m5, m6, m7, m8⟩ := hm
  refine ⟨by rw [rd_len]; exact h.pos, by rw [rd_len]; have := h.len; omega, m1, m2, by rw [rd_get h.pos, h.fst]; rfl, fun x hx => ?_, fun x hx => ?_⟩
  · rw [rd_len] at hx
    rw [rd_get hx]
    have := h.le x hx
    have := reg_bd (R := R) (T := T) (G := G) (L := L) (show 0 < M by omega) (ts.getD x 0)
    simp only []
    omega
  · rw [rd_len] at hx
    rw [rd_get hx, rd_get (show x < ts.length by omega)]
    have a := h.nxt x hx
    have b := h.le (x + 1) hx
    obtain ⟨d, hd⟩ : ∃ d, ts.getD (x + 1) 0 = ts.getD x 0 + d := ⟨ts.getD (x + 1) 0 - ts.getD x 0, by omega⟩
    have c := Em_diff (T := T) (G := G) (L := L) m7 m8 (i := ts.getD x 0) (d := d) (by omega) (fun j hj => hL j (by omega))
    rw [← hd] at c
    have f := reg_diff (R := R) (M := M) (T := T) (G := G) (L := L) (a := ts.getD x 0) (b := ts.getD (x + 1) 0) (by omega) c.1 (by omega)
    simp only []
    refine ⟨by omega, by omega, by omega, f, c.1, by omega⟩
end
end Go.Proofs.Ytighdhddeidmcaa.C10
