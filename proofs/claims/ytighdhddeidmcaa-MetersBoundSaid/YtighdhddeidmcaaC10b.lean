/-
  Layer 20: readings, what they say. No conditions stand ahead of what is proved.
-/
import Derived.Test.YtighdhddeidmcaaC10
set_option maxRecDepth 100000
set_option linter.unusedSimpArgs false
set_option linter.unusedVariables false
namespace Go.Proofs.Ytighdhddeidmcaa.C10
open Go.Proofs.Ytighdhddeidmcaa Go.Proofs.Ytighdhddeidmcaa.Sy Go.Proofs.Ytighdhddeidmcaa.V10 Go.RowKit
theorem len_R (rd : List (Int × Int)) : (dataR rd).length = rd.length := by simp [dataR]
theorem get_R {rd : List (Int × Int)} {i : Nat} (h : i < rd.length) : (dataR rd).getD i default = .rc [I64d (rd.getD i (0, 0)).1, I64d (rd.getD i (0, 0)).2] := by
  simp [dataR, List.getD_eq_getElem?_getD, h]
theorem uvalid_fn {rd : List (Int × Int)} {M : Int} (h1 : 1000 ≤ M) (h2 : M ≤ 1099511627776) (hl : 0 < rd.length) (hl2 : rd.length ≤ 1024)
    (hat : ∀ x, x < rd.length → 0 ≤ (rd.getD x (0, 0)).1 ∧ (rd.getD x (0, 0)).1 ≤ 268435456 ∧ 0 ≤ (rd.getD x (0, 0)).2 ∧ (rd.getD x (0, 0)).2 < M)
    (hn : ∀ x, x + 1 < rd.length → (rd.getD x (0, 0)).1 < (rd.getD (x + 1) (0, 0)).1) : Fun Try.prog [] 11 [tR, tI] [.lst (dataR rd), I64d M] [tI] (.ok [I64d 0]) := by
  have hdl := len_R rd
  refine uvalid_ent _ _ ?_
  show vcuvalid.den _ _ _ _ _
  unfold vcuvalid
  refine den_ite (fun h => ?_) (fun h => ?_) <;> simp only [E.den, D.toI, D.toB, D.toL, D.toS, D.len, D.mapL, flatD, dE] at h
  · omega
  refine den_ite (fun h => ?_) (fun h => ?_) <;> simp only [E.den, D.toI, D.toB, D.toL, D.toS, D.len, D.mapL, flatD, dE] at h
  · omega
  refine den_ite (fun h => ?_) (fun h => ?_) <;> simp only [E.den, D.toI, D.toB, D.toL, D.toS, D.len, D.mapL, flatD, dE] at h
  · omega
  refine den_ite (fun h => ?_) (fun h => ?_) <;> simp only [E.den, D.toI, D.toB, D.toL, D.toS, D.len, D.mapL, flatD, dE] at h
  · omega
  refine den_loop (fun xs => ∃ (z : Int) (i : Nat), xs = [I64d z, I64d i] ∧ i ≤ rd.length) (fun xs => rd.length - (xs.getD 1 default).toI.toNat) ⟨0, 0, (by simp only [E.den, D.toI, D.toB, D.toL, D.toS, D.len, D.mapL, flatD, dE]; rfl), by omega⟩ ?_
  simp only [AllSh]
  intro z _ _ n _ _ ⟨z', i, hq, hi⟩
  simp only [List.cons.injEq, D.int.injEq, true_and, and_true] at hq
  obtain ⟨rfl, rfl⟩ := hq
  have hw : IntKind.wrap .i64 ((i : Int) + 1) = ((i + 1 : Nat) : Int) := by rw [w64 (by omega) (by omega)]; omega
  refine den_ite (fun h3 => ?_) (fun h3 => ?_) <;> simp only [E.den, D.toI, D.toB, D.toL, D.toS, D.len, D.mapL, flatD, dE] at h3
  rotate_left
  · refine den_ret ?_
    simp only [E.den, D.toI, D.toB, D.toL, D.toS, D.len, D.mapL, flatD, dE]
  have hi' : i < rd.length := by omega
  have hg := get_R hi'
  obtain ⟨a1, a2, a3, a4⟩ := hat i hi'
  refine den_ev (evs_ob (by simp only [E.den, D.toI, D.toB, D.toL, D.toS, D.len, D.mapL, flatD, dE]; omega) (evs_ob (by simp only [E.den, D.toI, D.toB, D.toL, D.toS, D.len, D.mapL, flatD, dE]; omega) (evs_nil ?_)))
  refine den_ite (fun h => ?_) (fun h => ?_) <;> simp only [E.den, D.toI, D.toB, D.toL, D.toS, D.len, D.mapL, flatD, dE, hg] at h
  · omega
  refine den_ite (fun h => ?_) (fun h => ?_) <;> simp only [E.den, D.toI, D.toB, D.toL, D.toS, D.len, D.mapL, flatD, dE, hg] at h
  · omega
  refine den_ite (fun h => ?_) (fun h => ?_) <;> simp only [E.den, D.toI, D.toB, D.toL, D.toS, D.len, D.mapL, flatD, dE, hg] at h
  · omega
  refine den_ite (fun h => ?_) (fun h => ?_) <;> simp only [E.den, D.toI, D.toB, D.toL, D.toS, D.len, D.mapL, flatD, dE, hg] at h
  · omega
  refine den_ite (fun h5 => ?_) (fun h5 => ?_) <;> simp only [E.den, D.toI, D.toB, D.toL, D.toS, D.len, D.mapL, flatD, dE] at h5
  · have hw1 : IntKind.wrap .i64 ((i : Int) - 1) = ((i - 1 : Nat) : Int) := by rw [w64 (by omega) (by omega)]; omega
    have hg1 := get_R (rd := rd) (i := i - 1) (by omega)
    have hn1 := hn (i - 1) (by omega)
    rw [show i - 1 + 1 = i by omega] at hn1
    refine den_ev (evs_ob (by simp only [E.den, D.toI, D.toB, D.toL, D.toS, D.len, D.mapL, flatD, dE]; rw [hw1]; omega) (evs_ob (by simp only [E.den, D.toI, D.toB, D.toL, D.toS, D.len, D.mapL, flatD, dE]; rw [hw1]; omega) (evs_nil ?_)))
    refine den_ite (fun h => ?_) (fun h => ?_) <;> simp only [E.den, D.toI, D.toB, D.toL, D.toS, D.len, D.mapL, flatD, dE, hw1, hg, hg1] at h
    · omega
    refine den_back rfl ⟨z, i + 1, (by simp only [E.den, D.toI, D.toB, D.toL, D.toS, D.len, D.mapL, flatD, dE]; rw [hw]), by omega⟩ (by simp only []; simp only [E.den, D.toI, D.toB, D.toL, D.toS, D.len, D.mapL, flatD, dE]; rw [hw]; omega)
  · refine den_back rfl ⟨z, i + 1, (by simp only [E.den, D.toI, D.toB, D.toL, D.toS, D.len, D.mapL, flatD, dE]; rw [hw]), by omega⟩ (by simp only []; simp only [E.den, D.toI, D.toB, D.toL, D.toS, D.len, D.mapL, flatD, dE]; rw [hw]; omega)
/-- Readings in order: dl: what was counted from one to the next; gp: how many minutes lie between. -/
structure RdOK (rd : List (Int × Int)) (M : Int) (dl : Nat → Int) (gp : Nat → Nat) : Prop where
  pos : 0 < rd.length
  lim : rd.length ≤ 301
  m1 : 1000 ≤ M
  m2 : M ≤ 1099511627776
  fst : (rd.getD 0 (0, 0)).1 = 0
  at' : ∀ x, x < rd.length → 0 ≤ (rd.getD x (0, 0)).1 ∧ (rd.getD x (0, 0)).1 ≤ 300 ∧ 0 ≤ (rd.getD x (0, 0)).2 ∧ (rd.getD x (0, 0)).2 < M
  nxt : ∀ x, x + 1 < rd.length → (rd.getD (x + 1) (0, 0)).1 = (rd.getD x (0, 0)).1 + gp x ∧ 1 ≤ gp x ∧ gp x ≤ 9 ∧ ((rd.getD (x + 1) (0, 0)).2 - (rd.getD x (0, 0)).2 + M) % M = dl x ∧ 0 ≤ dl x ∧ dl x ≤ 1000000
section
variable {rd : List (Int × Int)} {M : Int} {dl : Nat → Int} {gp : Nat → Nat}
theorem RdOK.valid (h : RdOK rd M dl gp) : Fun Try.prog [] 11 [tR, tI] [.lst (dataR rd), I64d M] [tI] (.ok [I64d 0]) :=
  uvalid_fn h.m1 h.m2 h.pos (by have := h.lim; omega) (fun x hx => by have := h.at' x hx; omega) (fun x hx => by have := h.nxt x hx; omega)
theorem RdOK.delta (h : RdOK rd M dl gp) {x : Nat} (hx : x < rd.length - 1) : Fun Try.prog [] 13 [tI, tI, tI] [I64d (rd.getD x (0, 0)).2, I64d (rd.getD (x + 1) (0, 0)).2, I64d M] [tI, tI] (.ok [I64d (dl x), I64d 0]) := by
  have a := h.at' x (by omega)
  have b := h.at' (x + 1) (by omega)
  have c := h.nxt x (by omega)
  have := delta_fn h.m1 h.m2 a.2.2.1 a.2.2.2 b.2.2.1 b.2.2.2
  rw [c.2.2.2.1] at this
  exact this
theorem RdOK.in64 (h : RdOK rd M dl gp) : ∀ p ∈ rd, in64 p.1 ∧ in64 p.2 := by
  intro p hp
  obtain ⟨i, hi, rfl⟩ := List.getElem_of_mem hp
  have := h.at' i hi
  rw [List.getD_eq_getElem?_getD, List.getElem?_eq_getElem hi] at this
  simp only [Option.getD_some] at this
  have h2 := h.m2
  refine ⟨⟨?_, ?_⟩, ⟨?_, ?_⟩⟩ <;> simp [IntKind.min, IntKind.max, IntKind.bits, IntKind.signed] <;> omega
def sumTo (dl : Nat → Int) (n : Nat) : Int := (List.range n).foldl (fun s x => s + dl x) 0
theorem fold_I (dl : Nat → Int) : ∀ (l : List Nat) (s : Int), l.foldl (fun (d : D) x => I64d (d.toI + dl x)) (I64d s) = I64d (l.foldl (fun s x => s + dl x) s)
  | [], _ => rfl
  | x :: l, s => fold_I dl l (s + dl x)
set_option maxHeartbeats 1000000 in
theorem total_fn (h : RdOK rd M dl gp) : Fun Try.prog [] 6 [tR, tI] [.lst (dataR rd), I64d M] [tI, tI] (.ok [I64d (sumTo dl (rd.length - 1)), I64d 0]) := by
  refine total_rf ?_
  unfold utotal
  refine den_cal [I64d 0] rfl h.valid (by simp only [E.den, D.toI, D.toB, D.toL, D.toS, D.len, D.mapL, flatD, dE]) rfl ?_
  refine den_ite (fun h2 => ?_) (fun h2 => ?_) <;> simp only [E.den, D.toI, D.toB, D.toL, D.toS, D.len, D.mapL, flatD, dE] at h2
  · exact (h2 trivial).elim
  have hlim := h.lim
  refine den_back rfl ⟨[.lst (dataR rd), I64d M, I64d 0], I64d 0, rd, fun d x => I64d (d.toI + dl x), fun k d => ∃ z : Int, d = I64d z ∧ 0 ≤ z ∧ z ≤ k * 1000000, (by simp only [E.den, D.toI, D.toB, D.toL, D.toS, D.len, D.mapL, flatD, dE]), rfl, h.pos, (by omega), (by simp only [E.den, D.toI, D.toB, D.toL, D.toS, D.len, D.mapL, flatD, dE]), h.in64, ⟨0, rfl, by omega, by omega⟩, ?_, ?_, ?_⟩ Nat.zero_lt_one
  · rintro k d x hk hx ⟨z, rfl, hz1, hz2⟩
    have c := h.nxt x (by omega)
    exact ⟨z + dl x, rfl, by omega, by simp only [Int.natCast_add]; omega⟩
  · rintro k d x hk hx ⟨z, rfl, hz1, hz2⟩
    have c := h.nxt x (by omega)
    show btotal.den _ _ _ _ [.lst (dataR rd), I64d M, I64d 0, I64d z, I64d (rd.getD x (0, 0)).1, I64d (rd.getD x (0, 0)).2, I64d (rd.getD (x + 1) (0, 0)).1, I64d (rd.getD (x + 1) (0, 0)).2]
    unfold btotal
    refine den_cal [I64d (dl x), I64d 0] rfl (h.delta hx) (by simp only [E.den, D.toI, D.toB, D.toL, D.toS, D.len, D.mapL, flatD, dE]) rfl ?_
    refine den_ite (fun h2 => ?_) (fun h2 => ?_) <;> simp only [E.den, D.toI, D.toB, D.toL, D.toS, D.len, D.mapL, flatD, dE] at h2
    · exact (h2 trivial).elim
    refine den_back rfl ?_ Nat.zero_lt_one
    simp only [E.den, D.toI, D.toB, D.toL, D.toS, D.len, D.mapL, flatD, dE]
    rw [w64 (by omega) (by omega)]
  · rw [fold_I]
    unfold rtotal
    refine den_ret ?_
    simp only [E.den, D.toI, D.toB, D.toL, D.toS, D.len, D.mapL, flatD, dE]
    rfl
def pcs (e : Int) (g : Nat) : List Int := (List.range g).map fun (i : Nat) => e * ((i : Int) + 1) / g - e * i / g
def minTo (dl : Nat → Int) (gp : Nat → Nat) (n : Nat) : List Int := (List.range n).foldl (fun l x => l ++ pcs (dl x) (gp x)) []
theorem pcs_len (e : Int) (g : Nat) : (pcs e g).length = g := by simp [pcs]
theorem fold_L (dl : Nat → Int) (gp : Nat → Nat) : ∀ (l : List Nat) (s : List Int), l.foldl (fun (d : D) x => D.lst (d.toL ++ (pcs (dl x) (gp x)).map I64d)) (isD s) = isD (l.foldl (fun l x => l ++ pcs (dl x) (gp x)) s)
  | [], _ => rfl
  | x :: l, s => by
    rw [List.foldl_cons, List.foldl_cons, ← fold_L dl gp l (s ++ pcs (dl x) (gp x))]
    congr 1
    simp [D.toL]
theorem pcs_take {e : Int} {g i : Nat} (h : i < g) : (pcs e g).take (i + 1) = (pcs e g).take i ++ [e * ((i : Int) + 1) / g - e * i / g] := by
  rw [List.take_add_one]
  simp [pcs, h]
set_option maxHeartbeats 1000000 in
theorem minutes_fn (h : RdOK rd M dl gp) : Fun Try.prog [] 8 [tR, tI] [.lst (dataR rd), I64d M] [.c (.lst [.int .i64]), tI] (.ok [isD (minTo dl gp (rd.length - 1)), I64d 0]) := by
  have hdl := len_R rd
  have hlim := h.lim
  have hpos := h.pos
  refine minutes_rf ?_
  unfold uminutes
  refine den_cal [I64d 0] rfl h.valid (by simp only [E.den, D.toI, D.toB, D.toL, D.toS, D.len, D.mapL, flatD, dE]) rfl ?_
  refine den_ite (fun h2 => ?_) (fun h2 => ?_) <;> simp only [E.den, D.toI, D.toB, D.toL, D.toS, D.len, D.mapL, flatD, dE] at h2
  · exact (h2 trivial).elim
  have hw1 : IntKind.wrap .i64 (((dataR rd).length : Int) - 1) = ((rd.length - 1 : Nat) : Int) := by rw [w64 (by omega) (by omega)]; omega
  have g0 := get_R (rd := rd) (i := 0) hpos
  have g1 := get_R (rd := rd) (i := rd.length - 1) (by omega)
  have f0 := h.fst
  have f1 := h.at' (rd.length - 1) (by omega)
  have hz : Int.toNat 0 = 0 := rfl
  refine den_ev (evs_ob (by simp only [E.den, D.toI, D.toB, D.toL, D.toS, D.len, D.mapL, flatD, dE, hw1]; omega) (evs_ob (by simp only [E.den, D.toI, D.toB, D.toL, D.toS, D.len, D.mapL, flatD, dE, hw1]; omega) (evs_ob (by simp only [E.den, D.toI, D.toB, D.toL, D.toS, D.len, D.mapL, flatD, dE]; omega) (evs_nil ?_))))
  refine den_ite (fun h2 => ?_) (fun h2 => ?_) <;> simp only [E.den, D.toI, D.toB, D.toL, D.toS, D.len, D.mapL, flatD, dE, hw1, hz, g0, g1, f0] at h2 <;> rw [w64 (by omega) (by omega)] at h2
  · omega
  refine den_ev (evs_ob (by simp only [E.den, D.toI, D.toB, D.toL, D.toS, D.len, D.mapL, flatD, dE, hw1, hz, g0, g1, f0]; rw [w64 (by omega) (by omega)]; omega) (evs_ob (by simp only [E.den, D.toI, D.toB, D.toL, D.toS, D.len, D.mapL, flatD, dE, hw1, hz, g0, g1, f0]; rw [w64 (by omega) (by omega)]; omega) (evs_nil ?_)))
  refine den_back rfl ⟨[.lst (dataR rd), I64d M, I64d 0], isD [], rd, fun d x => D.lst (d.toL ++ (pcs (dl x) (gp x)).map I64d), fun k d => ∃ l : List Int, d = isD l ∧ l.length ≤ 9 * k, (by simp only [E.den, D.toI, D.toB, D.toL, D.toS, D.len, D.mapL, flatD, dE]; rfl), rfl, h.pos, (by omega), (by simp only [E.den, D.toI, D.toB, D.toL, D.toS, D.len, D.mapL, flatD, dE]), h.in64, ⟨[], rfl, by simp⟩, ?_, ?_, ?_⟩ Nat.zero_lt_one
  · rintro k d x hk hx ⟨l, rfl, hz1⟩
    have c := h.nxt x (by omega)
    exact ⟨l ++ pcs (dl x) (gp x), by simp [D.toL], by rw [List.length_append, pcs_len]; omega⟩
  · rintro k d x hk hx ⟨l, rfl, hz1⟩
    have c := h.nxt x (by omega)
    have a := h.at' x (by omega)
    obtain ⟨c1, c2, c3, _, c5, c6⟩ := c
    show bminutes.den _ _ _ _ [.lst (dataR rd), I64d M, I64d 0, isD l, I64d (rd.getD x (0, 0)).1, I64d (rd.getD x (0, 0)).2, I64d (rd.getD (x + 1) (0, 0)).1, I64d (rd.getD (x + 1) (0, 0)).2]
    unfold bminutes
    refine den_cal [I64d (dl x), I64d 0] rfl (h.delta hx) (by simp only [E.den, D.toI, D.toB, D.toL, D.toS, D.len, D.mapL, flatD, dE]) rfl ?_
    refine den_ite (fun h2 => ?_) (fun h2 => ?_) <;> simp only [E.den, D.toI, D.toB, D.toL, D.toS, D.len, D.mapL, flatD, dE] at h2
    · exact (h2 trivial).elim
    generalize hA : (rd.getD x (0, 0)).1 = A at *
    generalize hB : (rd.getD (x + 1) (0, 0)).1 = B at *
    generalize hR1 : (rd.getD x (0, 0)).2 = R1 at *
    generalize hR2 : (rd.getD (x + 1) (0, 0)).2 = R2 at *
    generalize hE : dl x = e at *
    generalize hG : gp x = g at *
    have hlen : IntKind.wrap .i64 (B - A) = (g : Int) := by rw [w64 (by omega) (by omega)]; omega
    refine den_loop (fun xs => ∃ i : Nat, i ≤ g ∧ xs = [isD (l ++ (pcs e g).take i), I64d i]) (fun xs => g - (xs.getD 1 default).toI.toNat) ⟨0, by omega, (by simp only [E.den, D.toI, D.toB, D.toL, D.toS, D.len, D.mapL, flatD, dE]; simp)⟩ ?_
    simp only [AllSh]
    intro L _ n _ _ ⟨i, hi, hq⟩
    simp only [List.cons.injEq, D.int.injEq, D.lst.injEq, true_and, and_true] at hq
    obtain ⟨rfl, rfl⟩ := hq
    have hlt : ((pcs e g).take i).length ≤ 9 := by rw [List.length_take, pcs_len]; omega
    have hw : IntKind.wrap .i64 ((i : Int) + 1) = ((i + 1 : Nat) : Int) := by rw [w64 (by omega) (by omega)]; omega
    refine den_ite (fun h3 => ?_) (fun h3 => ?_) <;> simp only [E.den, D.toI, D.toB, D.toL, D.toS, D.len, D.mapL, flatD, dE, hlen] at h3
    · have hi' : i < g := by omega
      have q0 : 0 ≤ e * (i : Int) := Int.mul_nonneg c5 (by omega)
      have q1 : 0 ≤ e * ((i : Int) + 1) := Int.mul_nonneg c5 (by omega)
      have q2 : e * ((i : Int) + 1) ≤ 1000000 * 9 := Int.mul_le_mul c6 (by omega) (by omega) (by omega)
      have q3 : e * (i : Int) ≤ 1000000 * 9 := Int.mul_le_mul c6 (by omega) (by omega) (by omega)
      have q4 : (e * (i : Int)).tdiv g = e * i / g := Int.tdiv_eq_ediv_of_nonneg q0
      have q5 : (e * ((i : Int) + 1)).tdiv g = e * ((i : Int) + 1) / g := Int.tdiv_eq_ediv_of_nonneg q1
      have q6 : 0 ≤ e * (i : Int) / g := Int.ediv_nonneg q0 (by omega)
      have q7 : 0 ≤ e * ((i : Int) + 1) / g := Int.ediv_nonneg q1 (by omega)
      have q8 : e * (i : Int) / g ≤ e * (i : Int) := Int.ediv_le_self _ q0
      have q9 : e * ((i : Int) + 1) / g ≤ e * ((i : Int) + 1) := Int.ediv_le_self _ q1
      refine den_ev (evs_ob (by simp only [E.den, D.toI, D.toB, D.toL, D.toS, D.len, D.mapL, flatD, dE, hlen]; omega) (evs_ob (by simp only [E.den, D.toI, D.toB, D.toL, D.toS, D.len, D.mapL, flatD, dE, hlen]; omega) (evs_ob (by simp only [E.den, D.toI, D.toB, D.toL, D.toS, D.len, D.mapL, flatD, dE]; omega) (evs_nil ?_))))
      refine den_back rfl ⟨i + 1, by omega, ?_⟩ ?_
      · simp only [E.den, D.toI, D.toB, D.toL, D.toS, D.len, D.mapL, flatD, dE, hlen, hw]
        rw [show ((i + 1 : Nat) : Int) = (i : Int) + 1 by omega, w64 (n := e * ((i : Int) + 1)) (by omega) (by omega), w64 (n := e * (i : Int)) (by omega) (by omega), q4, q5, w64 (n := e * ((i : Int) + 1) / g) (by omega) (by omega), w64 (n := e * (i : Int) / g) (by omega) (by omega), w64 (by omega) (by omega), pcs_take hi']
        simp
      · simp only []
        simp only [E.den, D.toI, D.toB, D.toL, D.toS, D.len, D.mapL, flatD, dE, hw]
        omega
    · have hi' : i = g := by omega
      refine den_back rfl ?_ Nat.zero_lt_one
      simp only [E.den, D.toI, D.toB, D.toL, D.toS, D.len, D.mapL, flatD, dE]
      rw [List.take_of_length_le (by rw [pcs_len]; omega)]
      simp [D.toL, hE, hG]
  · rw [fold_L]
    unfold rminutes
    refine den_ret ?_
    simp only [E.den, D.toI, D.toB, D.toL, D.toS, D.len, D.mapL, flatD, dE]
    rfl
end
end Go.Proofs.Ytighdhddeidmcaa.C10
