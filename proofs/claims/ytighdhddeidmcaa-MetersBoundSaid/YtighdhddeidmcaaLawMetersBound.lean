/-
  MetersBound: its walk and its row. No conditions.
-/
import Derived.Test.YtighdhddeidmcaaFrame
import Derived.Test.YtighdhddeidmcaaO10
set_option maxRecDepth 100000
set_option linter.unusedSimpArgs false
set_option linter.unusedVariables false
namespace Go.Proofs.Ytighdhddeidmcaa
open Go.Proofs.Ytighdhddeidmcaa.Sy Go.Proofs.Ytighdhddeidmcaa.V10 Go.Proofs.Ytighdhddeidmcaa.C10 Go.RowKit Go.WideShapes Go.ChangeShapes Go.ChangeAt

theorem get_I {L : List Int} {i : Nat} (h : i < L.length) : (L.map I64d).getD i default = I64d (L.getD i 0) := by
  simp [List.getD_eq_getElem?_getD, h]
theorem rd_snoc {R M T G : Int} {L : List Int} {ts : List Nat} {t : Nat} : dataR (rdOf R M T G L (ts ++ [t])) = dataR (rdOf R M T G L ts) ++ [.rc [I64d (t : Int), I64d (reg R M T G L t)]] := by
  simp [dataR, rdOf]
theorem typ_m {d : D} (h : TypT tM d) : ∃ R M T G : Int, d = mD R M T G := by
  obtain ⟨ds, rfl, h⟩ := h
  unfold Typs at h
  obtain ⟨a, r, rfl, t0, h⟩ := h
  unfold Typ at t0
  obtain ⟨R, rfl, _⟩ := t0
  unfold Typs at h
  obtain ⟨a, r, rfl, t0, h⟩ := h
  unfold Typ at t0
  obtain ⟨M, rfl, _⟩ := t0
  unfold Typs at h
  obtain ⟨a, r, rfl, t0, h⟩ := h
  unfold Typ at t0
  obtain ⟨T, rfl, _⟩ := t0
  unfold Typs at h
  obtain ⟨a, r, rfl, t0, h⟩ := h
  unfold Typ at t0
  obtain ⟨G, rfl, _⟩ := t0
  unfold Typs at h
  subst h
  exact ⟨R, M, T, G, rfl⟩
set_option maxHeartbeats 4000000 in
theorem law_all (xs : List D) (h : TypTs [tM, .c (.lst [.int .i64]), .c (.int .u8)] xs) : Fun Try.prog [] 3 [tM, .c (.lst [.int .i64]), .c (.int .u8)] xs [.c .bool] (.ok [.bool true]) := by
  obtain ⟨d, _, rfl, h0, _, _, rfl, h1, _, _, rfl, h2, rfl⟩ := h
  obtain ⟨R, M, T, G, rfl⟩ := typ_m h0
  obtain ⟨L, rfl, _, _⟩ := typ_ints h1
  have h2 : Typ (.int .u8) _ := h2
  unfold Typ at h2
  obtain ⟨U, rfl, hU0, hU1⟩ := h2
  rw [min_u8] at hU0
  rw [max_u8] at hU1
  clear h0 h1
  refine law_ent _ _ ?_
  show vclaw.den _ _ _ _ _
  unfold vclaw
  refine den_ite (fun h3 => ?_) (fun h3 => ?_) <;> simp only [E.den, D.toI, D.toB, D.toL, D.toS, D.len, D.mapL, flatD, dE] at h3
  · refine den_ret ?_
    simp only [E.den, D.toI, D.toB, D.toL, D.toS, D.len, D.mapL, flatD, dE]
  refine den_ite (fun h4 => ?_) (fun h4 => ?_) <;> simp only [E.den, D.toI, D.toB, D.toL, D.toS, D.len, D.mapL, flatD, dE] at h4
  · refine den_ret ?_
    simp only [E.den, D.toI, D.toB, D.toL, D.toS, D.len, D.mapL, flatD, dE]
  refine den_cal [I64d (if mok R M T G then 0 else 1)] rfl (valid_fn R M T G) (by simp only [E.den, D.toI, D.toB, D.toL, D.toS, D.len, D.mapL, flatD, dE]) rfl ?_
  refine den_ite (fun h5 => ?_) (fun h5 => ?_) <;> simp only [E.den, D.toI, D.toB, D.toL, D.toS, D.len, D.mapL, flatD, dE] at h5
  · refine den_ret ?_
    simp only [E.den, D.toI, D.toB, D.toL, D.toS, D.len, D.mapL, flatD, dE]
  have hm : mok R M T G := by
    by_cases hm : mok R M T G
    · exact hm
    · rw [if_neg hm] at h5
      exact absurd h5 (by decide)
  clear h5
  obtain ⟨m1, m2, m3, m4, m5, m6, m7, m8⟩ := id hm
  have hE0 : Em T G L 0 = 0 := Em_zero m5 m6
  have hr0 : reg R M T G L 0 = R := by unfold reg; rw [hE0, Int.add_zero]; exact Int.emod_eq_of_lt m3 m4
  have hA0 : Am T G L 0 % 1000000 = T := by simp only [Am, Sm]; omega
  obtain ⟨k, hk⟩ : ∃ k : Nat, (k : Int) = U % 9 + 1 := ⟨(U % 9 + 1).toNat, by omega⟩
  have hk1 : 1 ≤ k := by omega
  have hk9 : k ≤ 9 := by omega
  have hkw : IntKind.i64.wrap ((IntKind.i64.wrap U).tmod 9 + 1) = (k : Int) := by
    rw [w64 (n := U) (by omega) (by omega), Int.tmod_eq_emod_of_nonneg hU0, ← hk, w64 (by omega) (by omega)]
  refine den_loopI (fun xs => ∃ (i : Nat) (ts : List Nat) (b : Bool), xs = [I64d (reg R M T G L i), I64d M, I64d (Am T G L i % 1000000), I64d G, .lst (dataR (rdOf R M T G L ts)), .bool b, I64d (Sm L i), I64d i] ∧ i ≤ L.length ∧ (∀ j, j < i → 0 ≤ L.getD j 0 ∧ L.getD j 0 ≤ 100000) ∧ TsInv ts i L.length k)
    (fun xs => L.length - (xs.getD 7 default).toI.toNat) ⟨0, [0], false, ?_, by omega, fun j hj => by omega, TsInv.start⟩ ?_
  · simp only [E.den, D.toI, D.toB, D.toL, D.toS, D.len, D.mapL, flatD, dE]
    rw [hr0, hA0]
    simp [dataR, rdOf, hr0, Sm]
  rintro _ ⟨i, ts, b, rfl, hi, hL, hts⟩
  obtain ⟨s0, s1⟩ := Sm_bd hL
  have hlen : (dataR (rdOf R M T G L ts)).length = ts.length := by rw [len_R, rd_len]
  have htl := hts.len
  refine den_ite (fun h6 => ?_) (fun h6 => ?_) <;> simp only [E.den, D.toI, D.toB, D.toL, D.toS, D.len, D.mapL, flatD, dE] at h6
  · have hi' : i < L.length := by omega
    have hg := get_I hi'
    refine den_ev (evs_ob (by simp only [E.den, D.toI, D.toB, D.toL, D.toS, D.len, D.mapL, flatD, dE]; omega) (evs_ob (by simp only [E.den, D.toI, D.toB, D.toL, D.toS, D.len, D.mapL, flatD, dE]; omega) (evs_nil ?_)))
    refine den_ite (fun h7 => ?_) (fun h7 => ?_) <;> simp only [E.den, D.toI, D.toB, D.toL, D.toS, D.len, D.mapL, flatD, dE, hg] at h7
    · refine den_ret ?_
      simp only [E.den, D.toI, D.toB, D.toL, D.toS, D.len, D.mapL, flatD, dE]
    refine den_ite (fun h8 => ?_) (fun h8 => ?_) <;> simp only [E.den, D.toI, D.toB, D.toL, D.toS, D.len, D.mapL, flatD, dE, hg] at h8
    · refine den_ret ?_
      simp only [E.den, D.toI, D.toB, D.toL, D.toS, D.len, D.mapL, flatD, dE]
    have hL' : ∀ j, j < i + 1 → 0 ≤ L.getD j 0 ∧ L.getD j 0 ≤ 100000 := by
      intro j hj
      rcases Nat.lt_or_ge j i with hj2 | hj2
      · exact hL j hj2
      · rw [show j = i by omega]; exact ⟨h7, h8⟩
    obtain ⟨g0, g1⟩ := reg_bd (R := R) (T := T) (G := G) (L := L) (show 0 < M by omega) i
    have hc := count_fn (R := reg R M T G L i) (M := M) (T := Am T G L i % 1000000) (G := G) (x := L.getD i 0) ⟨m1, m2, g0, g1, by omega, by omega, m7, m8⟩ h7 h8
    have hst := Am_step (T := T) (G := G) (L := L) i
    have hreg : (reg R M T G L i + (L.getD i 0 * (1000000 + G) + Am T G L i % 1000000) / 1000000) % M = reg R M T G L (i + 1) := by
      unfold reg
      rw [Int.emod_add_emod]
      congr 1
      unfold Em
      rw [hst]
      omega
    have hT : (L.getD i 0 * (1000000 + G) + Am T G L i % 1000000) % 1000000 = Am T G L (i + 1) % 1000000 := by
      rw [hst]
      omega
    rw [hreg, hT] at hc
    refine den_cal [I64d (reg R M T G L (i + 1)), I64d M, I64d (Am T G L (i + 1) % 1000000), I64d G, I64d 0] rfl hc (by simp only [E.den, D.toI, D.toB, D.toL, D.toS, D.len, D.mapL, flatD, dE, hg]) rfl ?_
    refine den_ite (fun h9 => ?_) (fun h9 => ?_) <;> simp only [E.den, D.toI, D.toB, D.toL, D.toS, D.len, D.mapL, flatD, dE] at h9
    · exact (h9 trivial).elim
    have hw : IntKind.wrap .i64 ((i : Int) + 1) = ((i + 1 : Nat) : Int) := by rw [w64 (by omega) (by omega)]; omega
    have hmod : (((i + 1 : Nat) : Int)).tmod (k : Int) = (((i + 1) % k : Nat) : Int) := by rw [Int.tmod_eq_emod_of_nonneg (by omega)]; rfl
    have hsm : IntKind.wrap .i64 (Sm L i + L.getD i 0) = Sm L (i + 1) := by rw [w64 (by omega) (by omega)]; rfl
    have hadd : ∀ (hm : (i + 1) % k = 0 ∨ i + 1 = L.length), True := fun _ => trivial
    refine den_ev (evs_ob (by simp only [E.den, D.toI, D.toB, D.toL, D.toS, D.len, D.mapL, flatD, dE, hkw]; omega) (evs_nil ?_))
    refine den_ite (fun h10 => ?_) (fun h10 => ?_) <;> simp only [E.den, D.toI, D.toB, D.toL, D.toS, D.len, D.mapL, flatD, dE, hkw, hw, hmod] at h10
    · refine den_ev (evs_ob (by simp only [E.den, D.toI, D.toB, D.toL, D.toS, D.len, D.mapL, flatD, dE, hlen]; omega) (evs_nil ?_))
      refine den_back rfl ⟨i + 1, ts ++ [i + 1], b, ?_, by omega, hL', hts.add hk1 hk9 hi' (.inl (by omega))⟩ (by first | (simp only [E.den, D.toI, D.toB, D.toL, D.toS, D.len, D.mapL, flatD, dE, hw]; omega) | (simp only []; simp only [E.den, D.toI, D.toB, D.toL, D.toS, D.len, D.mapL, flatD, dE, hw]; omega))
      simp only [E.den, D.toI, D.toB, D.toL, D.toS, D.len, D.mapL, flatD, dE, hg, hw, hsm]
      rw [rd_snoc]
    · have hw1 : IntKind.wrap .i64 ((L.length : Int) - 1) = ((L.length - 1 : Nat) : Int) := by rw [w64 (by omega) (by omega)]; omega
      refine den_ite (fun h11 => ?_) (fun h11 => ?_) <;> simp only [E.den, D.toI, D.toB, D.toL, D.toS, D.len, D.mapL, flatD, dE, hw1] at h11
      · refine den_ev (evs_ob (by simp only [E.den, D.toI, D.toB, D.toL, D.toS, D.len, D.mapL, flatD, dE, hlen]; omega) (evs_nil ?_))
        refine den_back rfl ⟨i + 1, ts ++ [i + 1], b, ?_, by omega, hL', hts.add hk1 hk9 hi' (.inr (by omega))⟩ (by first | (simp only [E.den, D.toI, D.toB, D.toL, D.toS, D.len, D.mapL, flatD, dE, hw]; omega) | (simp only []; simp only [E.den, D.toI, D.toB, D.toL, D.toS, D.len, D.mapL, flatD, dE, hw]; omega))
        simp only [E.den, D.toI, D.toB, D.toL, D.toS, D.len, D.mapL, flatD, dE, hg, hw, hsm]
        rw [rd_snoc]
      · refine den_back rfl ⟨i + 1, ts, b, ?_, by omega, hL', hts.skip hk1 (by omega) (by omega)⟩ (by first | (simp only [E.den, D.toI, D.toB, D.toL, D.toS, D.len, D.mapL, flatD, dE, hw]; omega) | (simp only []; simp only [E.den, D.toI, D.toB, D.toL, D.toS, D.len, D.mapL, flatD, dE, hw]; omega))
        simp only [E.den, D.toI, D.toB, D.toL, D.toS, D.len, D.mapL, flatD, dE, hg, hw, hsm]
  · have hin : i = L.length := by omega
    subst hin
    have hok := ts_ok (R := R) (by omega) hm h4 hts hL
    have hN : (rdOf R M T G L ts).length - 1 = ts.length - 1 := by rw [rd_len]
    have hlast := hts.l1 rfl
    have hS := sumTo_tel (dl := fun x => Em T G L (ts.getD (x + 1) 0) - Em T G L (ts.getD x 0)) (f := fun x => Em T G L (ts.getD x 0)) (m := ts.length - 1) (fun x _ => rfl)
    simp only [hlast, hts.fst, hE0] at hS
    rw [Int.sub_zero] at hS
    have ht := total_fn hok
    rw [hN, hS] at ht
    have hmn := minutes_fn hok
    rw [hN] at hmn
    have hml := min_len (dl := fun x => Em T G L (ts.getD (x + 1) 0) - Em T G L (ts.getD x 0)) (gp := fun x => ts.getD (x + 1) 0 - ts.getD x 0) (f := fun x => ts.getD x 0) (m := ts.length - 1) (fun x hx => by have := hts.nxt x (by omega); omega)
    simp only [hlast, hts.fst, Nat.add_zero] at hml
    have hms := min_sum (dl := fun x => Em T G L (ts.getD (x + 1) 0) - Em T G L (ts.getD x 0)) (gp := fun x => ts.getD (x + 1) 0 - ts.getD x 0) (m := ts.length - 1) (fun x hx => by have := hts.nxt x (by omega); omega)
    rw [hS] at hms
    have hmb := min_bd (dl := fun x => Em T G L (ts.getD (x + 1) 0) - Em T G L (ts.getD x 0)) (gp := fun x => ts.getD (x + 1) 0 - ts.getD x 0) (m := ts.length - 1) (fun x hx => by have := hok.nxt x (by rw [rd_len]; omega); exact ⟨this.2.2.2.2.1, this.2.2.2.2.2, this.2.2.1⟩)
    generalize minTo (fun x => Em T G L (ts.getD (x + 1) 0) - Em T G L (ts.getD x 0)) (fun x => ts.getD (x + 1) 0 - ts.getD x 0) (ts.length - 1) = mins at hmn hml hms hmb
    have hsx : Sm L L.length ≤ 30000000 := by omega
    have hbd := bounds_fn hm s0 hsx
    have hEm : Em T G L L.length = (Sm L L.length * (1000000 + G) + T) / 1000000 := rfl
    obtain ⟨p0, p1⟩ := prod_bd m7 m8 s0 hsx
    refine den_cal [I64d (Em T G L L.length), I64d 0] rfl ht (by simp only [E.den, D.toI, D.toB, D.toL, D.toS, D.len, D.mapL, flatD, dE]) rfl ?_
    refine den_ite (fun h9 => ?_) (fun h9 => ?_) <;> simp only [E.den, D.toI, D.toB, D.toL, D.toS, D.len, D.mapL, flatD, dE] at h9
    · exact (h9 trivial).elim
    refine den_cal [I64d (Sm L L.length * (1000000 + G) / 1000000), I64d ((Sm L L.length * (1000000 + G) + 999999) / 1000000), I64d 0] rfl hbd (by simp only [E.den, D.toI, D.toB, D.toL, D.toS, D.len, D.mapL, flatD, dE]) rfl ?_
    refine den_ite (fun h9 => ?_) (fun h9 => ?_) <;> simp only [E.den, D.toI, D.toB, D.toL, D.toS, D.len, D.mapL, flatD, dE] at h9
    · exact (h9 trivial).elim
    refine den_ite (fun h9 => ?_) (fun h9 => ?_) <;> simp only [E.den, D.toI, D.toB, D.toL, D.toS, D.len, D.mapL, flatD, dE] at h9
    · omega
    refine den_ite (fun h9 => ?_) (fun h9 => ?_) <;> simp only [E.den, D.toI, D.toB, D.toL, D.toS, D.len, D.mapL, flatD, dE] at h9
    · omega
    refine den_cal [isD mins, I64d 0] rfl hmn (by simp only [E.den, D.toI, D.toB, D.toL, D.toS, D.len, D.mapL, flatD, dE]) rfl ?_
    refine den_ite (fun h9 => ?_) (fun h9 => ?_) <;> simp only [E.den, D.toI, D.toB, D.toL, D.toS, D.len, D.mapL, flatD, dE] at h9
    · exact (h9 trivial).elim
    refine den_ite (fun h9 => ?_) (fun h9 => ?_) <;> simp only [E.den, D.toI, D.toB, D.toL, D.toS, D.len, D.mapL, flatD, dE] at h9
    · omega
    have hts2 := take_sum hmb (by omega)
    refine den_loopI (fun xs => ∃ i : Nat, xs = [I64d (Em T G L L.length - (mins.take i).sum), I64d i] ∧ i ≤ mins.length) (fun xs => mins.length - (xs.getD 1 default).toI.toNat) ⟨0, (by simp only [E.den, D.toI, D.toB, D.toL, D.toS, D.len, D.mapL, flatD, dE]; simp), by omega⟩ ?_
    rintro _ ⟨i, rfl, hi2⟩
    refine den_ite (fun h10 => ?_) (fun h10 => ?_) <;> simp only [E.den, D.toI, D.toB, D.toL, D.toS, D.len, D.mapL, flatD, dE] at h10
    · have hi' : i < mins.length := by omega
      have hg := get_I hi'
      have a0 := hts2 i
      have a1 := hts2 (i + 1)
      have htk : (mins.take (i + 1)).sum = (mins.take i).sum + mins.getD i 0 := by
        rw [List.take_add_one, List.sum_append, List.getElem?_eq_getElem hi', List.getD_eq_getElem?_getD, List.getElem?_eq_getElem hi']
        simp
      have hw : IntKind.wrap .i64 ((i : Int) + 1) = ((i + 1 : Nat) : Int) := by rw [w64 (by omega) (by omega)]; omega
      refine den_ev (evs_ob (by simp only [E.den, D.toI, D.toB, D.toL, D.toS, D.len, D.mapL, flatD, dE]; omega) (evs_ob (by simp only [E.den, D.toI, D.toB, D.toL, D.toS, D.len, D.mapL, flatD, dE]; omega) (evs_nil ?_)))
      refine den_back rfl ⟨i + 1, ?_, by omega⟩ (by first | (simp only [E.den, D.toI, D.toB, D.toL, D.toS, D.len, D.mapL, flatD, dE, hw]; omega) | (simp only []; simp only [E.den, D.toI, D.toB, D.toL, D.toS, D.len, D.mapL, flatD, dE, hw]; omega))
      simp only [E.den, D.toI, D.toB, D.toL, D.toS, D.len, D.mapL, flatD, dE, hg, hw]
      rw [w64 (by omega) (by omega), htk]
      simp only [List.cons.injEq, D.int.injEq, true_and, and_true]
      omega
    · refine den_ret ?_
      simp only [E.den, D.toI, D.toB, D.toL, D.toS, D.len, D.mapL, flatD, dE]
      rw [show mins.take i = mins from List.take_of_length_le (by omega), hms, Int.sub_self]
      rfl

set_option maxRecDepth 100000 in
theorem metersBound_lifted (os : Os) (started : os.Started) (H : Type) (enc : TypeId × Value → H) :
    ReturnsInHanded {} Try.checked os 3 .any (Rows.metersBoundSpec.pre6 enc Try.prog Try.f3 Rows.metersBoundRow.domain false) (Rows.metersBoundSpec.post enc Try.prog Try.f3 false true false false) := by
  refine returnsInHanded_of_change (C := Try.checked) own started (by kernel_rfl) Try.func3
    (ChangeSpec.witness6 (enc := enc) (C := Try.checked) false ⟨#[], #[.agg #[.int .i64 0, .int .i64 0, .int .i64 0, .int .i64 0], .slice none 0 0, .int .u8 0], []⟩ 8 (by kernel_rfl) (by kernel_rfl) (by kernel_rfl) (by kernel_rfl)) ?_
  intro W base args ds gs before hval0 hW hcnd _
  have hval : ∀ (j : Nat) t v, Try.f3.params[j]? = some t → args[j]? = some v → Value.okWide Try.prog W .any base t v := hval0
  obtain ⟨q, q', hA0, _, _, _, _⟩ := id hW
  have hA : DataW.TrodAll enc Try.prog W 0 (fun _ => true) true Try.f3.params.toList args.toList ds q := hA0
  have walk := law_walk (P := Try.prog) (f := 3) (fn := Try.f3) (fun p hp => by cases hp) (Ts := [tM, .c (.lst [.int .i64]), .c (.int .u8)]) (by kernel_rfl) law_all hval hA
  rw [Try.params3] at hA
  obtain ⟨v0, vs0, d0, ds0, p0, q0, hargs0, rfl, rfl, h0, r0⟩ := trodAll_cons hA
  obtain ⟨v1, vs1, d1, ds1, p1, q1, hargs1, rfl, rfl, h1, r1⟩ := trodAll_cons r0
  subst hargs1
  obtain ⟨v2, vs2, d2, ds2, p2, q2, hargs2, rfl, rfl, h2, r2⟩ := trodAll_cons r1
  subst hargs2
  obtain ⟨rfl, rfl, rfl⟩ := trodAll_nil r2
  refine walk.mono fun e W' ⟨he, hb⟩ => ?_
  subst he
  exact ⟨_, rfl, law_post (tb := 4) laidOut rfl (by kernel_rfl) rfl Try.underlying4 hW rfl hb⟩

theorem metersBound_holds : Rows.MetersBoundSaid :=
  OpenClaim.holds_of_wide 3 Try.f3 rfl rfl rfl rfl rfl rfl rfl ⟨rfl, rfl, rfl, rfl, rfl⟩ rfl rfl rfl rfl rfl (by kernel_rfl) Try.func3 (by kernel_rfl)
    (of_decide_eq_true (by kernel_rfl)) (by unfold Func.isWrapper; first | (rw [if_pos (by decide +kernel)]; kernel_rfl) | (rw [if_neg (by decide +kernel)]; exact ⟨rfl, rfl⟩))
    (fun os started H enc _ => metersBound_lifted os started H enc)
#print axioms metersBound_holds
end Go.Proofs.Ytighdhddeidmcaa
