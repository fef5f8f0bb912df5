/-
  CallOnce: its walk and its row.
-/
import Derived.Test.YtmplgfkhknhacaaO27
set_option maxRecDepth 100000
set_option linter.unusedSimpArgs false
set_option linter.unusedVariables false
namespace Go.Proofs.Ytmplgfkhknhacaa
open Go.Proofs.Ytmplgfkhknhacaa.Sy Go.Proofs.Ytmplgfkhknhacaa.L7 Go.Proofs.Ytmplgfkhknhacaa.Id Go.Proofs.Ytmplgfkhknhacaa.R26 Go.Proofs.Ytmplgfkhknhacaa.V26 Go.Proofs.Ytmplgfkhknhacaa.N27 Go.Proofs.Ytmplgfkhknhacaa.C27 Go.RowKit Go.WideShapes Go.ChangeShapes Go.ChangeAt

theorem typ_u8o {d : D} (h : Typ (.int .u8) d) : ∃ n : Int, d = .int .u8 n ∧ 0 ≤ n ∧ n ≤ 255 := by
  unfold Typ at h
  obtain ⟨n, rfl, a, b⟩ := h
  rw [min_u8] at a
  rw [max_u8] at b
  exact ⟨n, rfl, a, b⟩
structure W1 (T R : Int) (n : Nat) (a b : Ep) (ran : List Int) (en : List Bool) (pk : Int) (lt : List Msg) (tu la : Int) (k now : Nat) : Prop where
  ha : AS T R n now a k
  hb : BS n b ran la
  hel : en.length = n + 1
  het : ∀ i : Nat, 1 ≤ i → i ≤ k → en.getD i false = true
  hll : lt.length ≤ 1
  hlg : ∀ m ∈ lt, GM n ran m
  hpk : 0 ≤ pk ∧ pk ≤ 2 * now
  htu : 0 ≤ tu ∧ tu ≤ now
  hnw : now ≤ 200
structure W3 (n : Nat) (b : Ep) (ran : List Int) (p0 pk : Int) (bk lt : List Msg) (t0 tu la : Int) (j sl : Nat) : Prop where
  hb : BS n b ran la
  hj : j ≤ sl
  hpk : 0 ≤ pk ∧ pk ≤ p0 + 2 * j
  htu : 0 ≤ tu ∧ tu ≤ t0 + j
  hbl : bk.length ≤ 1 + j
  hll : lt.length ≤ j
  hbg : ∀ m ∈ bk, GM n ran m
  hlg : ∀ m ∈ lt, GM n ran m
structure W4 (T R : Int) (n : Nat) (a : Ep) (en : List Bool) (k now j bl : Nat) : Prop where
  ha : AS T R n ((now + 1 : Nat) : Int) a k
  hel : en.length = n + 1
  het : ∀ i : Nat, 1 ≤ i → i ≤ k → en.getD i false = true
  hj : j ≤ bl
theorem et_set {en : List Bool} {n k : Nat} (h1 : en.length = n + 1) (h2 : ∀ i : Nat, 1 ≤ i → i ≤ k → en.getD i false = true) (hk : k + 1 ≤ n) :
    (en.set (k + 1) true).length = n + 1 ∧ ∀ i : Nat, 1 ≤ i → i ≤ k + 1 → (en.set (k + 1) true).getD i false = true := by
  refine ⟨by rw [List.length_set]; exact h1, fun i hi hik => ?_⟩
  by_cases e : i = k + 1
  · subst e
    simp [List.getD_eq_getElem?_getD, h1, show k + 1 < n + 1 by omega]
  · have := h2 i hi (by omega)
    simp [List.getD_eq_getElem?_getD, List.getElem?_set_ne (show k + 1 ≠ i by omega)] at this ⊢
    exact this
theorem gm_app {n : Nat} {ran : List Int} {l r : List Msg} (h1 : ∀ m ∈ l, GM n ran m) (h2 : ∀ m ∈ r, GM n ran m) : ∀ m ∈ l ++ r, GM n ran m := fun m hm => (List.mem_append.1 hm).elim (h1 m) (h2 m)
theorem AF.kn {T R : Int} {n k : Nat} {now : Int} {a : Ep} (h : AF T R n now a k) : k ≤ n := by cases h <;> omega
theorem w1_0 {T R : Int} {n : Nat} : W1 T R n (aI T R n 0) (aI 3 2 0 0) (List.replicate (n + 1) 0) (List.replicate (n + 1) false) 0 [] 0 0 0 0 :=
  ⟨as_0, bs_0 n, List.length_replicate, fun i h1 h2 => by omega, Nat.zero_le _, (fun m hm => by cases hm), ⟨by omega, by omega⟩, ⟨by omega, by omega⟩, by omega⟩
set_option maxHeartbeats 16000000 in
theorem law_all (xs : List D) (h : TypTs [.g [.int .u8, .int .u8, .int .u8, .lst [.bool], .lst [.bool]]] xs) : Fun Try.prog [] 9 [.g [.int .u8, .int .u8, .int .u8, .lst [.bool], .lst [.bool]]] xs [.c .bool] (.ok [.bool true]) := by
  obtain ⟨d, _, rfl, h0, rfl⟩ := h
  obtain ⟨ds, rfl, h⟩ := h0
  unfold Typs at h
  obtain ⟨_, _, rfl, h0, h⟩ := h
  unfold Typs at h
  obtain ⟨_, _, rfl, h1, h⟩ := h
  unfold Typs at h
  obtain ⟨_, _, rfl, h2, h⟩ := h
  unfold Typs at h
  obtain ⟨_, _, rfl, h3, h⟩ := h
  unfold Typs at h
  obtain ⟨_, _, rfl, h4, h⟩ := h
  unfold Typs at h
  subst h
  obtain ⟨c0, rfl, a0, b0⟩ := typ_u8o h0
  obtain ⟨c1, rfl, a1, b1⟩ := typ_u8o h1
  obtain ⟨c2, rfl, a2, b2⟩ := typ_u8o h2
  obtain ⟨lo, rfl, _⟩ := typ_bools h3
  obtain ⟨lat, rfl, _⟩ := typ_bools h4
  refine once_ent _ _ ?_
  show vconce.den _ _ _ _ _
  unfold vconce
  have hwc0 : IntKind.wrap .i64 c0 = c0 := wrap_i64 (by omega) (by omega)
  have hwc1 : IntKind.wrap .i64 c1 = c1 := wrap_i64 (by omega) (by omega)
  have hwc2 : IntKind.wrap .i64 c2 = c2 := wrap_i64 (by omega) (by omega)
  obtain ⟨n, hn⟩ : ∃ n : Nat, c2.tmod 7 = (n : Int) := ⟨(c2.tmod 7).toNat, by have := Int.tmod_nonneg (7 : Int) a2; omega⟩
  have hn6 : n ≤ 6 := by have := Int.tmod_lt_of_pos c2 (b := 7) (by decide); omega
  obtain ⟨R, hR⟩ : ∃ R, c1.tmod 4 = R := ⟨_, rfl⟩
  obtain ⟨T, hT⟩ : ∃ T, 1 + c0.tmod 4 = T := ⟨_, rfl⟩
  have cfg : Cfg T R n := by
    have q1 := Int.tmod_nonneg (4 : Int) a0
    have q2 := Int.tmod_lt_of_pos c0 (b := 4) (by decide)
    have q3 := Int.tmod_nonneg (4 : Int) a1
    have q4 := Int.tmod_lt_of_pos c1 (b := 4) (by decide)
    exact ⟨by omega, by omega, hn6⟩
  have hwT : IntKind.wrap .i64 T = T := by have := cfg.t; exact wrap_i64 (by omega) (by omega)
  have hw1 : IntKind.wrap .i64 ((n : Int) + 1) = ((n + 1 : Nat) : Int) := by rw [wrap_i64 (by omega) (by omega)]; omega
  clear a0 b0 a1 b1 a2 b2 h0 h1 h2 h3 h4
  refine den_cal [I64d (aI T R 0 0).nx, I64d (aI T R 0 0).tm, I64d (aI T R 0 0).rt, msgsD (aI T R 0 0).qu, msgsD (aI T R 0 0).ou, I64d (aI T R 0 0).du, I64d (aI T R 0 0).tr, msgsD (aI T R 0 0).se, I64d 0] rfl (new_A T R (by have := cfg.t; have := cfg.r; omega)) (by simp only [dF, dE, hwc0, hwc1, hT, hR, hwT]) rfl ?_
  (try simp only [List.cons_append, List.nil_append])
  refine den_cal [I64d (aI 3 2 0 0).nx, I64d (aI 3 2 0 0).tm, I64d (aI 3 2 0 0).rt, msgsD (aI 3 2 0 0).qu, msgsD (aI 3 2 0 0).ou, I64d (aI 3 2 0 0).du, I64d (aI 3 2 0 0).tr, msgsD (aI 3 2 0 0).se, I64d 0] rfl (new_A 3 2 (by omega)) rfl rfl ?_
  (try simp only [List.cons_append, List.nil_append])
  refine den_f rfl ?_
  refine den_f rfl ?_
  refine den_loopI (fun xs => ∃ (q : Bool) (j : Nat), xs = [I64d (aI T R j 0).nx, I64d (aI T R j 0).tm, I64d (aI T R j 0).rt, msgsD (aI T R j 0).qu, msgsD (aI T R j 0).ou, I64d (aI T R j 0).du, I64d (aI T R j 0).tr, msgsD (aI T R j 0).se, .bool q, I64d ((j + 1 : Nat) : Int)] ∧ j ≤ n) (fun xs => 10 - (xs.getD 9 default).toI.toNat) ⟨false, 0, (by simp only [dF, dE]; first | done | rfl), Nat.zero_le _⟩ ?_
  rintro _ ⟨q, j, rfl, hj⟩
  (try simp only [List.cons_append, List.nil_append])
  refine den_ite (fun h1 => ?_) (fun h1 => ?_)
  · simp only [dF, dE, hwc2, hn] at h1
    have hw : IntKind.wrap .i64 (((j + 1 : Nat) : Int) + 1) = ((j + 1 + 1 : Nat) : Int) := by rw [wrap_i64 (by omega) (by omega)]; omega
    refine den_ev ?_
    refine evs_call [I64d 1, I64d 0, I64d 2, I64d 0, I64d 0, I64d 0, I64d 0, I64d 0, .str ⟨#[]⟩, .str ⟨#[]⟩, .str ⟨#[]⟩, .bool false, .lst [], I64d 0, I64d 0, I64d 0, I64d 0, I64d 0, .str ⟨#[]⟩, I64d 0, I64d 0, I64d 0, I64d 0, .lst [], .lst []] rfl (beat_fn 0) rfl rfl ?_
    (try simp only [List.cons_append, List.nil_append])
    refine evs_call [I64d (aI T R (j + 1) 0).nx, I64d (aI T R (j + 1) 0).tm, I64d (aI T R (j + 1) 0).rt, msgsD (aI T R (j + 1) 0).qu, msgsD (aI T R (j + 1) 0).ou, I64d (aI T R (j + 1) 0).du, I64d (aI T R (j + 1) 0).tr, msgsD (aI T R (j + 1) 0).se, I64d ((j + 1 : Nat) : Int), I64d 0] rfl (call_A (T := T) (R := R) (j := j) (by omega)) rfl rfl ?_
    refine evs_nil ?_
    (try simp only [List.cons_append, List.nil_append])
    refine den_f rfl ?_
    refine den_f (by simp only [dF, dE]) ?_
    exact den_back rfl ⟨q, j + 1, (by simp only [dF, dE, hw]; first | done | rfl), by omega⟩ (by simp only []; simp only [dF, dE, hw]; omega)
  simp only [dF, dE, hwc2, hn] at h1
  have hjn : n = j := by omega
  subst hjn
  refine den_ev (evs_ob (by simp only [dF, dE, hwc2, hn, hw1]; first | done | omega) (evs_ob (by simp only [dF, dE, hwc2, hn, hw1]; first | done | omega) (evs_nil ?_)))
  refine den_ev (evs_ob (by simp only [dF, dE, hwc2, hn, hw1]; first | done | omega) (evs_ob (by simp only [dF, dE, hwc2, hn, hw1]; first | done | omega) (evs_nil ?_)))
  refine den_loopI (fun xs => ∃ (a b : Ep) (ran : List Int) (en : List Bool) (pk : Int) (lt : List Msg) (q : Bool) (tu la : Int) (k now : Nat), xs = [I64d a.nx, I64d a.tm, I64d a.rt, msgsD a.qu, msgsD a.ou, I64d a.du, I64d a.tr, msgsD a.se, I64d b.nx, I64d b.tm, I64d b.rt, msgsD b.qu, msgsD b.ou, I64d b.du, I64d b.tr, msgsD b.se, .lst (ran.map I64d), boD en, I64d pk, msgsD lt, .bool q, I64d tu, I64d la, I64d k, I64d now] ∧ W1 T R n a b ran en pk lt tu la k now) (fun xs => 200 - (xs.getD 24 default).toI.toNat) ⟨aI T R n 0, aI 3 2 0 0, List.replicate (n + 1) 0, List.replicate (n + 1) false, 0, [], q, 0, 0, 0, 0, (by simp only [dF, dE, hwc2, hn, hw1, msgsD, boD, List.map_replicate]; first | done | rfl), w1_0⟩ ?_
  clear h1 hj
  rintro _ ⟨a, b, ran, en, pk, lt, q1, tu, la, k, now, rfl, w⟩
  (try simp only [List.cons_append, List.nil_append])
  refine den_ite (fun h2 => ?_) (fun h2 => ?_)
  rotate_left
  · simp only [dF, dE] at h2
    have hnk : n = k := by
      have ha := w.ha
      rw [show ((now : Nat) : Int) = 200 from by have := w.hnw; omega] at ha
      exact (ha.done cfg).symm
    have hel := w.hel
    have het := w.het
    clear w
    subst hnk
    refine den_loopI (fun xs => ∃ (q2 : Bool) (i : Nat), xs = [.bool q2, I64d ((i + 1 : Nat) : Int)] ∧ i ≤ n) (fun xs => 10 - (xs.getD 1 default).toI.toNat) ⟨q1, 0, (by simp only [dF, dE]; first | done | rfl), Nat.zero_le _⟩ ?_
    rintro _ ⟨q2, i, rfl, hi⟩
    (try simp only [List.cons_append, List.nil_append])
    refine den_ite (fun h3 => ?_) (fun h3 => ?_)
    · simp only [dF, dE, hwc2, hn] at h3
      have hg := get_bo (l := en) (i := i + 1) (by omega)
      have het := het (i + 1) (by omega) (by omega)
      have hw : IntKind.wrap .i64 (((i + 1 : Nat) : Int) + 1) = ((i + 1 + 1 : Nat) : Int) := by rw [wrap_i64 (by omega) (by omega)]; omega
      refine den_ev (evs_ob (by simp only [dF, dE]; first | done | omega) (evs_ob (by simp only [dF, dE]; first | done | omega) (evs_nil ?_)))
      refine den_ev (evs_ob (by simp only [dF, dE]; first | done | omega) (evs_nil ?_))
      refine den_t (by simp only [dF, dE, hg]; exact het) ?_
      exact den_back rfl ⟨q2, i + 1, (by simp only [dF, dE, hw]; first | done | rfl), by omega⟩ (by simp only []; simp only [dF, dE, hw]; omega)
    · exact den_cal [.bool true] rfl ex_fn rfl rfl (den_ret rfl)
  simp only [dF, dE] at h2
  have hlt := w.hll
  refine den_ev (evs_ob (by simp only [dF, dE]; first | done | omega) (evs_nil ?_))
  obtain ⟨a', s, f, k', hF, hAF, hf, hs⟩ := send_A cfg w.ha (by omega) h2
  refine den_cal [I64d a'.nx, I64d a'.tm, I64d a'.rt, msgsD a'.qu, msgsD a'.ou, I64d a'.du, I64d a'.tr, msgsD a'.se, msgsD s, msgsD f] rfl hF rfl rfl ?_
  (try simp only [List.cons_append, List.nil_append])
  have hsl : s.length ≤ 1 := by rcases hs with e | ⟨i, e, _, _⟩ <;> rw [e] <;> simp
  have hk' := hAF.kn
  refine den_loopI (fun xs => ∃ (en2 : List Bool) (q2 : Bool) (j : Nat), xs = [boD en2, .bool q2, I64d ((k + j : Nat) : Int), I64d j] ∧ j ≤ f.length ∧ en2.length = n + 1 ∧ ∀ i : Nat, 1 ≤ i → i ≤ k + j → en2.getD i false = true) (fun xs => 2 - (xs.getD 3 default).toI.toNat) ⟨en, q1, 0, (by simp only [dF, dE]; first | done | rfl), Nat.zero_le _, w.hel, w.het⟩ ?_
  rintro _ ⟨en2, q2, j, rfl, hj, he1, he2⟩
  (try simp only [List.cons_append, List.nil_append])
  refine den_ite (fun h3 => ?_) (fun h3 => ?_)
  · simp only [dF, dE] at h3
    rcases hf with ⟨e1, e2⟩ | ⟨e1, e2⟩
    · rw [e1] at h3
      simp only [List.length_nil] at h3
      omega
    have hj0 : 0 = j := by rw [e1] at h3; simp only [List.length_cons, List.length_nil] at h3; omega
    subst hj0
    subst e1
    have he2 : ∀ i : Nat, 1 ≤ i → i ≤ k → en2.getD i false = true := he2
    have hw : IntKind.wrap .i64 (((k + 0 : Nat) : Int) + 1) = ((k + 1 : Nat) : Int) := by rw [wrap_i64 (by omega) (by omega)]; omega
    have hwj : IntKind.wrap .i64 (((0 : Nat) : Int) + 1) = ((1 : Nat) : Int) := by rw [wrap_i64 (by decide) (by decide)]; rfl
    obtain ⟨hs1, hs2⟩ := et_set he1 he2 (by omega)
    refine den_ev (evs_ob (by simp only [dF, dE]; first | done | omega) (evs_ob (by simp only [dF, dE]; first | done | omega) (evs_nil ?_)))
    refine den_f (by simp only [dF, dE, hw]; first | done | rfl) ?_
    refine den_ev (evs_ob (by simp only [dF, dE, hw]; first | done | omega) (evs_ob (by simp only [dF, dE, hw]; first | done | omega) (evs_nil ?_)))
    refine den_ev (evs_ob (by simp only [dF, dE, hw]; first | done | omega) (evs_nil ?_))
    exact den_back rfl ⟨en2.set (k + 1) true, q2, 1, (by simp only [dF, dE, hw, hwj, set_bo]; first | done | rfl), Nat.le_refl _, hs1, hs2⟩ (by simp only []; simp only [dF, dE, hwj]; omega)
  simp only [dF, dE] at h3
  have hkj : k + j = k' := by
    rcases hf with ⟨e1, e2⟩ | ⟨e1, e2⟩
    · rw [e1] at hj h3; simp only [List.length_nil] at hj; omega
    · rw [e1] at hj h3; simp only [List.length_cons, List.length_nil] at hj h3; omega
  rw [hkj] at he2 ⊢
  clear hf hj h3 hkj
  have hpk := w.hpk
  have htu := w.htu
  have hwn : IntKind.wrap .i64 ((now : Int) + 1) = (now : Int) + 1 := wrap_i64 (by omega) (by omega)
  refine den_loopI (fun xs => ∃ (b3 : Ep) (ran3 : List Int) (pk3 : Int) (bk lt3 : List Msg) (q3 : Bool) (tu3 la3 : Int) (i : Nat), xs = [I64d b3.nx, I64d b3.tm, I64d b3.rt, msgsD b3.qu, msgsD b3.ou, I64d b3.du, I64d b3.tr, msgsD b3.se, .lst (ran3.map I64d), I64d pk3, msgsD bk, msgsD lt3, .bool q3, I64d tu3, I64d la3, I64d i] ∧ W3 n b3 ran3 pk pk3 bk lt3 tu tu3 la3 i s.length) (fun xs => 2 - (xs.getD 15 default).toI.toNat) ⟨b, ran, pk, lt, [], q2, tu, la, 0, (by simp only [dF, dE, msgsD]; first | done | rfl), ⟨w.hb, Nat.zero_le _, ⟨by omega, by omega⟩, ⟨by omega, by omega⟩, by omega, Nat.zero_le _, w.hlg, fun m hm => by cases hm⟩⟩ ?_
  rintro _ ⟨b3, ran3, pk3, bk, lt3, q3, tu3, la3, i3, rfl, v⟩
  (try simp only [List.cons_append, List.nil_append])
  have hpk3 := v.hpk
  have htu3 := v.htu
  have hbl := v.hbl
  have hll := v.hll
  have hi3 := v.hj
  refine den_ite (fun h4 => ?_) (fun h4 => ?_)
  · simp only [dF, dE] at h4
    rcases hs with e1 | ⟨i, e1, hi1, hi2⟩
    · rw [e1] at h4
      simp only [List.length_nil] at h4
      omega
    have hj0 : 0 = i3 := by omega
    subst hj0
    subst e1
    have hwj : IntKind.wrap .i64 (((0 : Nat) : Int) + 1) = ((1 : Nat) : Int) := by rw [wrap_i64 (by decide) (by decide)]; rfl
    have hwt : IntKind.wrap .i64 (tu3 + 1) = tu3 + 1 := wrap_i64 (by omega) (by omega)
    have hwt2 : IntKind.wrap .i64 (tu3 + 1 - 1) = ((tu3.toNat : Nat) : Int) := by rw [wrap_i64 (by omega) (by omega)]; omega
    refine den_cal [.bool (losB lo pk3), I64d (pk3 + 1)] rfl (lost_fn lo pk3 (by omega) (by omega)) rfl rfl ?_
    (try simp only [List.cons_append, List.nil_append])
    refine den_ite (fun h5 => ?_) (fun h5 => ?_)
    · exact den_back rfl ⟨b3, ran3, pk3 + 1, bk, lt3, q3, tu3, la3, 1, (by simp only [dF, dE, hwj]; first | done | rfl), ⟨v.hb, Nat.le_refl _, ⟨by omega, by omega⟩, ⟨by omega, by omega⟩, by omega, by omega, v.hbg, v.hlg⟩⟩ (by simp only []; simp only [dF, dE, hwj]; omega)
    clear h5
    refine den_ev (evs_ob (by simp only [dF, dE]; first | done | omega) (evs_ob (by simp only [dF, dE]; first | done | omega) (evs_nil ?_)))
    obtain ⟨p, fr, ag, hF2, hD⟩ := recv_B v.hb i hi1 (by omega)
    refine den_cal [I64d b3.nx, I64d b3.tm, I64d b3.rt, msgsD b3.qu, msgsD b3.ou, I64d b3.du, I64d b3.tr, msgsD b3.se, msgsD p, msgsD fr, msgsD ag] rfl hF2 rfl rfl ?_
    (try simp only [List.cons_append, List.nil_append])
    rcases hD with ⟨e1, hag, hagm⟩ | ⟨e1, hlt3⟩
    · subst e1
      refine den_f rfl ?_
      refine den_cal [.bool (losB lo (pk3 + 1)), I64d (pk3 + 1 + 1)] rfl (lost_fn lo (pk3 + 1) (by omega) (by omega)) rfl rfl ?_
      (try simp only [List.cons_append, List.nil_append])
      refine den_ite (fun h6 => ?_) (fun h6 => ?_)
      · exact den_back rfl ⟨b3, ran3, pk3 + 1 + 1, bk, lt3, q3, tu3, la3, 1, (by simp only [dF, dE, hwj, hwt, hwn, msgsD, List.map_append]; first | done | rfl), ⟨v.hb, Nat.le_refl _, ⟨by omega, by omega⟩, ⟨by omega, by omega⟩, by (try simp only [List.length_append, List.length_nil]); omega, by (try simp only [List.length_append, List.length_nil]); omega, v.hbg, v.hlg⟩⟩ (by simp only []; simp only [dF, dE, hwj]; omega)
      clear h6
      refine den_ite (fun h6 => ?_) (fun h6 => ?_)
      · simp only [dF, dE, hwt] at h6
        have hgl := get_bo (l := lat) (i := tu3.toNat) (by omega)
        refine den_ev (evs_ob (by simp only [dF, dE, hwt, hwt2]; first | done | omega) (evs_ob (by simp only [dF, dE, hwt, hwt2]; first | done | omega) (evs_nil ?_)))
        refine den_ite (fun h7 => ?_) (fun h7 => ?_)
        · refine den_ev (evs_ob (by simp only [dF, dE, msgsD]; first | done | omega) (evs_nil ?_))
          exact den_back rfl ⟨b3, ran3, pk3 + 1 + 1, bk, lt3 ++ ag, q3, tu3 + 1, la3, 1, (by simp only [dF, dE, hwj, hwt, hwn, msgsD, List.map_append]; first | done | rfl), ⟨v.hb, Nat.le_refl _, ⟨by omega, by omega⟩, ⟨by omega, by omega⟩, by (try simp only [List.length_append, List.length_nil]); omega, by (try simp only [List.length_append, List.length_nil]); omega, v.hbg, gm_app v.hlg hagm⟩⟩ (by simp only []; simp only [dF, dE, hwj]; omega)
        · refine den_ev (evs_ob (by simp only [dF, dE, msgsD]; first | done | omega) (evs_nil ?_))
          exact den_back rfl ⟨b3, ran3, pk3 + 1 + 1, bk ++ ag, lt3, q3, tu3 + 1, la3, 1, (by simp only [dF, dE, hwj, hwt, hwn, msgsD, List.map_append]; first | done | rfl), ⟨v.hb, Nat.le_refl _, ⟨by omega, by omega⟩, ⟨by omega, by omega⟩, by (try simp only [List.length_append, List.length_nil]); omega, by (try simp only [List.length_append, List.length_nil]); omega, gm_app v.hbg hagm, v.hlg⟩⟩ (by simp only []; simp only [dF, dE, hwj]; omega)
      · refine den_ev (evs_ob (by simp only [dF, dE, msgsD]; first | done | omega) (evs_nil ?_))
        exact den_back rfl ⟨b3, ran3, pk3 + 1 + 1, bk ++ ag, lt3, q3, tu3 + 1, la3, 1, (by simp only [dF, dE, hwj, hwt, hwn, msgsD, List.map_append]; first | done | rfl), ⟨v.hb, Nat.le_refl _, ⟨by omega, by omega⟩, ⟨by omega, by omega⟩, by (try simp only [List.length_append, List.length_nil]); omega, by (try simp only [List.length_append, List.length_nil]); omega, gm_app v.hbg hagm, v.hlg⟩⟩ (by simp only []; simp only [dF, dE, hwj]; omega)
    · subst e1
      obtain ⟨b5, hF3, hB5, hG5, hz5⟩ := ans_B hn6 v.hb i hlt3 hi2 now (by omega) h2
      have hrl := v.hb.rl
      have hg := get_in (l := ran3) (i := i) (by omega)
      refine den_t (by simp only [dF, dE]; first | done | decide) ?_
      refine den_ev (evs_ob (by simp only [dF, dE]; first | done | decide) (evs_nil ?_))
      refine den_f (by simp only [dF, dE]; exact hlt3) ?_
      refine den_f (by simp only [dF, dE, hwc2, hn]; show (i : Int) ≤ n; omega) ?_
      refine den_ev (evs_ob (by simp only [dF, dE]; first | done | (show (0 : Int) ≤ (i : Int); omega) | (show (i : Int) < _; omega)) (evs_ob (by simp only [dF, dE]; first | done | (show (0 : Int) ≤ (i : Int); omega) | (show (i : Int) < _; omega)) (evs_nil ?_)))
      refine den_ev (evs_ob (by simp only [dF, dE]; first | done | (show (0 : Int) ≤ (i : Int); omega) | (show (i : Int) < _; omega)) (evs_nil ?_))
      refine den_f (by simp only [dF, dE]; show (((ran3.map I64d).getD ((i : Int)).toNat default)).toI = 0; rw [Int.toNat_natCast, hg]; exact hz5) ?_
      refine den_ev (evs_ob (by simp only [dF, dE]; first | done | (show (0 : Int) ≤ (i : Int); omega) | (show (i : Int) < _; omega)) (evs_ob (by simp only [dF, dE]; first | done | (show (0 : Int) ≤ (i : Int); omega) | (show (i : Int) < _; omega)) (evs_nil ?_)))
      refine den_ev (evs_ob (by simp only [dF, dE]; first | done | (show (0 : Int) ≤ (i : Int); omega) | (show (i : Int) < _; omega)) (evs_nil ?_))
      refine den_cal [I64d b5.nx, I64d b5.tm, I64d b5.rt, msgsD b5.qu, msgsD b5.ou, I64d b5.du, I64d b5.tr, msgsD b5.se, I64d 0] rfl hF3 rfl rfl ?_
      (try simp only [List.cons_append, List.nil_append])
      refine den_f rfl ?_
      have hidx : ([msD (beatM (i : Int))].getD (Int.toNat 0) default).toL.getD 1 default = I64d (i : Int) := rfl
      have hbg2 : ∀ m ∈ bk, GM n (ran3.set i ((now : Int) + 1)) m := fun m hm => (v.hbg m hm).set hz5
      have hlg2 : ∀ m ∈ lt3, GM n (ran3.set i ((now : Int) + 1)) m := fun m hm => (v.hlg m hm).set hz5
      have hagm : ∀ m ∈ [resM (i : Int) (now : Int)], GM n (ran3.set i ((now : Int) + 1)) m := fun m hm => by rw [List.mem_singleton.1 hm]; exact hG5
      refine den_cal [.bool (losB lo (pk3 + 1)), I64d (pk3 + 1 + 1)] rfl (lost_fn lo (pk3 + 1) (by omega) (by omega)) rfl rfl ?_
      (try simp only [List.cons_append, List.nil_append])
      refine den_ite (fun h6 => ?_) (fun h6 => ?_)
      · exact den_back rfl ⟨b5, ran3.set i ((now : Int) + 1), pk3 + 1 + 1, bk, lt3, q3, tu3, (i : Int), 1, (by simp only [dF, dE, hwj, hwt, hwn, msgsD, List.map_append, hidx, set_in]; first | done | rfl), ⟨hB5, Nat.le_refl _, ⟨by omega, by omega⟩, ⟨by omega, by omega⟩, by (try simp only [List.length_append, List.length_cons, List.length_nil]); omega, by (try simp only [List.length_append, List.length_cons, List.length_nil]); omega, hbg2, hlg2⟩⟩ (by simp only []; simp only [dF, dE, hwj]; omega)
      clear h6
      refine den_ite (fun h6 => ?_) (fun h6 => ?_)
      · simp only [dF, dE, hwt] at h6
        have hgl := get_bo (l := lat) (i := tu3.toNat) (by omega)
        refine den_ev (evs_ob (by simp only [dF, dE, hwt, hwt2]; first | done | omega) (evs_ob (by simp only [dF, dE, hwt, hwt2]; first | done | omega) (evs_nil ?_)))
        refine den_ite (fun h7 => ?_) (fun h7 => ?_)
        · refine den_ev (evs_ob (by simp only [dF, dE, msgsD]; first | done | omega) (evs_nil ?_))
          exact den_back rfl ⟨b5, ran3.set i ((now : Int) + 1), pk3 + 1 + 1, bk, lt3 ++ [resM (i : Int) (now : Int)], q3, tu3 + 1, (i : Int), 1, (by simp only [dF, dE, hwj, hwt, hwn, msgsD, List.map_append, hidx, set_in]; first | done | rfl), ⟨hB5, Nat.le_refl _, ⟨by omega, by omega⟩, ⟨by omega, by omega⟩, by (try simp only [List.length_append, List.length_cons, List.length_nil]); omega, by (try simp only [List.length_append, List.length_cons, List.length_nil]); omega, hbg2, gm_app hlg2 hagm⟩⟩ (by simp only []; simp only [dF, dE, hwj]; omega)
        · refine den_ev (evs_ob (by simp only [dF, dE, msgsD]; first | done | omega) (evs_nil ?_))
          exact den_back rfl ⟨b5, ran3.set i ((now : Int) + 1), pk3 + 1 + 1, bk ++ [resM (i : Int) (now : Int)], lt3, q3, tu3 + 1, (i : Int), 1, (by simp only [dF, dE, hwj, hwt, hwn, msgsD, List.map_append, hidx, set_in]; first | done | rfl), ⟨hB5, Nat.le_refl _, ⟨by omega, by omega⟩, ⟨by omega, by omega⟩, by (try simp only [List.length_append, List.length_cons, List.length_nil]); omega, by (try simp only [List.length_append, List.length_cons, List.length_nil]); omega, gm_app hbg2 hagm, hlg2⟩⟩ (by simp only []; simp only [dF, dE, hwj]; omega)
      · refine den_ev (evs_ob (by simp only [dF, dE, msgsD]; first | done | omega) (evs_nil ?_))
        exact den_back rfl ⟨b5, ran3.set i ((now : Int) + 1), pk3 + 1 + 1, bk ++ [resM (i : Int) (now : Int)], lt3, q3, tu3 + 1, (i : Int), 1, (by simp only [dF, dE, hwj, hwt, hwn, msgsD, List.map_append, hidx, set_in]; first | done | rfl), ⟨hB5, Nat.le_refl _, ⟨by omega, by omega⟩, ⟨by omega, by omega⟩, by (try simp only [List.length_append, List.length_cons, List.length_nil]); omega, by (try simp only [List.length_append, List.length_cons, List.length_nil]); omega, gm_app hbg2 hagm, hlg2⟩⟩ (by simp only []; simp only [dF, dE, hwj]; omega)
  simp only [dF, dE] at h4
  have hi3e : s.length = i3 := by omega
  have hwn2 : ((now : Int) + 1) = ((now + 1 : Nat) : Int) := by omega
  refine den_loopI (fun xs => ∃ (a4 : Ep) (en4 : List Bool) (q4 : Bool) (k4 i : Nat), xs = [I64d a4.nx, I64d a4.tm, I64d a4.rt, msgsD a4.qu, msgsD a4.ou, I64d a4.du, I64d a4.tr, msgsD a4.se, boD en4, .bool q4, I64d k4, I64d i] ∧ W4 T R n a4 en4 k4 now i bk.length) (fun xs => 10 - (xs.getD 11 default).toI.toNat) ⟨a', en2, q3, k', 0, (by simp only [dF, dE]; first | done | rfl), ⟨(by have := hAF.next; rw [hwn2] at this; exact this), he1, he2, Nat.zero_le _⟩⟩ ?_
  rintro _ ⟨a4, en4, q4, k4, i4, rfl, u⟩
  (try simp only [List.cons_append, List.nil_append])
  have hj4 := u.hj
  have hk4 := u.ha.kn
  have hel4 := u.hel
  have hrl := v.hb.rl
  refine den_ite (fun h5 => ?_) (fun h5 => ?_)
  · simp only [dF, dE] at h5
    have hi4 : i4 < bk.length := by omega
    have hg := getD_map (g := msD) msgZ hi4
    have hm : bk.getD i4 msgZ ∈ bk := by rw [List.getD_eq_getElem?_getD, List.getElem?_eq_getElem hi4]; exact List.getElem_mem _
    have hw : IntKind.wrap .i64 ((i4 : Int) + 1) = ((i4 + 1 : Nat) : Int) := by rw [wrap_i64 (by omega) (by omega)]; omega
    have hwk : IntKind.wrap .i64 ((k4 : Int) + 1) = ((k4 + 1 : Nat) : Int) := by rw [wrap_i64 (by omega) (by omega)]; omega
    obtain ⟨a5, p, fr, ag, hF5, hD⟩ := recv_A cfg u.ha _ ran3 (v.hbg _ hm)
    refine den_ev (evs_ob (by simp only [dF, dE]; first | done | omega) (evs_ob (by simp only [dF, dE]; first | done | omega) (evs_ob (by simp only [dF, dE]; first | done | omega) (evs_nil ?_))))
    refine den_cal [I64d a5.nx, I64d a5.tm, I64d a5.rt, msgsD a5.qu, msgsD a5.ou, I64d a5.du, I64d a5.tr, msgsD a5.se, msgsD p, msgsD fr, msgsD ag] rfl hF5 (by simp only [dF, dE, cpM, hg]; first | done | rfl) rfl ?_
    (try simp only [List.cons_append, List.nil_append])
    rcases hD with ⟨e1, e2⟩ | ⟨e1, r1, r2, r3, r4⟩
    · subst e1
      subst e2
      refine den_t rfl ?_
      exact den_back rfl ⟨a5, en4, q4, k4, i4 + 1, (by simp only [dF, dE, hw]; first | done | rfl), ⟨u.ha, u.hel, u.het, by omega⟩⟩ (by simp only []; simp only [dF, dE, hw]; omega)
    subst e1
    have hgr := get_in (l := ran3) (i := k4 + 1) (by omega)
    obtain ⟨hs1, hs2⟩ := et_set u.hel u.het r3
    generalize hrk : ran3.getD (k4 + 1) 0 = rk at *
    have hwr : IntKind.wrap .i64 (rk - 1) = rk - 1 := wrap_i64 (by omega) (by omega)
    refine den_f rfl ?_
    refine den_f rfl ?_
    refine den_ev (evs_ob (by simp only [dF, dE]; first | done | decide) (evs_nil ?_))
    refine den_f (by simp only [dF, dE, hwk]; first | done | rfl) ?_
    refine den_ev (evs_ob (by simp only [dF, dE]; first | done | decide) (evs_ob (by simp only [dF, dE]; first | done | decide) (evs_nil ?_)))
    refine den_f (by simp only [dF, dE]; first | done | rfl) ?_
    refine den_ev (evs_ob (by simp only [dF, dE, hwk]; first | done | omega) (evs_ob (by simp only [dF, dE, hwk]; first | done | omega) (evs_ob (by simp only [dF, dE, hwk]; first | done | omega) (evs_nil ?_))))
    refine den_f (by simp only [dF, dE, hwk, hgr]; omega) ?_
    refine den_ev (evs_ob (by simp only [dF, dE]; first | done | decide) (evs_ob (by simp only [dF, dE, hwk]; first | done | omega) (evs_ob (by simp only [dF, dE, hwk]; first | done | omega) (evs_ob (by simp only [dF, dE, hwk]; first | done | omega) (evs_nil ?_)))))
    refine den_f (by simp only [dF, dE, hwk, hgr, hwr]; first | done | rfl) ?_
    refine den_ev (evs_ob (by simp only [dF, dE, hwk]; first | done | omega) (evs_ob (by simp only [dF, dE, hwk]; first | done | omega) (evs_nil ?_)))
    refine den_ev (evs_ob (by simp only [dF, dE, hwk]; first | done | omega) (evs_nil ?_))
    exact den_back rfl ⟨a5, en4.set (k4 + 1) true, q4, k4 + 1, i4 + 1, (by simp only [dF, dE, hw, hwk, set_bo]; first | done | rfl), ⟨r4, hs1, hs2, by omega⟩⟩ (by simp only []; simp only [dF, dE, hw]; omega)
  · exact den_back rfl ⟨a4, b3, ran3, en4, pk3, lt3, q4, tu3, la3, k4, now + 1, (by simp only [dF, dE, hwn]; first | done | rfl), ⟨u.ha, v.hb, u.hel, u.het, by omega, v.hlg, ⟨by omega, by omega⟩, ⟨by omega, by omega⟩, by omega⟩⟩ (by simp only []; simp only [dF, dE, hwn]; omega)

set_option maxRecDepth 100000 in
theorem callOnce_lifted (os : Os) (started : os.Started) (H : Type) (enc : TypeId × Value → H) :
    ReturnsInHanded {} Try.checked os 9 .any (Rows.callOnceSpec.pre6 enc Try.prog Try.f9 Rows.callOnceRow.domain false) (Rows.callOnceSpec.post enc Try.prog Try.f9 false true false false) := by
  refine returnsInHanded_of_change (C := Try.checked) own started (by kernel_rfl) Try.func9
    (ChangeSpec.witness6 (enc := enc) (C := Try.checked) false ⟨#[], #[.agg #[.int .u8 0, .int .u8 0, .int .u8 0, .slice none 0 0, .slice none 0 0]], []⟩ 8 (by kernel_rfl) (by kernel_rfl) (by kernel_rfl) (by kernel_rfl)) ?_
  intro W base args ds gs before hval0 hW hcnd _
  have hval : ∀ (j : Nat) t v, Try.f9.params[j]? = some t → args[j]? = some v → Value.okWide Try.prog W .any base t v := hval0
  obtain ⟨q, q', hA0, _, _, _, _⟩ := id hW
  have hA : DataW.TrodAll enc Try.prog W 0 (fun _ => true) true Try.f9.params.toList args.toList ds q := hA0
  have walk := law_walk (P := Try.prog) (f := 9) (fn := Try.f9) (fun p hp => by cases hp) (Ts := [.g [.int .u8, .int .u8, .int .u8, .lst [.bool], .lst [.bool]]]) (by kernel_rfl) law_all hval hA
  rw [Try.params9] at hA
  obtain ⟨v0, vs0, d0, ds0, p0, q0, hargs0, rfl, rfl, h0, r0⟩ := trodAll_cons hA
  obtain ⟨rfl, rfl, rfl⟩ := trodAll_nil r0
  refine walk.mono fun e W' ⟨he, hb⟩ => ?_
  subst he
  exact ⟨_, rfl, law_post (tb := 4) laidOut rfl (by kernel_rfl) rfl Try.underlying4 hW rfl hb⟩

theorem callOnce_holds : Rows.CallOnceSaid :=
  OpenClaim.holds_of_wide 9 Try.f9 rfl rfl rfl rfl rfl rfl rfl ⟨rfl, rfl, rfl, rfl, rfl⟩ rfl rfl rfl rfl rfl (by kernel_rfl) Try.func9 (by kernel_rfl)
    (of_decide_eq_true (by kernel_rfl)) (by unfold Func.isWrapper; first | (rw [if_pos (by decide +kernel)]; kernel_rfl) | (rw [if_neg (by decide +kernel)]; exact ⟨rfl, rfl⟩))
    (fun os started H enc _ => callOnce_lifted os started H enc)
#print axioms callOnce_holds
end Go.Proofs.Ytmplgfkhknhacaa
