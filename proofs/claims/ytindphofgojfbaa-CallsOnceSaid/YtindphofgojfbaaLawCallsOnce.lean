/-
  CallsOnce: its walk and its row. No conditions.
-/
import Derived.Test.YtindphofgojfbaaK14
set_option maxRecDepth 100000
set_option linter.unusedSimpArgs false
set_option linter.unusedVariables false
namespace Go.Proofs.Ytindphofgojfbaa
open Go.Proofs.Ytindphofgojfbaa.Sy Go.Proofs.Ytindphofgojfbaa.L7 Go.Proofs.Ytindphofgojfbaa.Id Go.Proofs.Ytindphofgojfbaa.R26 Go.Proofs.Ytindphofgojfbaa.V26 Go.Proofs.Ytindphofgojfbaa.N27 Go.Proofs.Ytindphofgojfbaa.C27 Go.Proofs.Ytindphofgojfbaa.O14 Go.Proofs.Ytindphofgojfbaa.V14 Go.Proofs.Ytindphofgojfbaa.C14 Go.Proofs.Ytindphofgojfbaa.K14 Go.Proofs.Ytindphofgojfbaa.X14 Go.Proofs.Ytindphofgojfbaa.I14 Go.RowKit Go.WideShapes Go.ChangeShapes Go.ChangeAt

theorem in_wf {l : List Int} (h : ∀ n ∈ l, inI n) : ∀ x ∈ l, (Lit.int .i64 x).wf = true := fun x hx => by
  have := h x hx
  show (decide (IntKind.i64.min ≤ _) && decide (_ ≤ IntKind.i64.max)) = true
  rw [Bool.and_eq_true, decide_eq_true_eq, decide_eq_true_eq, min_i64, max_i64]
  exact this
theorem get_bb {L : List (List Int)} {i : Nat} (h : i < L.length) : ∃ d, (L.map bD).getD i default = bD d ∧ d ∈ L := by
  refine ⟨L.getD i [], by simp [List.getD_eq_getElem?_getD, h], ?_⟩
  rw [List.getD_eq_getElem?_getD, List.getElem?_eq_getElem h, Option.getD_some]
  exact List.getElem_mem h
set_option maxHeartbeats 16000000 in
theorem law_all (xs : List D) (h : TypTs [.c (.int .u8), .c (.int .u8), .c (.lst [.int .i64]), .c (.lst [.int .i64])] xs) : Fun Try.prog [] 3 [.c (.int .u8), .c (.int .u8), .c (.lst [.int .i64]), .c (.lst [.int .i64])] xs [.c .bool] (.ok [.bool true]) := by
  obtain ⟨_, _, rfl, h0, _, _, rfl, h1, _, _, rfl, h2, _, _, rfl, h3, rfl⟩ := h
  have h0 : Typ (.int .u8) _ := h0
  have h1 : Typ (.int .u8) _ := h1
  unfold Typ at h0 h1
  obtain ⟨N, rfl, hN0, hN1⟩ := h0
  obtain ⟨U, rfl, hU0, hU1⟩ := h1
  obtain ⟨up, rfl, _, hup⟩ := typ_ints h2
  obtain ⟨dn, rfl, _, hdn⟩ := typ_ints h3
  rw [min_u8] at hN0 hU0
  rw [max_u8] at hN1 hU1
  have hup := in_wf hup
  have hdn := in_wf hdn
  clear h2 h3
  refine law_ent _ _ ?_
  show vclaw.den _ _ _ _ _
  unfold vclaw
  (try simp only [flatD, List.cons_append, List.nil_append, List.append_nil])
  refine den_ite (fun h1 => den_ret (by simp only [dF, dE])) (fun h1 => ?_)
  refine den_ite (fun h2 => den_ret (by simp only [dF, dE])) (fun h2 => ?_)
  refine den_ite (fun h3 => den_ret (by simp only [dF, dE])) (fun h3 => ?_)
  simp only [dF, dE] at h1 h2 h3
  obtain ⟨n, rfl⟩ : ∃ n : Nat, N = (n : Int) := ⟨N.toNat, by omega⟩
  have hn : n ≤ 10 := by omega
  have cfg : Cfg 3 2 n := ⟨rfl, rfl, hn⟩
  obtain ⟨de, hde⟩ : ∃ de, IntKind.i64.wrap ((IntKind.i64.wrap U).tmod 3 + 1) = de := ⟨_, rfl⟩
  have hde1 : 1 ≤ de ∧ de ≤ 3 := by
    rw [wrap_i64 (n := U) (by omega) (by omega)] at hde
    have q1 := Int.tmod_nonneg (3 : Int) hU0
    have q2 := Int.tmod_lt_of_pos U (b := 3) (by decide)
    rw [wrap_i64 (by omega) (by omega)] at hde
    omega
  have hwn : IntKind.i64.wrap (n : Int) = (n : Int) := wrap_i64 (by omega) (by omega)
  refine den_cal ([I64d (aI 3 2 0 0).nx, I64d (aI 3 2 0 0).tm, I64d (aI 3 2 0 0).rt, msgsD (aI 3 2 0 0).qu, msgsD (aI 3 2 0 0).ou, I64d (aI 3 2 0 0).du, I64d (aI 3 2 0 0).tr, msgsD (aI 3 2 0 0).se, I64d 0]) rfl (new_A 3 2 (by omega)) rfl rfl ?_
  (try simp only [flatD, List.cons_append, List.nil_append, List.append_nil])
  refine den_cal ([I64d (aI 3 2 0 0).nx, I64d (aI 3 2 0 0).tm, I64d (aI 3 2 0 0).rt, msgsD (aI 3 2 0 0).qu, msgsD (aI 3 2 0 0).ou, I64d (aI 3 2 0 0).du, I64d (aI 3 2 0 0).tr, msgsD (aI 3 2 0 0).se, I64d 0]) rfl (new_A 3 2 (by omega)) rfl rfl ?_
  (try simp only [flatD, List.cons_append, List.nil_append, List.append_nil])
  have hl2 : up.length ≤ 30 := by omega
  have hl3 : dn.length ≤ 30 := by omega
  refine den_cal [I64d (newL de up).nw, I64d (newL de up).de, .bool (newL de up).cu, I64d (newL de up).cn, isD (newL de up).lo, pksD (newL de up).bx, I64d (losS (-1) up)] rfl (lnew_fn de up hde1.1 (by omega) hl2) (by simp only [dF, dE, hde]) rfl ?_
  (try simp only [flatD, List.cons_append, List.nil_append, List.append_nil])
  refine den_cal [I64d (newL de dn).nw, I64d (newL de dn).de, .bool (newL de dn).cu, I64d (newL de dn).cn, isD (newL de dn).lo, pksD (newL de dn).bx, I64d (losS (-1) dn)] rfl (lnew_fn de dn hde1.1 (by omega) hl3) (by simp only [dF, dE, hde]) rfl ?_
  (try simp only [flatD, List.cons_append, List.nil_append, List.append_nil])
  refine den_f rfl ?_
  refine den_f rfl ?_
  refine den_ite (fun h4 => den_ret (by simp only [dF, dE])) (fun h4 => ?_)
  refine den_ite (fun h5 => den_ret (by simp only [dF, dE])) (fun h5 => ?_)
  simp only [dF, dE] at h4 h5
  have hx0 := new_out (FrB n) hde1.1 hde1.2 hl2 hup h4
  have hy0 := new_out (FrS n) hde1.1 hde1.2 hl3 hdn h5
  generalize newL de up = x0 at hx0 ⊢
  generalize newL de dn = y0 at hy0 ⊢
  clear h1 h2 h3 hde hde1 hup hdn hN0 hN1 hU0 hU1
  refine den_loopI (fun xs => ∃ (q : Bool) (j : Nat), xs = [I64d (aI 3 2 j 0).nx, I64d (aI 3 2 j 0).tm, I64d (aI 3 2 j 0).rt, msgsD (aI 3 2 j 0).qu, msgsD (aI 3 2 j 0).ou, I64d (aI 3 2 j 0).du, I64d (aI 3 2 j 0).tr, msgsD (aI 3 2 j 0).se, .bool q, I64d 0, U8d (j : Int)] ∧ j ≤ n) (fun xs => 11 - (xs.getD 10 default).toI.toNat) ⟨false, 0, rfl, Nat.zero_le _⟩ ?_
  rintro _ ⟨q, j, rfl, hj⟩
  (try simp only [flatD, List.cons_append, List.nil_append, List.append_nil])
  refine den_ite (fun h1 => ?_) (fun h1 => ?_) <;> simp only [dF, dE] at h1
  · have hw : IntKind.u8.wrap ((j : Int) + 1) = ((j + 1 : Nat) : Int) := by rw [wrap_u8 (by omega) (by omega)]; omega
    refine den_cal ([I64d (aI 3 2 (j + 1) 0).nx, I64d (aI 3 2 (j + 1) 0).tm, I64d (aI 3 2 (j + 1) 0).rt, msgsD (aI 3 2 (j + 1) 0).qu, msgsD (aI 3 2 (j + 1) 0).ou, I64d (aI 3 2 (j + 1) 0).du, I64d (aI 3 2 (j + 1) 0).tr, msgsD (aI 3 2 (j + 1) 0).se, I64d ((j + 1 : Nat) : Int), I64d 0]) rfl (call_A (T := 3) (R := 2) (j := j) (by omega)) rfl rfl ?_
    (try simp only [flatD, List.cons_append, List.nil_append, List.append_nil])
    refine den_f rfl ?_
    exact den_back rfl ⟨q, j + 1, (by simp only [dF, dE, hw]; first | done | rfl), by omega⟩ (by simp only []; simp only [dF, dE, hw]; omega)
  have hjn : n = j := by omega
  subst hjn
  clear h1 hj
  refine den_loopI (fun xs => ∃ (a b : Ep) (x y : Lk) (q : Bool) (k t : Nat) (la : Int), xs = [I64d a.nx, I64d a.tm, I64d a.rt, msgsD a.qu, msgsD a.ou, I64d a.du, I64d a.tr, msgsD a.se, I64d b.nx, I64d b.tm, I64d b.rt, msgsD b.qu, msgsD b.ou, I64d b.du, I64d b.tr, msgsD b.se, I64d x.nw, I64d x.de, .bool x.cu, I64d x.cn, isD x.lo, pksD x.bx, I64d y.nw, I64d y.de, .bool y.cu, I64d y.cn, isD y.lo, pksD y.bx, .bool q, I64d (k : Int), I64d la, I64d (t : Int)] ∧ W2 n t k a b x y la) (fun xs => 201 - (xs.getD 31 default).toI.toNat)
    ⟨aI 3 2 n 0, aI 3 2 0 0, x0, y0, q, 0, 0, 0, rfl, ⟨as_0, bs_0 n, ⟨0, 0, hx0, hy0, Nat.le_refl _⟩, by omega⟩⟩ ?_
  clear hx0 hy0
  rintro _ ⟨a, b, x, y, q2, k, t, la, rfl, w⟩
  (try simp only [flatD, List.cons_append, List.nil_append, List.append_nil])
  refine den_ite (fun h2 => ?_) (fun h2 => ?_) <;> simp only [dF, dE] at h2
  rotate_left
  · have hnk : k = n := by
      have ha := w.ha
      rw [show ((t : Nat) : Int) = 200 from by have := w.ht; omega] at ha
      exact ha.done cfg
    have hla := w.hb.la
    subst hnk
    refine den_t (by simp only [dF, dE, hwn]) ?_
    refine den_ret ?_
    simp only [dF, dE, hwn]
    rw [decide_eq_true (by omega)]
  have ht : t < 200 := by omega
  obtain ⟨X, Y, hx, hy, hXY⟩ := w.hxy
  have hb := w.hb
  obtain ⟨a', s, fl, k', hF, hAF, hf, hs⟩ := send_A cfg w.ha (by omega) h2
  clear w
  refine den_cal ([I64d a'.nx, I64d a'.tm, I64d a'.rt, msgsD a'.qu, msgsD a'.ou, I64d a'.du, I64d a'.tr, msgsD a'.se, msgsD s, msgsD fl]) rfl hF rfl rfl ?_
  (try simp only [flatD, List.cons_append, List.nil_append, List.append_nil])
  have hse : EncF (FrB n) s := by
    rcases hs with e | ⟨i, e, g1, g2⟩
    · exact .inl e
    · rw [e]; exact enc_beat hn g1 g2
  obtain ⟨x1, hF1, hx1⟩ := send_out hx (fb_len hn) (by omega) (by omega) (by omega) hse
  refine den_cal [I64d x1.nw, I64d x1.de, .bool x1.cu, I64d x1.cn, isD x1.lo, pksD x1.bx, .bool true] rfl hF1 rfl rfl ?_
  (try simp only [flatD, List.cons_append, List.nil_append, List.append_nil])
  refine den_t rfl ?_
  obtain ⟨x2, ar, hF2, hx2, hXa, har⟩ := tick_out hx1 (fb_len hn) (by omega) (by omega)
  refine den_cal [I64d x2.nw, I64d x2.de, .bool x2.cu, I64d x2.cn, isD x2.lo, pksD x2.bx, bbD ar] rfl hF2 rfl rfl ?_
  (try simp only [flatD, List.cons_append, List.nil_append, List.append_nil])
  have hwk : IntKind.i64.wrap ((k : Int) + (fl.length : Int)) = (k' : Int) := by
    have := hAF.next.kn
    rw [wrap_i64 (by rcases hf with ⟨e, _⟩ | ⟨e, _⟩ <;> rw [e] <;> simp <;> omega) (by rcases hf with ⟨e, _⟩ | ⟨e, _⟩ <;> rw [e] <;> simp <;> omega)]
    rcases hf with ⟨e, e2⟩ | ⟨e, e2⟩ <;> rw [e, e2] <;> simp
  have hal : ar.length ≤ 300 := by omega
  clear hF hF1 hF2 hs hse hf hx hx1
  generalize hX2 : x2.bx.length = X2 at hx2 hXa
  refine den_loopI (fun xs => ∃ (b : Ep) (y : Lk) (q q' : Bool) (la : Int) (i : Nat), xs = [I64d b.nx, I64d b.tm, I64d b.rt, msgsD b.qu, msgsD b.ou, I64d b.du, I64d b.tr, msgsD b.se, I64d y.nw, I64d y.de, .bool y.cu, I64d y.cn, isD y.lo, pksD y.bx, .bool q, I64d la, .bool q', I64d (i : Int)] ∧ i ≤ ar.length ∧ W3 n t b y la (ar.length - i) X2) (fun xs => ar.length - (xs.getD 17 default).toI.toNat)
    ⟨b, y, q2, true, la, 0, rfl, Nat.zero_le _, ⟨hb, Y, hy, by omega⟩⟩ ?_
  clear hb hy hXY
  rintro _ ⟨b3, y3, q3, q4, la3, i, rfl, hi, w⟩
  (try simp only [flatD, List.cons_append, List.nil_append, List.append_nil])
  refine den_ite (fun h3 => ?_) (fun h3 => ?_) <;> simp only [dF, dE] at h3
  · have hi' : i < ar.length := by omega
    obtain ⟨d, hg, hd⟩ := get_bb hi'
    obtain ⟨j, hj1, hj2, rfl⟩ := har d hd
    have hw : IntKind.wrap .i64 ((i : Int) + 1) = ((i + 1 : Nat) : Int) := by rw [wrap_i64 (by omega) (by omega)]; omega
    obtain ⟨hb, Y3, hy, hYX⟩ := w
    refine den_ev (evs_ob (by simp only [dF, dE]; omega) (evs_ob (by simp only [dF, dE]; omega) (evs_nil ?_)))
    refine den_cal (msL (beatM (j : Int)) ++ [I64d 0]) rfl (dec_b hj1 (by omega)) (by simp only [dF, dE, hg]) rfl ?_
    (try simp only [flatD, List.cons_append, List.nil_append, List.append_nil])
    refine den_f rfl ?_
    obtain ⟨p, fr, ag, hF, hc⟩ := C14.recv_B hb j hj1 (by omega)
    refine den_cal ([I64d b3.nx, I64d b3.tm, I64d b3.rt, msgsD b3.qu, msgsD b3.ou, I64d b3.du, I64d b3.tr, msgsD b3.se, msgsD p, msgsD fr, msgsD ag]) rfl hF rfl rfl ?_
    (try simp only [flatD, List.cons_append, List.nil_append, List.append_nil])
    rcases hc with ⟨rfl, hag⟩ | ⟨rfl, rfl, hlt⟩
    · refine den_loopI (fun xs => ∃ z : Bool, xs = [I64d b3.nx, I64d b3.tm, I64d b3.rt, msgsD b3.qu, msgsD b3.ou, I64d b3.du, I64d b3.tr, msgsD b3.se, msgsD ag, .bool z, I64d la3, I64d 0, I64d 0]) (fun _ => 0) ⟨q3, rfl⟩ ?_
      rintro _ ⟨z, rfl⟩
      (try simp only [flatD, List.cons_append, List.nil_append, List.append_nil])
      refine den_f (by simp only [dF, dE]; simp) ?_
      have hse : EncF (FrS n) ag := by
        rcases hag with e | ⟨s, e, g⟩
        · exact .inl e
        · obtain ⟨i2, g1, g2, e2⟩ := g.ex
          rw [e, e2]
          exact enc_res hn g1 g2
      obtain ⟨y4, hF1, hy4⟩ := send_out hy (fs_len hn) (by omega) (by omega) (by omega) hse
      refine den_cal [I64d y4.nw, I64d y4.de, .bool y4.cu, I64d y4.cn, isD y4.lo, pksD y4.bx, .bool true] rfl hF1 rfl rfl ?_
      (try simp only [flatD, List.cons_append, List.nil_append, List.append_nil])
      refine den_t rfl ?_
      exact den_back rfl ⟨b3, y4, z, true, la3, i + 1, (by simp only [dF, dE, hw]; first | done | rfl), by omega, ⟨hb, Y3 + 1, hy4, by omega⟩⟩ (by simp only []; simp only [dF, dE, hw]; omega)
    · obtain ⟨b4, hF1, hb4⟩ := ans_B hn hb j hlt hj2
      refine den_loopI (fun xs => ∃ (z : Bool) (m : Nat) (b5 : Ep) (ag : List Msg) (la5 : Int), xs = [I64d b5.nx, I64d b5.tm, I64d b5.rt, msgsD b5.qu, msgsD b5.ou, I64d b5.du, I64d b5.tr, msgsD b5.se, msgsD ag, .bool z, I64d la5, I64d 0, I64d (m : Int)] ∧ ((m = 0 ∧ b5 = b3 ∧ ag = [] ∧ la5 = la3) ∨ (m = 1 ∧ b5 = b4 ∧ ag = [resM (j : Int)] ∧ la5 = (j : Int)))) (fun xs => 2 - (xs.getD 12 default).toI.toNat) ⟨q3, 0, b3, [], la3, rfl, .inl ⟨rfl, rfl, rfl, rfl⟩⟩ ?_
      rintro _ ⟨z, m, b5, ag, la5, rfl, (⟨rfl, rfl, rfl, rfl⟩ | ⟨rfl, rfl, rfl, rfl⟩)⟩
      · (try simp only [flatD, List.cons_append, List.nil_append, List.append_nil])
        refine den_t (by simp only [dF, dE]; simp) ?_
        refine den_ev (evs_ob (by simp only [dF, dE]; simp) (evs_ob (by simp only [dF, dE]; simp) (evs_nil ?_)))
        refine den_f (by simp only [dF, dE]; exact hlt) ?_
        refine den_cal (msL (resM (j : Int))) rfl (res_fn j) rfl rfl ?_
        (try simp only [flatD, List.cons_append, List.nil_append, List.append_nil])
        refine den_cal ([I64d b4.nx, I64d b4.tm, I64d b4.rt, msgsD b4.qu, msgsD b4.ou, I64d b4.du, I64d b4.tr, msgsD b4.se, I64d 0]) rfl hF1 rfl rfl ?_
        (try simp only [flatD, List.cons_append, List.nil_append, List.append_nil])
        refine den_f rfl ?_
        refine den_ev (evs_ob (by simp only [dF, dE]; simp) (evs_nil ?_))
        exact den_back rfl ⟨z, 1, b4, [resM (j : Int)], (j : Int), rfl, .inr ⟨rfl, rfl, rfl, rfl⟩⟩ (by simp only []; simp only [dF, dE]; decide)
      · (try simp only [flatD, List.cons_append, List.nil_append, List.append_nil])
        refine den_f (by simp only [dF, dE]; simp) ?_
        obtain ⟨y4, hF2, hy4⟩ := send_out hy (fs_len hn) (by omega) (by omega) (by omega) (enc_res hn hj1 hj2)
        refine den_cal [I64d y4.nw, I64d y4.de, .bool y4.cu, I64d y4.cn, isD y4.lo, pksD y4.bx, .bool true] rfl hF2 rfl rfl ?_
        (try simp only [flatD, List.cons_append, List.nil_append, List.append_nil])
        refine den_t rfl ?_
        exact den_back rfl ⟨b5, y4, z, true, (j : Int), i + 1, (by simp only [dF, dE, hw]; first | done | rfl), by omega, ⟨hb4, Y3 + 1, hy4, by omega⟩⟩ (by simp only []; simp only [dF, dE, hw]; omega)
  obtain ⟨hb, Y3, hy, hYX⟩ := w
  obtain ⟨y4, ar2, hF2, hy4, hYa, har2⟩ := tick_out hy (fs_len hn) (by omega) (by omega)
  refine den_cal [I64d y4.nw, I64d y4.de, .bool y4.cu, I64d y4.cn, isD y4.lo, pksD y4.bx, bbD ar2] rfl hF2 rfl rfl ?_
  (try simp only [flatD, List.cons_append, List.nil_append, List.append_nil])
  refine den_loopI (fun xs => ∃ (a : Ep) (z : Bool) (k i : Nat), xs = [I64d a.nx, I64d a.tm, I64d a.rt, msgsD a.qu, msgsD a.ou, I64d a.du, I64d a.tr, msgsD a.se, .bool z, I64d (k : Int), I64d (i : Int)] ∧ i ≤ ar2.length ∧ AS 3 2 n (((t + 1 : Nat)) : Int) a k) (fun xs => ar2.length - (xs.getD 10 default).toI.toNat)
    ⟨a', q3, k', 0, (by simp only [dF, dE, hwk]; first | done | rfl), Nat.zero_le _, hAF.next⟩ ?_
  rintro _ ⟨a5, z, k5, i5, rfl, hi5, ha5⟩
  (try simp only [flatD, List.cons_append, List.nil_append, List.append_nil])
  refine den_ite (fun h4 => ?_) (fun h4 => ?_) <;> simp only [dF, dE] at h4
  · have hi' : i5 < ar2.length := by omega
    obtain ⟨d, hg, hd⟩ := get_bb hi'
    obtain ⟨j, hj1, hj2, rfl⟩ := har2 d hd
    have hw : IntKind.wrap .i64 ((i5 : Int) + 1) = ((i5 + 1 : Nat) : Int) := by rw [wrap_i64 (by omega) (by omega)]; omega
    have hkn := ha5.kn
    have hwk : IntKind.wrap .i64 ((k5 : Int) + 1) = ((k5 + 1 : Nat) : Int) := by rw [wrap_i64 (by omega) (by omega)]; omega
    refine den_ev (evs_ob (by simp only [dF, dE]; omega) (evs_ob (by simp only [dF, dE]; omega) (evs_nil ?_)))
    refine den_cal (msL (resM (j : Int)) ++ [I64d 0]) rfl (dec_s hj1 (by omega)) (by simp only [dF, dE, hg]) rfl ?_
    (try simp only [flatD, List.cons_append, List.nil_append, List.append_nil])
    refine den_f rfl ?_
    obtain ⟨a6, p, fr, ag, hF, hc⟩ := C14.recv_A cfg ha5 (resM (j : Int)) ⟨j, hj1, hj2, rfl⟩
    refine den_cal ([I64d a6.nx, I64d a6.tm, I64d a6.rt, msgsD a6.qu, msgsD a6.ou, I64d a6.du, I64d a6.tr, msgsD a6.se, msgsD p, msgsD fr, msgsD ag]) rfl hF rfl rfl ?_
    (try simp only [flatD, List.cons_append, List.nil_append, List.append_nil])
    rcases hc with ⟨rfl, rfl⟩ | ⟨hp, hk5, ha6⟩
    · refine den_f (by simp only [dF, dE]; simp) ?_
      exact den_back rfl ⟨a6, z, k5, i5 + 1, (by simp only [dF, dE, hw]; first | done | rfl), by omega, ha5⟩ (by simp only []; simp only [dF, dE, hw]; omega)
    · refine den_t (by simp only [dF, dE, hp]; decide) ?_
      exact den_back rfl ⟨a6, z, k5 + 1, i5 + 1, (by simp only [dF, dE, hw, hwk]; first | done | rfl), by omega, ha6⟩ (by simp only []; simp only [dF, dE, hw]; omega)
  have hwt : IntKind.wrap .i64 ((t : Int) + 1) = ((t + 1 : Nat) : Int) := by rw [wrap_i64 (by omega) (by omega)]; omega
  exact den_back rfl ⟨a5, b3, x2, y4, z, k5, t + 1, la3, (by simp only [dF, dE, hwt]; first | done | rfl), ⟨ha5, hb, ⟨X2, Y3, hx2, hy4.mono (Nat.le_refl _) (by omega), by omega⟩, by omega⟩⟩ (by simp only []; simp only [dF, dE, hwt]; omega)

set_option maxRecDepth 100000 in
theorem callsOnce_lifted (os : Os) (started : os.Started) (H : Type) (enc : TypeId × Value → H) :
    ReturnsInHanded {} Try.checked os 3 .any (Rows.callsOnceSpec.pre6 enc Try.prog Try.f3 Rows.callsOnceRow.domain false) (Rows.callsOnceSpec.post enc Try.prog Try.f3 false true false false) := by
  refine returnsInHanded_of_change (C := Try.checked) own started (by kernel_rfl) Try.func3
    (ChangeSpec.witness6 (enc := enc) (C := Try.checked) false ⟨#[], #[.int .u8 0, .int .u8 0, .slice none 0 0, .slice none 0 0], []⟩ 8 (by kernel_rfl) (by kernel_rfl) (by kernel_rfl) (by kernel_rfl)) ?_
  intro W base args ds gs before hval0 hW hcnd _
  have hval : ∀ (j : Nat) t v, Try.f3.params[j]? = some t → args[j]? = some v → Value.okWide Try.prog W .any base t v := hval0
  obtain ⟨q, q', hA0, _, _, _, _⟩ := id hW
  have hA : DataW.TrodAll enc Try.prog W 0 (fun _ => true) true Try.f3.params.toList args.toList ds q := hA0
  have walk := law_walk (P := Try.prog) (f := 3) (fn := Try.f3) (fun p hp => by cases hp) (Ts := [.c (.int .u8), .c (.int .u8), .c (.lst [.int .i64]), .c (.lst [.int .i64])]) (by kernel_rfl) law_all hval hA
  rw [Try.params3] at hA
  obtain ⟨v0, vs0, d0, ds0, p0, q0, hargs0, rfl, rfl, h0, r0⟩ := trodAll_cons hA
  obtain ⟨v1, vs1, d1, ds1, p1, q1, hargs1, rfl, rfl, h1, r1⟩ := trodAll_cons r0
  subst hargs1
  obtain ⟨v2, vs2, d2, ds2, p2, q2, hargs2, rfl, rfl, h2, r2⟩ := trodAll_cons r1
  subst hargs2
  obtain ⟨v3, vs3, d3, ds3, p3, q3, hargs3, rfl, rfl, h3, r3⟩ := trodAll_cons r2
  subst hargs3
  obtain ⟨rfl, rfl, rfl⟩ := trodAll_nil r3
  refine walk.mono fun e W' ⟨he, hb⟩ => ?_
  subst he
  exact ⟨_, rfl, law_post (tb := 4) laidOut rfl (by kernel_rfl) rfl Try.underlying4 hW rfl hb⟩

theorem callsOnce_holds : Rows.CallsOnceSaid :=
  OpenClaim.holds_of_wide 3 Try.f3 rfl rfl rfl rfl rfl rfl rfl ⟨rfl, rfl, rfl, rfl, rfl⟩ rfl rfl rfl rfl rfl (by kernel_rfl) Try.func3 (by kernel_rfl)
    (of_decide_eq_true (by kernel_rfl)) (by unfold Func.isWrapper; first | (rw [if_pos (by decide +kernel)]; kernel_rfl) | (rw [if_neg (by decide +kernel)]; exact ⟨rfl, rfl⟩))
    (fun os started H enc _ => callsOnce_lifted os started H enc)
#print axioms callsOnce_holds
end Go.Proofs.Ytindphofgojfbaa
