/-
  Valid events are decoded as they were; layer 31: Save and Load. No conditions stand ahead of what is proved.
-/
import Derived.Test.YtmkkijgnlohieaaO31
set_option maxRecDepth 100000
set_option linter.unusedSimpArgs false
set_option linter.unusedVariables false
namespace Go.Proofs.Ytmkkijgnlohieaa.O31
open Go.Proofs.Ytmkkijgnlohieaa Go.Proofs.Ytmkkijgnlohieaa.Sy Go.Proofs.Ytmkkijgnlohieaa.L7 Go.Proofs.Ytmkkijgnlohieaa.Id Go.Proofs.Ytmkkijgnlohieaa.R26 Go.Proofs.Ytmkkijgnlohieaa.E30 Go.Proofs.Ytmkkijgnlohieaa.D30 Go.RowKit Go.WideShapes Go.ChangeShapes Go.ChangeAt

theorem strD_sB (s : ByteArray) : strD ((sB s).map U8d) = s := by
  obtain ⟨⟨l⟩⟩ := s
  simp [strD, sB, D.toI, List.map_map, Function.comp_def]
inductive Step : Evt → Fld → Evt → Prop where
  | st (c : Evt) (s : ByteArray) (h : s.size ≠ 0) : Step c (1, sB s) { c with st := s }
  | tx (c : Evt) (s : ByteArray) (h : s.size ≠ 0) : Step c (2, sB s) { c with tx := s }
  | tk (c : Evt) (s : ByteArray) (h : s.size ≠ 0) : Step c (7, sB s) { c with tk := s }
  | co (c : Evt) (n : Int) (h : in64 n) (h0 : n ≠ 0) : Step c (3, putS n) { c with co := n }
  | sq (c : Evt) (n : Int) (h : in64 n) (h0 : n ≠ 0) : Step c (4, putS n) { c with sq := n }
  | ki (c : Evt) (n : Int) (h : in64 n) (h0 : n ≠ 0) : Step c (5, putS n) { c with ki := n }
  | at' (c : Evt) (n : Int) (h : in64 n) (h0 : n ≠ 0) : Step c (6, putS n) { c with at' := n }
  | re (c : Evt) (n : Int) (h : in64 n) (h0 : n ≠ 0) : Step c (9, putS n) { c with re := n }
  | off (c : Evt) : Step c (8, putS 1) { c with off := true }
  | rd (c : Evt) (l : List (Int × Int)) (h : ∀ x ∈ l, inI x.1 ∧ inI x.2) (h0 : l ≠ []) (hl : l.length ≤ 16) : Step c (10, putL (rdP l)) { c with rd := l }
inductive Steps : Evt → List Fld → Evt → Prop where
  | nil (c : Evt) : Steps c [] c
  | cons {c c' c'' : Evt} {x : Fld} {l : List Fld} (h : Step c x c') (k : Steps c' l c'') : Steps c (x :: l) c''
theorem Steps.app {c c' c'' : Evt} {l m : List Fld} (h : Steps c l c') (k : Steps c' m c'') : Steps c (l ++ m) c'' := by
  induction h with
  | nil _ => exact k
  | cons h _ ih => exact .cons h (ih k)
theorem steps_st (c : Evt) (s : ByteArray) (hc : c.st = ⟨#[]⟩) : Steps c (txtF 1 s) { c with st := s } := by
  unfold txtF
  split
  · rename_i h
    rw [← emp_iff] at h
    have : ({ c with st := s } : Evt) = c := by rw [h, ← hc]
    rw [this]
    exact .nil c
  · rename_i h
    exact .cons (.st c s h) (.nil _)
theorem steps_tx (c : Evt) (s : ByteArray) (hc : c.tx = ⟨#[]⟩) : Steps c (txtF 2 s) { c with tx := s } := by
  unfold txtF
  split
  · rename_i h
    rw [← emp_iff] at h
    have : ({ c with tx := s } : Evt) = c := by rw [h, ← hc]
    rw [this]
    exact .nil c
  · rename_i h
    exact .cons (.tx c s h) (.nil _)
theorem steps_tk (c : Evt) (s : ByteArray) (hc : c.tk = ⟨#[]⟩) : Steps c (txtF 7 s) { c with tk := s } := by
  unfold txtF
  split
  · rename_i h
    rw [← emp_iff] at h
    have : ({ c with tk := s } : Evt) = c := by rw [h, ← hc]
    rw [this]
    exact .nil c
  · rename_i h
    exact .cons (.tk c s h) (.nil _)
theorem steps_co (c : Evt) (n : Int) (hn : in64 n) (hc : c.co = 0) : Steps c (numF 3 n) { c with co := n } := by
  unfold numF
  split
  · rename_i h
    have : ({ c with co := n } : Evt) = c := by rw [h, ← hc]
    rw [this]
    exact .nil c
  · rename_i h
    exact .cons (.co c n hn h) (.nil _)
theorem steps_sq (c : Evt) (n : Int) (hn : in64 n) (hc : c.sq = 0) : Steps c (numF 4 n) { c with sq := n } := by
  unfold numF
  split
  · rename_i h
    have : ({ c with sq := n } : Evt) = c := by rw [h, ← hc]
    rw [this]
    exact .nil c
  · rename_i h
    exact .cons (.sq c n hn h) (.nil _)
theorem steps_ki (c : Evt) (n : Int) (hn : in64 n) (hc : c.ki = 0) : Steps c (numF 5 n) { c with ki := n } := by
  unfold numF
  split
  · rename_i h
    have : ({ c with ki := n } : Evt) = c := by rw [h, ← hc]
    rw [this]
    exact .nil c
  · rename_i h
    exact .cons (.ki c n hn h) (.nil _)
theorem steps_at' (c : Evt) (n : Int) (hn : in64 n) (hc : c.at' = 0) : Steps c (numF 6 n) { c with at' := n } := by
  unfold numF
  split
  · rename_i h
    have : ({ c with at' := n } : Evt) = c := by rw [h, ← hc]
    rw [this]
    exact .nil c
  · rename_i h
    exact .cons (.at' c n hn h) (.nil _)
theorem steps_re (c : Evt) (n : Int) (hn : in64 n) (hc : c.re = 0) : Steps c (numF 9 n) { c with re := n } := by
  unfold numF
  split
  · rename_i h
    have : ({ c with re := n } : Evt) = c := by rw [h, ← hc]
    rw [this]
    exact .nil c
  · rename_i h
    exact .cons (.re c n hn h) (.nil _)
theorem steps_off (c : Evt) (b : Bool) (hc : c.off = false) : Steps c (flagF 8 b) { c with off := b } := by
  unfold flagF
  split
  · rename_i h
    subst h
    exact .cons (.off c) (.nil _)
  · rename_i h
    have hb : b = false := by simpa using h
    have : ({ c with off := b } : Evt) = c := by rw [hb, ← hc]
    rw [this]
    exact .nil c
theorem steps_ev {e : Evt} (he : EvT e) (ho : Ok e) : Steps ev0 (fldE e) e := by
  unfold fldE
  have h9 := (Steps.app (Steps.app (Steps.app (Steps.app (Steps.app (Steps.app (Steps.app (Steps.app (steps_st ⟨⟨#[]⟩, ⟨#[]⟩, 0, 0, 0, 0, ⟨#[]⟩, false, 0, []⟩ e.st rfl) (steps_tx ⟨e.st, ⟨#[]⟩, 0, 0, 0, 0, ⟨#[]⟩, false, 0, []⟩ e.tx rfl)) (steps_co ⟨e.st, e.tx, 0, 0, 0, 0, ⟨#[]⟩, false, 0, []⟩ e.co he.co rfl)) (steps_sq ⟨e.st, e.tx, e.co, 0, 0, 0, ⟨#[]⟩, false, 0, []⟩ e.sq he.sq rfl)) (steps_ki ⟨e.st, e.tx, e.co, e.sq, 0, 0, ⟨#[]⟩, false, 0, []⟩ e.ki he.ki rfl)) (steps_at' ⟨e.st, e.tx, e.co, e.sq, e.ki, 0, ⟨#[]⟩, false, 0, []⟩ e.at' he.at' rfl)) (steps_tk ⟨e.st, e.tx, e.co, e.sq, e.ki, e.at', ⟨#[]⟩, false, 0, []⟩ e.tk rfl)) (steps_off ⟨e.st, e.tx, e.co, e.sq, e.ki, e.at', e.tk, false, 0, []⟩ e.off rfl)) (steps_re ⟨e.st, e.tx, e.co, e.sq, e.ki, e.at', e.tk, e.off, 0, []⟩ e.re he.re rfl))
  refine Steps.app h9 ?_
  unfold listF
  have hne : rdP e.rd ≠ [] := fun c => by
    have := rdP_len e.rd
    rw [c] at this
    simp only [List.length_nil] at this
    exact ho.rn (List.length_eq_zero_iff.1 (by omega))
  rw [if_neg hne]
  exact .cons (.rd ⟨e.st, e.tx, e.co, e.sq, e.ki, e.at', e.tk, e.off, e.re, []⟩ e.rd he.rd ho.rn ho.rl) (.nil _)
theorem takeint_ok {n : Int} (hn : in64 n) : Fun Try.prog [] 45 [tY] [bD (putS n)] [tI, tI] (.ok [I64d n, I64d 0]) := by
  have hr := read_put hn []
  rw [List.append_nil] at hr
  have hl := putS_len n
  exact fun_as (takeint_fn (putS n) (putS_isB hn) (by omega)) (by simp [tiR, takeIntS, hr])
theorem rdP_at {l : List (Int × Int)} {j : Nat} (h : j < l.length) : (rdP l).getD (2 * j) [] = putS (l.getD j (0, 0)).1 ∧ (rdP l).getD (2 * j + 1) [] = putS (l.getD j (0, 0)).2 := by
  induction l generalizing j with
  | nil => simp at h
  | cons x l ih =>
    cases j with
    | zero => exact ⟨rfl, rfl⟩
    | succ j =>
      have := ih (j := j) (by simpa using h)
      have e : rdP (x :: l) = putS x.1 :: putS x.2 :: rdP l := rfl
      rw [e, show 2 * (j + 1) = 2 * j + 1 + 1 by omega]
      simpa only [List.getD_cons_succ] using this
theorem takerd_fn (l : List (Int × Int)) (h : ∀ x ∈ l, inI x.1 ∧ inI x.2) (hl : l.length ≤ 16) : Fun Try.prog [] 89 [tY] [bD (putL (rdP l))] [tR, tB] (.ok [rdD l, .bool true]) := by
  refine D30.takerd_ent _ _ ?_
  show D30.vctakerd.den _ _ _ _ _
  unfold D30.vctakerd
  have hL := rdP_len l
  have hsm := rdP_small l
  have hB := putL_isB (rdP_isB h) (fun x hx => by have := hsm x hx; omega) (by omega)
  have hln := putL_len (n := 0) hsm
  have ht := takel_fn (putL (rdP l)) hB (by omega)
  rw [takeList_put (by omega) (fun x hx => by have := hsm x hx; omega)] at ht
  refine den_cal [bbD (rdP l), I64d 0] rfl ht rfl rfl ?_
  (try simp only [List.cons_append, List.nil_append])
  refine den_f rfl ?_
  refine den_f (by simp only [E.den, D.toI, D.toB, D.toL, D.toS, D.len, D.mapL, flatD, dE]; rw [hL, Int.tmod_eq_emod_of_nonneg (by omega)]; omega) ?_
  have hq : IntKind.wrap .i64 (((2 * l.length : Nat) : Int).tdiv 2) = l.length := by rw [Int.tdiv_eq_ediv_of_nonneg (by omega), wrap_i64 (by omega) (by omega)]; omega
  refine den_ev (evs_ob (by simp only [E.den, D.toI, D.toB, D.toL, D.toS, D.len, D.mapL, flatD, dE]; rw [hL, hq]; omega) (evs_ob (by simp only [E.den, D.toI, D.toB, D.toL, D.toS, D.len, D.mapL, flatD, dE]; rw [hL, hq]; omega) (evs_nil ?_)))
  refine den_loop (fun xs => ∃ (z : List D) (q : Bool) (j : Nat), xs = [rdD (l.take j), .lst z, .bool q, I64d (2 * j : Nat)] ∧ j ≤ l.length) (fun xs => 2 * l.length - (xs.getD 3 default).toI.toNat) ⟨[], false, 0, rfl, by omega⟩ ?_
  simp only [AllSh]
  intro _ _ zz _ q n _ _ ⟨_, _, j, he, hj⟩
  simp only [List.cons.injEq, D.int.injEq, D.lst.injEq, D.bool.injEq, true_and, and_true] at he
  obtain ⟨rfl, rfl, rfl, rfl⟩ := he
  (try simp only [List.cons_append, List.nil_append])
  refine den_ite (fun k => ?_) (fun k => den_ret ?_)
  · simp only [E.den, D.toI, D.toB, D.toL, D.toS, D.len, D.mapL, flatD, dE] at k
    rw [hL] at k
    have hj' : j < l.length := by omega
    obtain ⟨e1, e2⟩ := rdP_at hj'
    have hx := h _ (mem_getD (0, 0) hj')
    have hw1 : IntKind.wrap .i64 (((2 * j : Nat) : Int) + 1) = ((2 * j + 1 : Nat) : Int) := by rw [wrap_i64 (by omega) (by omega)]; omega
    have hw2 : IntKind.wrap .i64 (((2 * j : Nat) : Int) + 2) = ((2 * (j + 1) : Nat) : Int) := by rw [wrap_i64 (by omega) (by omega)]; omega
    have g1 := getD_map (g := bD) (l := rdP l) (i := 2 * j) [] (by omega)
    have g2 := getD_map (g := bD) (l := rdP l) (i := 2 * j + 1) [] (by omega)
    rw [e1] at g1
    rw [e2] at g2
    refine den_ev (evs_ob (by simp only [E.den, D.toI, D.toB, D.toL, D.toS, D.len, D.mapL, flatD, dE]; omega) (evs_ob (by simp only [E.den, D.toI, D.toB, D.toL, D.toS, D.len, D.mapL, flatD, dE]; rw [hL]; omega) (evs_nil ?_)))
    refine den_cal [I64d (l.getD j (0, 0)).1, I64d 0] rfl (takeint_ok hx.1) (by simp only [E.den, D.toI, D.toB, D.toL, D.toS, D.len, D.mapL, flatD, dE, g1]) rfl ?_
    (try simp only [List.cons_append, List.nil_append])
    refine den_f rfl ?_
    refine den_ev (evs_ob (by simp only [E.den, D.toI, D.toB, D.toL, D.toS, D.len, D.mapL, flatD, dE]; rw [hw1]; omega) (evs_ob (by simp only [E.den, D.toI, D.toB, D.toL, D.toS, D.len, D.mapL, flatD, dE]; rw [hw1, hL]; omega) (evs_nil ?_)))
    refine den_cal [I64d (l.getD j (0, 0)).2, I64d 0] rfl (takeint_ok hx.2) (by simp only [E.den, D.toI, D.toB, D.toL, D.toS, D.len, D.mapL, flatD, dE, hw1, g2]) rfl ?_
    (try simp only [List.cons_append, List.nil_append])
    refine den_f rfl ?_
    refine den_ev (evs_ob (by simp only [E.den, D.toI, D.toB, D.toL, D.toS, D.len, D.mapL, flatD, dE]; simp only [List.length_take]; omega) (evs_nil ?_))
    refine den_back rfl ⟨zz, q, j + 1, ?_, by omega⟩ (by simp only []; simp only [E.den, D.toI, D.toB, D.toL, D.toS, D.len, D.mapL, flatD, dE]; rw [hw2]; omega)
    simp only [E.den, D.toI, D.toB, D.toL, D.toS, D.len, D.mapL, flatD, dE]
    rw [hw2, take_get (0, 0) hj']
    simp
  · simp only [E.den, D.toI, D.toB, D.toL, D.toS, D.len, D.mapL, flatD, dE] at k
    rw [hL] at k
    have : j = l.length := by omega
    subst this
    simp only [E.den, D.toI, D.toB, D.toL, D.toS, D.len, D.mapL, flatD, dE]
    rw [List.take_length]
theorem takefield_fn {c : Evt} {x : Fld} {c' : Evt} (h : Step c x c') : Fun Try.prog [] 72 [.p [.s .str, .s .str, .s (.int .i64), .s (.int .i64), .s (.int .i64), .s (.int .i64), .s .str, .s .bool, .s (.int .i64), .s (.lst [.int .i64, .int .i64])], .g [.int .i64, .lst [.int .u8]]] [.rc (evL c), fD x] [tB] (.ok [.bool true, .rc (evL c')]) := by
  refine D30.takefield_ent _ _ ?_
  show D30.vctakefield.den _ _ _ _ _
  unfold D30.vctakefield
  cases h with
  | st s h =>
    refine den_t rfl (den_ret ?_)
    simp only [E.den, D.toI, D.toB, D.toL, D.toS, D.len, D.mapL, flatD, dE, strD_sB, str_eq, emp_iff]
    simp [h]
  | tx s h =>
    refine den_f rfl ?_
    refine den_t rfl (den_ret ?_)
    simp only [E.den, D.toI, D.toB, D.toL, D.toS, D.len, D.mapL, flatD, dE, strD_sB, str_eq, emp_iff]
    simp [h]
  | tk s h =>
    refine den_f rfl ?_
    refine den_f rfl ?_
    refine den_t rfl (den_ret ?_)
    simp only [E.den, D.toI, D.toB, D.toL, D.toS, D.len, D.mapL, flatD, dE, strD_sB, str_eq, emp_iff]
    simp [h]
  | co n h h0 =>
    refine den_f rfl (den_f rfl (den_f rfl (den_f rfl ?_)))
    refine den_cal [I64d n, I64d 0] rfl (takeint_ok h) rfl rfl ?_
    (try simp only [List.cons_append, List.nil_append])
    refine den_f rfl ?_
    refine den_f (by simp only [E.den, D.toI, D.toB, D.toL, D.toS, D.len, D.mapL, flatD, dE]; exact h0) ?_
    exact den_t rfl (den_ret rfl)
  | sq n h h0 =>
    refine den_f rfl (den_f rfl (den_f rfl (den_f rfl ?_)))
    refine den_cal [I64d n, I64d 0] rfl (takeint_ok h) rfl rfl ?_
    (try simp only [List.cons_append, List.nil_append])
    refine den_f rfl ?_
    refine den_f (by simp only [E.den, D.toI, D.toB, D.toL, D.toS, D.len, D.mapL, flatD, dE]; exact h0) ?_
    refine den_f rfl ?_
    exact den_t rfl (den_ret rfl)
  | ki n h h0 =>
    refine den_f rfl (den_f rfl (den_f rfl (den_f rfl ?_)))
    refine den_cal [I64d n, I64d 0] rfl (takeint_ok h) rfl rfl ?_
    (try simp only [List.cons_append, List.nil_append])
    refine den_f rfl ?_
    refine den_f (by simp only [E.den, D.toI, D.toB, D.toL, D.toS, D.len, D.mapL, flatD, dE]; exact h0) ?_
    refine den_f rfl ?_
    refine den_f rfl ?_
    exact den_t rfl (den_ret rfl)
  | at' n h h0 =>
    refine den_f rfl (den_f rfl (den_f rfl (den_f rfl ?_)))
    refine den_cal [I64d n, I64d 0] rfl (takeint_ok h) rfl rfl ?_
    (try simp only [List.cons_append, List.nil_append])
    refine den_f rfl ?_
    refine den_f (by simp only [E.den, D.toI, D.toB, D.toL, D.toS, D.len, D.mapL, flatD, dE]; exact h0) ?_
    refine den_f rfl ?_
    refine den_f rfl ?_
    refine den_f rfl ?_
    exact den_t rfl (den_ret rfl)
  | re n h h0 =>
    refine den_f rfl (den_f rfl (den_f rfl (den_f rfl ?_)))
    refine den_cal [I64d n, I64d 0] rfl (takeint_ok h) rfl rfl ?_
    (try simp only [List.cons_append, List.nil_append])
    refine den_f rfl ?_
    refine den_f (by simp only [E.den, D.toI, D.toB, D.toL, D.toS, D.len, D.mapL, flatD, dE]; exact h0) ?_
    refine den_f rfl ?_
    refine den_f rfl ?_
    refine den_f rfl ?_
    refine den_f rfl ?_
    refine den_f rfl ?_
    exact den_t rfl (den_ret rfl)
  | off =>
    refine den_f rfl (den_f rfl (den_f rfl (den_f rfl ?_)))
    refine den_cal [I64d 1, I64d 0] rfl (takeint_ok (n := 1) (by unfold in64; omega)) rfl rfl ?_
    (try simp only [List.cons_append, List.nil_append])
    refine den_f rfl (den_f rfl ?_)
    refine den_f rfl ?_
    refine den_f rfl ?_
    refine den_f rfl ?_
    refine den_f rfl ?_
    exact den_t rfl (den_ret rfl)
  | rd l h h0 hl =>
    refine den_f rfl (den_f rfl (den_f rfl (den_t rfl ?_)))
    refine den_cal [rdD l, .bool true] rfl (takerd_fn l h hl) rfl rfl ?_
    (try simp only [List.cons_append, List.nil_append])
    refine den_t rfl (den_ret ?_)
    have : 0 < l.length := List.length_pos_iff.2 h0
    simp only [E.den, D.toI, D.toB, D.toL, D.toS, D.len, D.mapL, flatD, dE]
    rw [decide_eq_true (show (0 : Int) < l.length by omega)]
/-! lengths -/
theorem fldE_small {e : Evt} (h : Ok e) : ∀ x ∈ fldE e, x.2.length ≤ 700 := by
  have hst := name_len h.st
  have htx := name_len h.tx
  have htk := h.tk
  have hrl := h.rl
  have hl := rdP_len e.rd
  intro x hx
  unfold fldE at hx
  simp only [List.mem_append] at hx
  rcases hx with ((((((((hx | hx) | hx) | hx) | hx) | hx) | hx) | hx) | hx) | hx
  · have := txtF_data hst.1 x hx; omega
  · have := txtF_data htx.1 x hx; omega
  · have := numF_data _ _ x hx; omega
  · have := numF_data _ _ x hx; omega
  · have := numF_data _ _ x hx; omega
  · have := numF_data _ _ x hx; omega
  · have := txtF_data htk x hx; omega
  · have := flagF_data _ _ x hx; omega
  · have := numF_data _ _ x hx; omega
  · have := listF_data (rdP_small e.rd) x hx; omega
theorem putG_len : ∀ (l : List Fld) (b : Int) (r : List Int) (n : Nat), (∀ x ∈ l, x.2.length ≤ n) → putG b l = .ok r → r.length ≤ l.length * (n + 20)
  | [], b, r, n, _, h => by cases h; simp
  | (t, d) :: l, b, r, n, hs, h => by
    simp only [putG] at h
    split at h
    · cases h
    · split at h
      · cases h
      · cases hp : putG t l with
        | error e2 => rw [hp] at h; cases h
        | ok r2 =>
          rw [hp] at h
          cases h
          have h1 := putG_len l t r2 n (fun x hx => hs x (by simp [hx])) hp
          have h2 := hs (t, d) (by simp)
          have h3 := putS_len t
          have h4 := putS_len d.length
          simp only at h2
          simp only [putD, List.length_append, List.length_cons, Nat.add_mul, Nat.one_mul]
          omega
theorem byE_len {e : Evt} (h : Ok e) : (byE e).length ≤ 7200 := by
  have hp := byE_put e
  have hl := fldE_len e
  rw [putF_in (by omega)] at hp
  have := putG_len _ _ _ 700 (fldE_small h) hp
  have h2 : (fldE e).length * (700 + 20) ≤ 10 * 720 := Nat.mul_le_mul_right _ hl
  omega
theorem decode_fn (e : Evt) (he : EvT e) (hv : validS e = 0) : Fun Try.prog [] 47 [tY] [bD (byE e)] [tE, tI] (.ok [evD e, I64d 0]) := by
  refine D30.decode_ent _ _ ?_
  show D30.vcdecode.den _ _ _ _ _
  unfold D30.vcdecode
  have ho := ok_of hv
  have hlen := byE_len ho
  have ht := take_fn (byE e) (byE_isB he ho) (by omega)
  rw [take_byE ho] at ht
  have hfl := fldE_len e
  refine den_cal [fsD (fldE e), I64d 0] rfl ht rfl rfl ?_
  (try simp only [List.cons_append, List.nil_append])
  refine den_f rfl ?_
  refine den_loop (fun xs => ∃ (c : Evt) (z : Int) (i : Nat), xs = evL c ++ [I64d z, I64d i] ∧ i ≤ (fldE e).length ∧ Steps c ((fldE e).drop i) e) (fun xs => (fldE e).length - (xs.getD 11 default).toI.toNat) ⟨ev0, 0, 0, rfl, by omega, steps_ev he ho⟩ ?_
  simp only [AllSh]
  intro _ _ _ _ _ _ _ _ _ _ _ _ _ _ _ _ _ _ _ _ _ _ _ _ zz _ _ n _ _ ⟨c, _, i, hq, hi, hs⟩
  simp only [List.cons_append, List.nil_append, List.cons.injEq, D.int.injEq, D.str.injEq, D.bool.injEq, D.lst.injEq, true_and, and_true] at hq
  obtain ⟨rfl, rfl, rfl, rfl, rfl, rfl, rfl, rfl, rfl, rfl, rfl, rfl⟩ := hq
  (try simp only [List.cons_append, List.nil_append])
  refine den_ite (fun k => ?_) (fun k => ?_)
  · simp only [E.den, D.toI, D.toB, D.toL, D.toS, D.len, D.mapL, flatD, dE] at k
    have hi' : i < (fldE e).length := by omega
    have hg := getD_map (g := fD) (0, []) hi'
    have hw : IntKind.wrap .i64 ((i : Int) + 1) = ((i + 1 : Nat) : Int) := by rw [wrap_i64 (by omega) (by omega)]; omega
    rw [drop_get (0, []) hi'] at hs
    cases hs with
    | cons h1 h2 =>
      rename_i c'
      refine den_ev (evs_ob (by simp only [E.den, D.toI, D.toB, D.toL, D.toS, D.len, D.mapL, flatD, dE]; omega) (evs_ob (by simp only [E.den, D.toI, D.toB, D.toL, D.toS, D.len, D.mapL, flatD, dE]; omega) (evs_nil ?_)))
      refine den_cal (.bool true :: evL c') rfl (takefield_fn h1) (by simp only [E.den, D.toI, D.toB, D.toL, D.toS, D.len, D.mapL, flatD, dE, hg]) rfl ?_
      (try simp only [List.cons_append, List.nil_append])
      refine den_t rfl ?_
      exact den_back rfl ⟨c', zz, i + 1, (by simp only [E.den, D.toI, D.toB, D.toL, D.toS, D.len, D.mapL, flatD, dE]; rw [hw]), by omega, h2⟩ (by simp only []; simp only [E.den, D.toI, D.toB, D.toL, D.toS, D.len, D.mapL, flatD, dE]; rw [hw]; omega)
  · simp only [E.den, D.toI, D.toB, D.toL, D.toS, D.len, D.mapL, flatD, dE] at k
    have : i = (fldE e).length := by omega
    subst this
    rw [List.drop_length] at hs
    cases hs
    refine den_cal [I64d (validS e)] rfl (E30.valid_fn e he) rfl rfl ?_
    (try simp only [List.cons_append, List.nil_append])
    refine den_f (by simp only [E.den, D.toI, D.toB, D.toL, D.toS, D.len, D.mapL, flatD, dE]; exact hv) (den_ret rfl)
/-! Save, Load -/
def saveF (o : Ob) : List Fld := [(1, putS o.rm), (2, putS o.lo), (3, putL (o.it.map byE))]
def saveB (o : Ob) : List Int := match putF (saveF o) with | .ok b => b | .error _ => []
theorem saveB_put (o : Ob) : putF (saveF o) = .ok (saveB o) := by
  obtain ⟨r, hr⟩ := asc_put (saveF o) 0 (by omega) ⟨by simp, by simp, by simp, by simp, by simp, by simp, trivial⟩
  have h : putF (saveF o) = .ok r := by rw [putF_in (by simp [saveF])]; exact hr
  unfold saveB
  rw [h]
theorem map_len {o : Ob} (hv : ∀ x ∈ o.it, validS x = 0) : ∀ b ∈ o.it.map byE, b.length ≤ 7200 := fun b hb => by
  obtain ⟨x, hx, rfl⟩ := List.mem_map.1 hb
  exact byE_len (ok_of (hv x hx))
theorem putL_len2 {p : List (List Int)} {n : Nat} (hs : ∀ x ∈ p, x.length ≤ n) : (putL p).length ≤ 10 + (n + 10) * p.length := by
  have h1 := putS_len p.length
  have h2 : (p.flatMap putD).length ≤ (n + 10) * p.length := by
    clear h1
    induction p with
    | nil => simp
    | cons x p ih =>
      have h3 := putS_len x.length
      have h4 := hs x (by simp)
      have h5 := ih fun y hy => hs y (by simp [hy])
      rw [List.flatMap_cons, List.length_append, List.length_cons, Nat.mul_add, Nat.mul_one]
      unfold putD at h5 ⊢
      rw [List.length_append]
      omega
  unfold putL
  rw [List.length_append]
  omega
theorem saveF_data {o : Ob} (hv : ∀ x ∈ o.it, validS x = 0) (hl : o.it.length ≤ 100) : ∀ x ∈ saveF o, x.2.length ≤ 1000000 := by
  have h1 := putS_len o.rm
  have h2 := putS_len o.lo
  have h3 := putL_len2 (map_len hv)
  rw [List.length_map] at h3
  intro x hx
  simp only [saveF, List.mem_cons, List.not_mem_nil, or_false] at hx
  rcases hx with rfl | rfl | rfl <;> simp only <;> omega
theorem save_isB {o : Ob} (ho : ObT o) (hv : ∀ x ∈ o.it, validS x = 0) (hl : o.it.length ≤ 100) : isB (saveB o) ∧ (saveB o).length ≤ 256005120 := by
  have h := putF_isB (l := saveF o) (fun x hx => ?_) (saveF_data hv hl) (saveB_put o)
  · exact ⟨h.1, h.2.1⟩
  · simp only [saveF, List.mem_cons, List.not_mem_nil, or_false] at hx
    rcases hx with rfl | rfl | rfl
    · exact putS_isB ho.rm
    · exact putS_isB ho.lo
    · refine putL_isB (fun b hb => ?_) (fun b hb => by have := map_len hv b hb; omega) (by rw [List.length_map]; omega)
      obtain ⟨y, hy, rfl⟩ := List.mem_map.1 hb
      exact byE_isB (ho.it y hy) (ok_of (hv y hy))
theorem take_save {o : Ob} (ho : ObT o) (hv : ∀ x ∈ o.it, validS x = 0) (hl : o.it.length ≤ 100) : takeF (saveB o) = .ok (saveF o) := by
  have hp := saveB_put o
  rw [putF_in (by simp [saveF])] at hp
  exact take_put (saveF o) (saveB o).length 0 0 (saveB o) (fun x hx => by have := saveF_data hv hl x hx; omega) hp (Nat.le_refl _) (by simp [saveF])
theorem save_fn (o : Ob) (ho : ObT o) (hl : o.it.length ≤ 100) : Fun Try.prog [] 23 [tO] [obD o] [tY, tI] (.ok [bD (if ovS o = 0 then saveB o else []), I64d (ovS o)]) := by
  refine save_ent _ _ ?_
  show vcsave.den _ _ _ _ _
  unfold vcsave
  refine den_cal [I64d (ovS o)] rfl (ovalid_fn o ho) rfl rfl ?_
  (try simp only [List.cons_append, List.nil_append])
  refine den_ite (fun h => den_ret ?_) (fun h => ?_)
  · simp only [E.den, D.toI, D.toB, D.toL, D.toS, D.len, D.mapL, flatD, dE] at h
    simp only [E.den, D.toI, D.toB, D.toL, D.toS, D.len, D.mapL, flatD, dE]
    rw [if_neg h]
    rfl
  simp only [E.den, D.toI, D.toB, D.toL, D.toS, D.len, D.mapL, flatD, dE] at h
  rw [if_pos h, h]
  have hv := (ov_ok h).it
  refine den_ev (evs_ob (by simp only [E.den, D.toI, D.toB, D.toL, D.toS, D.len, D.mapL, flatD, dE]; omega) (evs_ob (by simp only [E.den, D.toI, D.toB, D.toL, D.toS, D.len, D.mapL, flatD, dE]; omega) (evs_nil ?_)))
  refine den_loop (fun xs => ∃ (s : List D) (z : Int) (i : Nat), xs = [bbD ((o.it.take i).map byE), .lst s, I64d z, I64d i] ∧ i ≤ o.it.length) (fun xs => o.it.length - (xs.getD 3 default).toI.toNat) ⟨[], 0, 0, rfl, by omega⟩ ?_
  simp only [AllSh]
  intro _ _ ss _ zz _ _ n _ _ ⟨_, _, i, hq, hi⟩
  simp only [List.cons.injEq, D.int.injEq, D.lst.injEq, true_and, and_true] at hq
  obtain ⟨rfl, rfl, rfl, rfl⟩ := hq
  (try simp only [List.cons_append, List.nil_append])
  refine den_ite (fun k => ?_) (fun k => ?_)
  · simp only [E.den, D.toI, D.toB, D.toL, D.toS, D.len, D.mapL, flatD, dE] at k
    have hi' : i < o.it.length := by omega
    have hg := getD_map (g := evD) ev0 hi'
    have hm := mem_getD ev0 hi'
    have hvi := hv _ hm
    have hw : IntKind.wrap .i64 ((i : Int) + 1) = ((i + 1 : Nat) : Int) := by rw [wrap_i64 (by omega) (by omega)]; omega
    refine den_ev (evs_ob (by simp only [E.den, D.toI, D.toB, D.toL, D.toS, D.len, D.mapL, flatD, dE]; omega) (evs_ob (by simp only [E.den, D.toI, D.toB, D.toL, D.toS, D.len, D.mapL, flatD, dE]; omega) (evs_nil ?_)))
    refine den_cal [bD (byE (o.it.getD i ev0)), I64d 0] rfl (fun_as (encode_fn (o.it.getD i ev0) (ho.it _ hm)) (by rw [if_pos hvi, hvi] <;> rfl)) (by simp only [E.den, D.toI, D.toB, D.toL, D.toS, D.len, D.mapL, flatD, dE, hg]) rfl ?_
    (try simp only [List.cons_append, List.nil_append])
    refine den_f rfl ?_
    refine den_ev (evs_ob (by simp only [E.den, D.toI, D.toB, D.toL, D.toS, D.len, D.mapL, flatD, dE]; simp only [List.length_take]; omega) (evs_nil ?_))
    refine den_back rfl ⟨ss, zz, i + 1, ?_, by omega⟩ (by simp only []; simp only [E.den, D.toI, D.toB, D.toL, D.toS, D.len, D.mapL, flatD, dE]; rw [hw]; omega)
    simp only [E.den, D.toI, D.toB, D.toL, D.toS, D.len, D.mapL, flatD, dE]
    rw [hw, take_get ev0 hi']
    simp
  · simp only [E.den, D.toI, D.toB, D.toL, D.toS, D.len, D.mapL, flatD, dE] at k
    have : i = o.it.length := by omega
    subst this
    rw [List.take_length]
    have hp := putl_fn (o.it.map byE) (by rw [List.length_map]; omega) (fun b hb => by have := map_len hv b hb; omega)
    rw [putListS_in (by rw [List.length_map]; omega)] at hp
    refine den_cal [bD (putL (o.it.map byE)), I64d 0] rfl hp rfl rfl ?_
    (try simp only [List.cons_append, List.nil_append])
    refine den_f rfl ?_
    have hpf := put_fn (saveF o) (by simp [saveF]) (saveF_data hv hl)
    rw [saveB_put] at hpf
    refine den_ev (evs_call [bD (putS o.rm)] rfl (putint_fn o.rm ho.rm) rfl rfl (evs_call [bD (putS o.lo)] rfl (putint_fn o.lo ho.lo) rfl rfl (evs_call [bD (saveB o), I64d 0] rfl hpf rfl rfl (evs_nil (den_ret rfl)))))
theorem rsave_fn (o : Ob) (ho : ObT o) (hl : o.it.length ≤ 100) : Fun Try.prog [] 24 [tO] [obD o] [tY, tI] (.ok [bD (if ovS o = 0 then saveB o else []), I64d (ovS o)]) := by
  refine rsave_ent _ _ ?_
  show vcrsave.den _ _ _ _ _
  unfold vcrsave
  refine den_cal [I64d (ovS o)] rfl (rovalid_fn o ho) rfl rfl ?_
  (try simp only [List.cons_append, List.nil_append])
  refine den_ite (fun h => den_ret ?_) (fun h => ?_)
  · simp only [E.den, D.toI, D.toB, D.toL, D.toS, D.len, D.mapL, flatD, dE] at h
    simp only [E.den, D.toI, D.toB, D.toL, D.toS, D.len, D.mapL, flatD, dE]
    rw [if_neg h]
    rfl
  simp only [E.den, D.toI, D.toB, D.toL, D.toS, D.len, D.mapL, flatD, dE] at h
  rw [if_pos h, h]
  have hv := (ov_ok h).it
  refine den_loop (fun xs => ∃ i : Nat, xs = [bbD ((o.it.take i).map byE), I64d i] ∧ i ≤ o.it.length) (fun xs => o.it.length - (xs.getD 1 default).toI.toNat) ⟨0, rfl, by omega⟩ ?_
  simp only [AllSh]
  intro _ _ n _ _ ⟨i, hq, hi⟩
  simp only [List.cons.injEq, D.int.injEq, D.lst.injEq, true_and, and_true] at hq
  obtain ⟨rfl, rfl⟩ := hq
  (try simp only [List.cons_append, List.nil_append])
  refine den_ite (fun k => ?_) (fun k => ?_)
  · simp only [E.den, D.toI, D.toB, D.toL, D.toS, D.len, D.mapL, flatD, dE] at k
    have hi' : i < o.it.length := by omega
    have hg := getD_map (g := evD) ev0 hi'
    have hm := mem_getD ev0 hi'
    have hvi := hv _ hm
    have hw : IntKind.wrap .i64 ((i : Int) + 1) = ((i + 1 : Nat) : Int) := by rw [wrap_i64 (by omega) (by omega)]; omega
    refine den_ev (evs_ob (by simp only [E.den, D.toI, D.toB, D.toL, D.toS, D.len, D.mapL, flatD, dE]; omega) (evs_ob (by simp only [E.den, D.toI, D.toB, D.toL, D.toS, D.len, D.mapL, flatD, dE]; omega) (evs_nil ?_)))
    refine den_cal [bD (byE (o.it.getD i ev0)), I64d 0] rfl (fun_as (rencode_fn (o.it.getD i ev0) (ho.it _ hm)) (by rw [if_pos hvi, hvi] <;> rfl)) (by simp only [E.den, D.toI, D.toB, D.toL, D.toS, D.len, D.mapL, flatD, dE, hg]) rfl ?_
    (try simp only [List.cons_append, List.nil_append])
    refine den_ev (evs_ob (by simp only [E.den, D.toI, D.toB, D.toL, D.toS, D.len, D.mapL, flatD, dE]; simp only [List.length_take]; omega) (evs_nil ?_))
    refine den_back rfl ⟨i + 1, ?_, by omega⟩ (by simp only []; simp only [E.den, D.toI, D.toB, D.toL, D.toS, D.len, D.mapL, flatD, dE]; rw [hw]; omega)
    simp only [E.den, D.toI, D.toB, D.toL, D.toS, D.len, D.mapL, flatD, dE]
    rw [hw, take_get ev0 hi']
    simp
  · simp only [E.den, D.toI, D.toB, D.toL, D.toS, D.len, D.mapL, flatD, dE] at k
    have : i = o.it.length := by omega
    subst this
    rw [List.take_length]
    have hp := rputl_fn (o.it.map byE) (by rw [List.length_map]; omega) (fun b hb => by have := map_len hv b hb; omega)
    rw [putListS_in (by rw [List.length_map]; omega)] at hp
    refine den_cal [bD (putL (o.it.map byE)), I64d 0] rfl hp rfl rfl ?_
    (try simp only [List.cons_append, List.nil_append])
    have hpf := rput_fn (saveF o) (by simp [saveF]) (saveF_data hv hl)
    rw [saveB_put] at hpf
    refine den_cal [bD (putS o.rm)] rfl (rputint_fn o.rm ho.rm) rfl rfl ?_
    refine den_cal [bD (putS o.lo)] rfl (rputint_fn o.lo ho.lo) rfl rfl ?_
    refine den_cal [bD (saveB o), I64d 0] rfl hpf rfl rfl ?_
    exact den_ret rfl
theorem load_fn (o : Ob) (ho : ObT o) (h : ovS o = 0) (hl : o.it.length ≤ 100) : Fun Try.prog [] 25 [tY] [bD (saveB o)] [tO, tI] (.ok [obD o, I64d 0]) := by
  refine load_ent _ _ ?_
  show vcload.den _ _ _ _ _
  unfold vcload
  have hv := (ov_ok h).it
  have hB := save_isB ho hv hl
  have ht := take_fn (saveB o) hB.1 (by omega)
  rw [take_save ho hv hl] at ht
  refine den_cal [fsD (saveF o), I64d 0] rfl ht rfl rfl ?_
  (try simp only [List.cons_append, List.nil_append])
  refine den_f rfl (den_f rfl ?_)
  refine den_ev (evs_ob rfl (evs_nil ?_))
  refine den_f rfl ?_
  refine den_ev (evs_ob rfl (evs_nil ?_))
  refine den_f rfl ?_
  refine den_ev (evs_ob rfl (evs_nil ?_))
  refine den_f rfl ?_
  refine den_ev (evs_ob rfl (evs_nil ?_))
  refine den_cal [I64d o.rm, I64d 0] rfl (takeint_ok ho.rm) rfl rfl ?_
  (try simp only [List.cons_append, List.nil_append])
  refine den_f rfl ?_
  refine den_ev (evs_ob rfl (evs_nil ?_))
  refine den_cal [I64d o.lo, I64d 0] rfl (takeint_ok ho.lo) rfl rfl ?_
  (try simp only [List.cons_append, List.nil_append])
  refine den_f rfl ?_
  refine den_ev (evs_ob rfl (evs_nil ?_))
  have hml := map_len hv
  have hLB : isB (putL (o.it.map byE)) := putL_isB (fun b hb => by
    obtain ⟨y, hy, rfl⟩ := List.mem_map.1 hb
    exact byE_isB (ho.it y hy) (ok_of (hv y hy))) (fun b hb => by have := hml b hb; omega) (by rw [List.length_map]; omega)
  have hLl := putL_len2 hml
  rw [List.length_map] at hLl
  have hl7 := takel_fn (putL (o.it.map byE)) hLB (by omega)
  rw [takeList_put (by rw [List.length_map]; omega) (fun x hx => by have := hml x hx; omega)] at hl7
  refine den_cal [bbD (o.it.map byE), I64d 0] rfl hl7 rfl rfl ?_
  (try simp only [List.cons_append, List.nil_append])
  refine den_f rfl ?_
  refine den_loop (fun xs => ∃ (z : Int) (i : Nat), xs = [I64d o.rm, I64d o.lo, evsD (o.it.take i), I64d z, I64d i] ∧ i ≤ o.it.length) (fun xs => o.it.length - (xs.getD 4 default).toI.toNat) ⟨0, 0, rfl, by omega⟩ ?_
  simp only [AllSh]
  intro _ _ _ _ _ _ _ _ zz _ _ n _ _ ⟨_, i, hq, hi⟩
  simp only [List.cons.injEq, D.int.injEq, D.lst.injEq, true_and, and_true] at hq
  obtain ⟨rfl, rfl, rfl, rfl, rfl⟩ := hq
  (try simp only [List.cons_append, List.nil_append])
  refine den_ite (fun k => ?_) (fun k => ?_)
  · simp only [E.den, D.toI, D.toB, D.toL, D.toS, D.len, D.mapL, flatD, dE] at k
    have hi' : i < o.it.length := by omega
    have hg := getD_map (g := bD) (l := o.it.map byE) (i := i) [] (by rw [List.length_map]; omega)
    have hgm : (o.it.map byE).getD i [] = byE (o.it.getD i ev0) := by simp [List.getD_eq_getElem?_getD, hi']
    rw [hgm] at hg
    have hm := mem_getD ev0 hi'
    have hw : IntKind.wrap .i64 ((i : Int) + 1) = ((i + 1 : Nat) : Int) := by rw [wrap_i64 (by omega) (by omega)]; omega
    refine den_ev (evs_ob (by simp only [E.den, D.toI, D.toB, D.toL, D.toS, D.len, D.mapL, flatD, dE]; omega) (evs_ob (by simp only [E.den, D.toI, D.toB, D.toL, D.toS, D.len, D.mapL, flatD, dE]; omega) (evs_nil ?_)))
    refine den_cal (evL (o.it.getD i ev0) ++ [I64d 0]) rfl (decode_fn (o.it.getD i ev0) (ho.it _ hm) (hv _ hm)) (by simp only [E.den, D.toI, D.toB, D.toL, D.toS, D.len, D.mapL, flatD, dE, hg]) rfl ?_
    (try simp only [List.cons_append, List.nil_append])
    refine den_f rfl ?_
    refine den_ev (evs_ob (by simp only [E.den, D.toI, D.toB, D.toL, D.toS, D.len, D.mapL, flatD, dE]; simp only [List.length_take]; omega) (evs_nil ?_))
    refine den_back rfl ⟨zz, i + 1, ?_, by omega⟩ (by simp only []; simp only [E.den, D.toI, D.toB, D.toL, D.toS, D.len, D.mapL, flatD, dE]; rw [hw]; omega)
    simp only [E.den, D.toI, D.toB, D.toL, D.toS, D.len, D.mapL, flatD, dE]
    rw [hw, take_get ev0 hi']
    simp
  · simp only [E.den, D.toI, D.toB, D.toL, D.toS, D.len, D.mapL, flatD, dE] at k
    have : i = o.it.length := by omega
    subst this
    rw [List.take_length]
    refine den_cal [I64d (ovS o)] rfl (ovalid_fn o ho) rfl rfl ?_
    (try simp only [List.cons_append, List.nil_append])
    refine den_f (by simp only [E.den, D.toI, D.toB, D.toL, D.toS, D.len, D.mapL, flatD, dE]; exact h) (den_ret rfl)
end Go.Proofs.Ytmkkijgnlohieaa.O31
