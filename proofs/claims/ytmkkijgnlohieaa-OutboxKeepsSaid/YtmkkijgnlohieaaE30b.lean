/-
  Layer 30's functions: encodings, messages, equality. No conditions stand ahead of what is proved.
-/
import Derived.Test.YtmkkijgnlohieaaE30
import Derived.Test.YtmkkijgnlohieaaR26
set_option maxRecDepth 100000
set_option linter.unusedSimpArgs false
set_option linter.unusedVariables false
namespace Go.Proofs.Ytmkkijgnlohieaa.E30
open Go.Proofs.Ytmkkijgnlohieaa Go.Proofs.Ytmkkijgnlohieaa.Sy Go.Proofs.Ytmkkijgnlohieaa.L7 Go.Proofs.Ytmkkijgnlohieaa.Id Go.Proofs.Ytmkkijgnlohieaa.R26 Go.RowKit Go.WideShapes Go.ChangeShapes Go.ChangeAt
/-! what a valid event is -/
theorem name_len {s : ByteArray} (h : nameS s = true) : s.size ≤ 36 ∧ s.size ≠ 0 := by
  simp only [nameS, Bool.and_eq_true, decide_eq_true_eq] at h
  omega
structure Ok (e : Ev) : Prop where
  st : nameS e.st = true
  tx : nameS e.tx = true
  tk : e.tk.size ≤ 36
  rl : e.rd.length ≤ 16
  rn : e.rd ≠ []
  co : 1 ≤ e.co ∧ e.co ≤ 32
  ki : 1 ≤ e.ki
theorem ok_of {e : Ev} (h : validS e = 0) : Ok e := by
  unfold validS at h
  split at h
  · cases h
  rename_i h1
  split at h
  · cases h
  rename_i h2
  split at h
  · rename_i h3; exact absurd h h3
  rename_i h3
  have hk : kindV e = 0 := by simpa using h3
  unfold rdgV at h
  split at h
  · cases h
  rename_i h4
  split at h
  · cases h
  rename_i h5
  have hn : nameS e.st = true ∧ nameS e.tx = true := by simpa using h1
  have htk : e.tk.size ≤ 36 ∧ 1 ≤ e.ki := by
    unfold kindV at hk
    split at hk
    · rename_i hki
      split at hk
      · cases hk
      · split at hk
        · rename_i h6; exact ⟨(name_len h6).1, by omega⟩
        · cases hk
    · split at hk
      · split at hk
        · cases hk
        · omega
      · split at hk
        · split at hk
          · cases hk
          · omega
        · cases hk
  exact ⟨hn.1, hn.2, htk.1, by omega, fun e' => h5 (by rw [e']; rfl), by omega, htk.2⟩
/-! its fields -/
theorem txtF_len (t : Int) (s : ByteArray) : (txtF t s).length ≤ 1 := by unfold txtF; split <;> simp
theorem numF_len (t n : Int) : (numF t n).length ≤ 1 := by unfold numF; split <;> simp
theorem flagF_len (t : Int) (b : Bool) : (flagF t b).length ≤ 1 := by unfold flagF; split <;> simp
theorem listF_len (t : Int) (p : List (List Int)) : (listF t p).length ≤ 1 := by unfold listF; split <;> simp
def rdP (l : List (Int × Int)) : List (List Int) := (l.flatMap pairL).map putS
theorem pairs_len (l : List (Int × Int)) : (l.flatMap pairL).length = 2 * l.length := by
  induction l with
  | nil => rfl
  | cons x l ih => rw [List.flatMap_cons, List.length_append, ih]; simp [pairL]; omega
theorem rdP_len (l : List (Int × Int)) : (rdP l).length = 2 * l.length := by unfold rdP; rw [List.length_map, pairs_len]
theorem rdP_small (l : List (Int × Int)) : ∀ x ∈ rdP l, x.length ≤ 10 := by
  intro x hx
  obtain ⟨n, _, rfl⟩ := List.mem_map.1 hx
  exact (putS_len n).2
theorem putL_len {p : List (List Int)} {n : Nat} (hs : ∀ x ∈ p, x.length ≤ 10) : (putL p).length ≤ 10 + 20 * p.length := by
  have h1 := putS_len p.length
  have h2 : (p.flatMap putD).length ≤ 20 * p.length := by
    clear h1
    induction p with
    | nil => simp
    | cons x p ih =>
      have h3 := putS_len x.length
      have h4 := hs x (by simp)
      have h5 := ih fun y hy => hs y (by simp [hy])
      rw [List.flatMap_cons, List.length_append, List.length_cons]
      unfold putD at h5 ⊢
      rw [List.length_append]
      omega
  unfold putL
  rw [List.length_append]
  omega
def fldE (e : Ev) : List Fld := txtF 1 e.st ++ txtF 2 e.tx ++ numF 3 e.co ++ numF 4 e.sq ++ numF 5 e.ki ++ numF 6 e.at' ++ txtF 7 e.tk ++ flagF 8 e.off ++ numF 9 e.re ++ listF 10 (rdP e.rd)
theorem fldE_len (e : Ev) : (fldE e).length ≤ 10 := by
  have a1 := txtF_len 1 e.st
  have a2 := txtF_len 2 e.tx
  have a3 := numF_len 3 e.co
  have a4 := numF_len 4 e.sq
  have a5 := numF_len 5 e.ki
  have a6 := numF_len 6 e.at'
  have a7 := txtF_len 7 e.tk
  have a8 := flagF_len 8 e.off
  have a9 := numF_len 9 e.re
  have a10 := listF_len 10 (rdP e.rd)
  unfold fldE
  simp only [List.length_append]
  omega
theorem txtF_data {t : Int} {s : ByteArray} {n : Nat} (h : s.size ≤ n) : ∀ x ∈ txtF t s, x.2.length ≤ n := by
  unfold txtF
  split
  · intro x hx; cases hx
  · intro x hx
    simp only [List.mem_singleton] at hx
    subst hx
    rw [sB_len]
    exact h
theorem numF_data (t n : Int) : ∀ x ∈ numF t n, x.2.length ≤ 10 := by
  unfold numF
  split
  · intro x hx; cases hx
  · intro x hx
    simp only [List.mem_singleton] at hx
    subst hx
    exact (putS_len n).2
theorem flagF_data (t : Int) (b : Bool) : ∀ x ∈ flagF t b, x.2.length ≤ 10 := by
  unfold flagF
  split
  · intro x hx
    simp only [List.mem_singleton] at hx
    subst hx
    exact (putS_len 1).2
  · intro x hx; cases hx
theorem listF_data {t : Int} {p : List (List Int)} (hs : ∀ x ∈ p, x.length ≤ 10) : ∀ x ∈ listF t p, x.2.length ≤ 10 + 20 * p.length := by
  unfold listF
  split
  · intro x hx; cases hx
  · intro x hx
    simp only [List.mem_singleton] at hx
    subst hx
    exact putL_len (n := 0) hs
theorem fldE_data {e : Ev} (h : Ok e) : ∀ x ∈ fldE e, x.2.length ≤ 1000000 := by
  have hst := name_len h.st
  have htx := name_len h.tx
  have htk := h.tk
  have hrl := h.rl
  have hl := rdP_len e.rd
  intro x hx
  unfold fldE at hx
  simp only [List.mem_append] at hx
  rcases hx with ((((((((hx | hx) | hx) | hx) | hx) | hx) | hx) | hx) | hx) | hx
  · have := txtF_data hst.1 x hx; omega
  · have := txtF_data htx.1 x hx; omega
  · have := numF_data _ _ x hx; omega
  · have := numF_data _ _ x hx; omega
  · have := numF_data _ _ x hx; omega
  · have := numF_data _ _ x hx; omega
  · have := txtF_data htk x hx; omega
  · have := flagF_data _ _ x hx; omega
  · have := numF_data _ _ x hx; omega
  · have := listF_data (rdP_small e.rd) x hx; omega
/-! fields whose tags grow are put -/
def Asc : Int → List Fld → Prop
  | _, [] => True
  | b, x :: l => b < x.1 ∧ x.1 ≤ 1000 ∧ Asc x.1 l
theorem asc_put : ∀ (l : List Fld) (b : Int), 0 ≤ b → Asc b l → ∃ r, putG b l = .ok r
  | [], b, _, _ => ⟨[], rfl⟩
  | (t, d) :: l, b, h0, h => by
    obtain ⟨h1, h2, h3⟩ := h
    simp only at h1 h2 h3
    obtain ⟨r, hr⟩ := asc_put l t (by omega) h3
    simp only [putG]
    rw [if_neg (by omega), if_neg (by omega), hr]
    exact ⟨_, rfl⟩
def Bet (a c : Int) (l : List Fld) : Prop := ∀ b, b ≤ a → ∀ m, Asc c m → Asc b (l ++ m)
theorem bet_one {a t : Int} {d : List Int} (h : a < t) (h2 : t ≤ 1000) : Bet a t [(t, d)] := fun b hb m hm => ⟨by simp only; omega, h2, hm⟩
theorem asc_le : ∀ {l : List Fld} {b c : Int}, b ≤ c → Asc c l → Asc b l
  | [], _, _, _, _ => trivial
  | x :: l, b, c, h, hl => ⟨Int.lt_of_le_of_lt h hl.1, hl.2⟩
theorem bet_nil {a t : Int} (h : a ≤ t) : Bet a t [] := fun b hb m hm => asc_le (by omega) hm
theorem bet_txt {a t : Int} {s : ByteArray} (h : a < t) (h2 : t ≤ 1000) : Bet a t (txtF t s) := by unfold txtF; split <;> (first | exact bet_nil (by omega) | exact bet_one h h2)
theorem bet_num {a t n : Int} (h : a < t) (h2 : t ≤ 1000) : Bet a t (numF t n) := by unfold numF; split <;> (first | exact bet_nil (by omega) | exact bet_one h h2)
theorem bet_flag {a t : Int} {f : Bool} (h : a < t) (h2 : t ≤ 1000) : Bet a t (flagF t f) := by unfold flagF; split <;> (first | exact bet_nil (by omega) | exact bet_one h h2)
theorem bet_list {a t : Int} {p : List (List Int)} (h : a < t) (h2 : t ≤ 1000) : Bet a t (listF t p) := by unfold listF; split <;> (first | exact bet_nil (by omega) | exact bet_one h h2)
theorem bet_app {a b c : Int} {l m : List Fld} (h : Bet a b l) (k : Bet b c m) : Bet a c (l ++ m) := fun x hx r hr => by rw [List.append_assoc]; exact h x hx _ (k b (Int.le_refl _) r hr)
theorem fldE_asc (e : Ev) : Asc 0 (fldE e) := by
  have h : Bet 0 10 (fldE e) := by
    unfold fldE
    exact bet_app (bet_app (bet_app (bet_app (bet_app (bet_app (bet_app (bet_app (bet_app (bet_txt (a := 0) (by omega) (by omega)) (bet_txt (by omega) (by omega))) (bet_num (by omega) (by omega))) (bet_num (by omega) (by omega))) (bet_num (by omega) (by omega))) (bet_num (by omega) (by omega))) (bet_txt (by omega) (by omega))) (bet_flag (by omega) (by omega))) (bet_num (by omega) (by omega))) (bet_list (by omega) (by omega))
  have := h 0 (Int.le_refl _) [] trivial
  rwa [List.append_nil] at this
theorem fldE_put (e : Ev) : ∃ r, putF (fldE e) = .ok r := by
  rw [putF_in (by have := fldE_len e; omega)]
  exact asc_put _ 0 (by omega) (fldE_asc e)
def byE (e : Ev) : List Int := match putF (fldE e) with | .ok b => b | .error _ => []
theorem byE_put (e : Ev) : putF (fldE e) = .ok (byE e) := by
  obtain ⟨r, hr⟩ := fldE_put e
  unfold byE
  rw [hr]

theorem enc1_fn (l : List Fld) (t : Int) (s : ByteArray) (hl : l.length ≤ 1000) : Fun Try.prog [] 61 [tI, tZ, .p [.r [.int .i64, .lst [.int .u8]]]] [I64d t, .str s, .rc [fsD l]] [] (.ok [.rc [fsD (l ++ txtF t s)]]) := by
  refine enc1_ent _ _ ?_
  show vcenc1.den _ _ _ _ _
  unfold vcenc1
  refine den_ite (fun h => den_ret ?_) (fun h => ?_)
  · simp only [E.den, D.toI, D.toB, D.toL, D.toS, D.len, D.mapL, flatD, dE, str_eq, emp_iff] at h
    simp only [E.den, D.toI, D.toB, D.toL, D.toS, D.len, D.mapL, flatD, dE]
    simp [txtF, h]
  · simp only [E.den, D.toI, D.toB, D.toL, D.toS, D.len, D.mapL, flatD, dE, str_eq, emp_iff] at h
    refine den_ev (evs_ob (by simp only [E.den, D.toI, D.toB, D.toL, D.toS, D.len, D.mapL, flatD, dE]; omega) (evs_nil (den_ret ?_)))
    simp only [E.den, D.toI, D.toB, D.toL, D.toS, D.len, D.mapL, flatD, dE, bytesD_eq]
    simp [txtF, h]
theorem enc2_fn (l : List Fld) (t n : Int) (hn : in64 n) (hl : l.length ≤ 1000) : Fun Try.prog [] 62 [tI, tI, .p [.r [.int .i64, .lst [.int .u8]]]] [I64d t, I64d n, .rc [fsD l]] [] (.ok [.rc [fsD (l ++ numF t n)]]) := by
  refine enc2_ent _ _ ?_
  show vcenc2.den _ _ _ _ _
  unfold vcenc2
  refine den_ite (fun h => ?_) (fun h => den_ret ?_)
  · simp only [E.den, D.toI, D.toB, D.toL, D.toS, D.len, D.mapL, flatD, dE] at h
    refine den_cal [bD (putS n)] rfl (putint_fn n hn) rfl rfl ?_
    refine den_ev (evs_ob (by simp only [E.den, D.toI, D.toB, D.toL, D.toS, D.len, D.mapL, flatD, dE]; omega) (evs_nil (den_ret ?_)))
    simp only [E.den, D.toI, D.toB, D.toL, D.toS, D.len, D.mapL, flatD, dE]
    simp [numF, h]
  · simp only [E.den, D.toI, D.toB, D.toL, D.toS, D.len, D.mapL, flatD, dE] at h
    simp only [E.den, D.toI, D.toB, D.toL, D.toS, D.len, D.mapL, flatD, dE]
    simp [numF, h]
set_option maxHeartbeats 1000000 in
theorem encode_fn (e : Ev) (he : EvT e) : Fun Try.prog [] 36 [tE] [evD e] [tY, tI] (.ok [bD (if validS e = 0 then byE e else []), I64d (validS e)]) := by
  refine encode_ent _ _ ?_
  show vcencode.den _ _ _ _ _
  unfold vcencode
  refine den_cal [I64d (validS e)] rfl (valid_fn e he) rfl rfl ?_
  refine den_ite (fun h => den_ret ?_) (fun h => ?_)
  · simp only [E.den, D.toI, D.toB, D.toL, D.toS, D.len, D.mapL, flatD, dE] at h
    simp only [E.den, D.toI, D.toB, D.toL, D.toS, D.len, D.mapL, flatD, dE]
    rw [if_neg h]
    rfl
  simp only [E.den, D.toI, D.toB, D.toL, D.toS, D.len, D.mapL, flatD, dE] at h
  have hok := ok_of h
  rw [if_pos h, h]
  have hb := byE_put e
  have a1 := txtF_len 1 e.st
  have a2 := txtF_len 2 e.tx
  have a3 := numF_len 3 e.co
  have a4 := numF_len 4 e.sq
  have a5 := numF_len 5 e.ki
  have a6 := numF_len 6 e.at'
  have a7 := txtF_len 7 e.tk
  have a8 := flagF_len 8 e.off
  have a9 := numF_len 9 e.re
  obtain ⟨l0, hl0⟩ : ∃ l, l = ([] : List Fld) := ⟨_, rfl⟩
  have bl0 : l0.length ≤ 0 := by rw [hl0]; simp only [List.length_append, List.length_nil]; omega
  obtain ⟨l1, hl1⟩ : ∃ l, l = l0 ++ txtF 1 e.st := ⟨_, rfl⟩
  have bl1 : l1.length ≤ 1 := by rw [hl1]; simp only [List.length_append, List.length_nil]; omega
  refine den_cal [fsD l1] rfl (fun_as (enc1_fn l0 1 e.st (by omega)) (by rw [hl1] <;> rfl)) (by rw [hl0]; rfl) rfl ?_
  (try simp only [List.cons_append, List.nil_append])
  obtain ⟨l2, hl2⟩ : ∃ l, l = l1 ++ txtF 2 e.tx := ⟨_, rfl⟩
  have bl2 : l2.length ≤ 2 := by rw [hl2]; simp only [List.length_append, List.length_nil]; omega
  refine den_cal [fsD l2] rfl (fun_as (enc1_fn l1 2 e.tx (by omega)) (by rw [hl2] <;> rfl)) rfl rfl ?_
  (try simp only [List.cons_append, List.nil_append])
  obtain ⟨l3, hl3⟩ : ∃ l, l = l2 ++ numF 3 e.co := ⟨_, rfl⟩
  have bl3 : l3.length ≤ 3 := by rw [hl3]; simp only [List.length_append, List.length_nil]; omega
  refine den_cal [fsD l3] rfl (fun_as (enc2_fn l2 3 e.co he.co (by omega)) (by rw [hl3] <;> rfl)) rfl rfl ?_
  (try simp only [List.cons_append, List.nil_append])
  obtain ⟨l4, hl4⟩ : ∃ l, l = l3 ++ numF 4 e.sq := ⟨_, rfl⟩
  have bl4 : l4.length ≤ 4 := by rw [hl4]; simp only [List.length_append, List.length_nil]; omega
  refine den_cal [fsD l4] rfl (fun_as (enc2_fn l3 4 e.sq he.sq (by omega)) (by rw [hl4] <;> rfl)) rfl rfl ?_
  (try simp only [List.cons_append, List.nil_append])
  obtain ⟨l5, hl5⟩ : ∃ l, l = l4 ++ numF 5 e.ki := ⟨_, rfl⟩
  have bl5 : l5.length ≤ 5 := by rw [hl5]; simp only [List.length_append, List.length_nil]; omega
  refine den_cal [fsD l5] rfl (fun_as (enc2_fn l4 5 e.ki he.ki (by omega)) (by rw [hl5] <;> rfl)) rfl rfl ?_
  (try simp only [List.cons_append, List.nil_append])
  obtain ⟨l6, hl6⟩ : ∃ l, l = l5 ++ numF 6 e.at' := ⟨_, rfl⟩
  have bl6 : l6.length ≤ 6 := by rw [hl6]; simp only [List.length_append, List.length_nil]; omega
  refine den_cal [fsD l6] rfl (fun_as (enc2_fn l5 6 e.at' he.at' (by omega)) (by rw [hl6] <;> rfl)) rfl rfl ?_
  (try simp only [List.cons_append, List.nil_append])
  obtain ⟨l7, hl7⟩ : ∃ l, l = l6 ++ txtF 7 e.tk := ⟨_, rfl⟩
  have bl7 : l7.length ≤ 7 := by rw [hl7]; simp only [List.length_append, List.length_nil]; omega
  refine den_cal [fsD l7] rfl (fun_as (enc1_fn l6 7 e.tk (by omega)) (by rw [hl7] <;> rfl)) rfl rfl ?_
  (try simp only [List.cons_append, List.nil_append])
  refine den_ite (fun hf => ?_) (fun hf => ?_)
  · have hff : e.off = true := hf
    have a8' := numF_len 8 1
    obtain ⟨l8, hl8⟩ : ∃ l, l = l7 ++ numF 8 1 := ⟨_, rfl⟩
    have bl8 : l8.length ≤ 8 := by rw [hl8]; simp only [List.length_append, List.length_nil]; omega
    refine den_cal [fsD l8] rfl (fun_as (enc2_fn l7 8 1 (by unfold in64; omega) (by omega)) (by rw [hl8] <;> rfl)) rfl rfl ?_
    obtain ⟨l9, hl9⟩ : ∃ l, l = l8 ++ numF 9 e.re := ⟨_, rfl⟩
    have bl9 : l9.length ≤ 9 := by rw [hl9]; simp only [List.length_append, List.length_nil]; omega
    refine den_cal [fsD l9] rfl (fun_as (enc2_fn l8 9 e.re he.re (by omega)) (by rw [hl9] <;> rfl)) rfl rfl ?_
    have hL := rdP_len e.rd
    have hrl := hok.rl
    have hw2 : IntKind.wrap .i64 (2 * (e.rd.length : Int)) = 2 * (e.rd.length : Int) := wrap_i64 (by omega) (by omega)
    refine den_ev (evs_ob (by simp only [E.den, D.toI, D.toB, D.toL, D.toS, D.len, D.mapL, flatD, dE, hw2]; omega) (evs_ob (by simp only [E.den, D.toI, D.toB, D.toL, D.toS, D.len, D.mapL, flatD, dE, hw2]; omega) (evs_nil ?_)))
    refine den_loop (fun xs => ∃ i : Nat, xs = [bbD (rdP (e.rd.take i)), I64d i] ∧ i ≤ e.rd.length) (fun xs => e.rd.length - (xs.getD 1 default).toI.toNat) ⟨0, rfl, by omega⟩ ?_
    simp only [AllSh]
    intro _ _ n _ _ ⟨i, hq, hi⟩
    simp only [List.cons.injEq, D.int.injEq, D.lst.injEq, true_and, and_true] at hq
    obtain ⟨rfl, rfl⟩ := hq
    (try simp only [List.cons_append, List.nil_append])
    refine den_ite (fun h3 => ?_) (fun h3 => ?_)
    · simp only [E.den, D.toI, D.toB, D.toL, D.toS, D.len, D.mapL, flatD, dE] at h3
      have hi' : i < e.rd.length := by omega
      have hw : IntKind.wrap .i64 ((i : Int) + 1) = ((i + 1 : Nat) : Int) := by rw [wrap_i64 (by omega) (by omega)]; omega
      have hg := getD_map (g := rD) (0, 0) hi'
      have hx := he.rd _ (mem_getD (0, 0) hi')
      have hLi := rdP_len (e.rd.take i)
      rw [List.length_take] at hLi
      refine den_ev (evs_ob (by simp only [E.den, D.toI, D.toB, D.toL, D.toS, D.len, D.mapL, flatD, dE]; omega) (evs_ob (by simp only [E.den, D.toI, D.toB, D.toL, D.toS, D.len, D.mapL, flatD, dE]; omega) (evs_nil ?_)))
      refine den_ev (evs_call [bD (putS (e.rd.getD i (0, 0)).1)] rfl (putint_fn (e.rd.getD i (0, 0)).1 hx.1) (by simp only [E.den, D.toI, D.toB, D.toL, D.toS, D.len, D.mapL, flatD, dE, hg]) rfl (evs_call [bD (putS (e.rd.getD i (0, 0)).2)] rfl (putint_fn (e.rd.getD i (0, 0)).2 hx.2) (by simp only [E.den, D.toI, D.toB, D.toL, D.toS, D.len, D.mapL, flatD, dE, hg]) rfl (evs_ob (by simp only [E.den, D.toI, D.toB, D.toL, D.toS, D.len, D.mapL, flatD, dE]; omega) (evs_nil ?_))))
      refine den_back rfl ⟨i + 1, ?_, by omega⟩ (by simp only []; simp only [E.den, D.toI, D.toB, D.toL, D.toS, D.len, D.mapL, flatD, dE]; rw [hw]; omega)
      simp only [E.den, D.toI, D.toB, D.toL, D.toS, D.len, D.mapL, flatD, dE]
      rw [hw, take_get (0, 0) hi']
      simp [rdP, pairL]
    · simp only [E.den, D.toI, D.toB, D.toL, D.toS, D.len, D.mapL, flatD, dE] at h3
      have hi' : i = e.rd.length := by omega
      subst hi'
      rw [List.take_length]
      have hp := putl_fn (rdP e.rd) (by omega) (fun x hx => by have := rdP_small e.rd x hx; omega)
      rw [putListS_in (by omega)] at hp
      refine den_cal [bD (putL (rdP e.rd)), I64d 0] rfl hp rfl rfl ?_
      (try simp only [List.cons_append, List.nil_append])
      refine den_f rfl ?_
      have hne : rdP e.rd ≠ [] := fun c => hok.rn (List.length_eq_zero_iff.1 (by rw [c] at hL; simp only [List.length_nil] at hL; omega))
      have hfe : l9 ++ [(10, putL (rdP e.rd))] = fldE e := by
        unfold fldE listF
        rw [if_neg hne]
        rw [hff, show flagF 8 true = numF 8 1 from rfl]
        simp only [hl9, hl8, hl7, hl6, hl5, hl4, hl3, hl2, hl1, hl0, List.nil_append, List.append_assoc, List.append_nil]
      have hpf := put_fn (l9 ++ [(10, putL (rdP e.rd))]) (by rw [hfe]; have := fldE_len e; omega) (by rw [hfe]; exact fldE_data hok)
      rw [hfe, hb] at hpf
      refine den_ev (evs_ob (by simp only [E.den, D.toI, D.toB, D.toL, D.toS, D.len, D.mapL, flatD, dE]; omega) (evs_nil ?_))
      refine den_cal [bD (byE e), I64d 0] rfl hpf (by rw [← hfe]; simp only [E.den, D.toI, D.toB, D.toL, D.toS, D.len, D.mapL, flatD, dE]; simp) rfl ?_
      refine den_ret ?_
      simp only [E.den, D.toI, D.toB, D.toL, D.toS, D.len, D.mapL, flatD, dE]
  · have hff : e.off = false := hf
    obtain ⟨l9, hl9⟩ : ∃ l, l = l7 ++ numF 9 e.re := ⟨_, rfl⟩
    have bl9 : l9.length ≤ 9 := by rw [hl9]; simp only [List.length_append, List.length_nil]; omega
    refine den_cal [fsD l9] rfl (fun_as (enc2_fn l7 9 e.re he.re (by omega)) (by rw [hl9] <;> rfl)) rfl rfl ?_
    have hL := rdP_len e.rd
    have hrl := hok.rl
    have hw2 : IntKind.wrap .i64 (2 * (e.rd.length : Int)) = 2 * (e.rd.length : Int) := wrap_i64 (by omega) (by omega)
    refine den_ev (evs_ob (by simp only [E.den, D.toI, D.toB, D.toL, D.toS, D.len, D.mapL, flatD, dE, hw2]; omega) (evs_ob (by simp only [E.den, D.toI, D.toB, D.toL, D.toS, D.len, D.mapL, flatD, dE, hw2]; omega) (evs_nil ?_)))
    refine den_loop (fun xs => ∃ i : Nat, xs = [bbD (rdP (e.rd.take i)), I64d i] ∧ i ≤ e.rd.length) (fun xs => e.rd.length - (xs.getD 1 default).toI.toNat) ⟨0, rfl, by omega⟩ ?_
    simp only [AllSh]
    intro _ _ n _ _ ⟨i, hq, hi⟩
    simp only [List.cons.injEq, D.int.injEq, D.lst.injEq, true_and, and_true] at hq
    obtain ⟨rfl, rfl⟩ := hq
    (try simp only [List.cons_append, List.nil_append])
    refine den_ite (fun h3 => ?_) (fun h3 => ?_)
    · simp only [E.den, D.toI, D.toB, D.toL, D.toS, D.len, D.mapL, flatD, dE] at h3
      have hi' : i < e.rd.length := by omega
      have hw : IntKind.wrap .i64 ((i : Int) + 1) = ((i + 1 : Nat) : Int) := by rw [wrap_i64 (by omega) (by omega)]; omega
      have hg := getD_map (g := rD) (0, 0) hi'
      have hx := he.rd _ (mem_getD (0, 0) hi')
      have hLi := rdP_len (e.rd.take i)
      rw [List.length_take] at hLi
      refine den_ev (evs_ob (by simp only [E.den, D.toI, D.toB, D.toL, D.toS, D.len, D.mapL, flatD, dE]; omega) (evs_ob (by simp only [E.den, D.toI, D.toB, D.toL, D.toS, D.len, D.mapL, flatD, dE]; omega) (evs_nil ?_)))
      refine den_ev (evs_call [bD (putS (e.rd.getD i (0, 0)).1)] rfl (putint_fn (e.rd.getD i (0, 0)).1 hx.1) (by simp only [E.den, D.toI, D.toB, D.toL, D.toS, D.len, D.mapL, flatD, dE, hg]) rfl (evs_call [bD (putS (e.rd.getD i (0, 0)).2)] rfl (putint_fn (e.rd.getD i (0, 0)).2 hx.2) (by simp only [E.den, D.toI, D.toB, D.toL, D.toS, D.len, D.mapL, flatD, dE, hg]) rfl (evs_ob (by simp only [E.den, D.toI, D.toB, D.toL, D.toS, D.len, D.mapL, flatD, dE]; omega) (evs_nil ?_))))
      refine den_back rfl ⟨i + 1, ?_, by omega⟩ (by simp only []; simp only [E.den, D.toI, D.toB, D.toL, D.toS, D.len, D.mapL, flatD, dE]; rw [hw]; omega)
      simp only [E.den, D.toI, D.toB, D.toL, D.toS, D.len, D.mapL, flatD, dE]
      rw [hw, take_get (0, 0) hi']
      simp [rdP, pairL]
    · simp only [E.den, D.toI, D.toB, D.toL, D.toS, D.len, D.mapL, flatD, dE] at h3
      have hi' : i = e.rd.length := by omega
      subst hi'
      rw [List.take_length]
      have hp := putl_fn (rdP e.rd) (by omega) (fun x hx => by have := rdP_small e.rd x hx; omega)
      rw [putListS_in (by omega)] at hp
      refine den_cal [bD (putL (rdP e.rd)), I64d 0] rfl hp rfl rfl ?_
      (try simp only [List.cons_append, List.nil_append])
      refine den_f rfl ?_
      have hne : rdP e.rd ≠ [] := fun c => hok.rn (List.length_eq_zero_iff.1 (by rw [c] at hL; simp only [List.length_nil] at hL; omega))
      have hfe : l9 ++ [(10, putL (rdP e.rd))] = fldE e := by
        unfold fldE listF
        rw [if_neg hne]
        rw [hff, show flagF 8 false = [] from rfl]
        simp only [hl9, hl7, hl6, hl5, hl4, hl3, hl2, hl1, hl0, List.nil_append, List.append_assoc, List.append_nil]
      have hpf := put_fn (l9 ++ [(10, putL (rdP e.rd))]) (by rw [hfe]; have := fldE_len e; omega) (by rw [hfe]; exact fldE_data hok)
      rw [hfe, hb] at hpf
      refine den_ev (evs_ob (by simp only [E.den, D.toI, D.toB, D.toL, D.toS, D.len, D.mapL, flatD, dE]; omega) (evs_nil ?_))
      refine den_cal [bD (byE e), I64d 0] rfl hpf (by rw [← hfe]; simp only [E.den, D.toI, D.toB, D.toL, D.toS, D.len, D.mapL, flatD, dE]; simp) rfl ?_
      refine den_ret ?_
      simp only [E.den, D.toI, D.toB, D.toL, D.toS, D.len, D.mapL, flatD, dE]
set_option maxHeartbeats 1000000 in
theorem rfields_fn (e : Ev) (he : EvT e) (h : validS e = 0) : Fun Try.prog [] 64 [tE] [evD e] [tY] (.ok [bD (byE e)]) := by
  refine rfields_ent _ _ ?_
  show vcrfields.den _ _ _ _ _
  unfold vcrfields
  have hok := ok_of h
  have hb := byE_put e
  have hL := rdP_len e.rd
  have hrl := hok.rl
  have a1 := txtF_len 1 e.st
  have a2 := txtF_len 2 e.tx
  have a3 := numF_len 3 e.co
  have a4 := numF_len 4 e.sq
  have a5 := numF_len 5 e.ki
  have a6 := numF_len 6 e.at'
  have a7 := txtF_len 7 e.tk
  have a8 := flagF_len 8 e.off
  have a9 := numF_len 9 e.re
  obtain ⟨l0, hl0⟩ : ∃ l, l = ([] : List Fld) := ⟨_, rfl⟩
  have bl0 : l0.length ≤ 0 := by rw [hl0]; simp only [List.length_append, List.length_nil]; omega
  refine den_ev ?_
  obtain ⟨l1, hl1⟩ : ∃ l, l = l0 ++ txtF 1 e.st := ⟨_, rfl⟩
  have bl1 : l1.length ≤ 1 := by rw [hl1]; simp only [List.length_append, List.length_nil]; omega
  refine evs_call [fsD l1] rfl (fun_as (text_fn l0 1 e.st (by omega)) (by rw [hl1] <;> rfl)) (by rw [hl0]; rfl) rfl ?_
  obtain ⟨l2, hl2⟩ : ∃ l, l = l1 ++ txtF 2 e.tx := ⟨_, rfl⟩
  have bl2 : l2.length ≤ 2 := by rw [hl2]; simp only [List.length_append, List.length_nil]; omega
  refine evs_call [fsD l2] rfl (fun_as (text_fn l1 2 e.tx (by omega)) (by rw [hl2] <;> rfl)) rfl rfl ?_
  refine evs_nil ?_
  (try simp only [List.cons_append, List.nil_append])
  refine den_ev ?_
  obtain ⟨l3, hl3⟩ : ∃ l, l = l2 ++ numF 3 e.co := ⟨_, rfl⟩
  have bl3 : l3.length ≤ 3 := by rw [hl3]; simp only [List.length_append, List.length_nil]; omega
  refine evs_call [fsD l3] rfl (fun_as (num_fn l2 3 e.co he.co (by omega)) (by rw [hl3] <;> rfl)) rfl rfl ?_
  obtain ⟨l4, hl4⟩ : ∃ l, l = l3 ++ numF 4 e.sq := ⟨_, rfl⟩
  have bl4 : l4.length ≤ 4 := by rw [hl4]; simp only [List.length_append, List.length_nil]; omega
  refine evs_call [fsD l4] rfl (fun_as (num_fn l3 4 e.sq he.sq (by omega)) (by rw [hl4] <;> rfl)) rfl rfl ?_
  obtain ⟨l5, hl5⟩ : ∃ l, l = l4 ++ numF 5 e.ki := ⟨_, rfl⟩
  have bl5 : l5.length ≤ 5 := by rw [hl5]; simp only [List.length_append, List.length_nil]; omega
  refine evs_call [fsD l5] rfl (fun_as (num_fn l4 5 e.ki he.ki (by omega)) (by rw [hl5] <;> rfl)) rfl rfl ?_
  obtain ⟨l6, hl6⟩ : ∃ l, l = l5 ++ numF 6 e.at' := ⟨_, rfl⟩
  have bl6 : l6.length ≤ 6 := by rw [hl6]; simp only [List.length_append, List.length_nil]; omega
  refine evs_call [fsD l6] rfl (fun_as (num_fn l5 6 e.at' he.at' (by omega)) (by rw [hl6] <;> rfl)) rfl rfl ?_
  refine evs_nil ?_
  (try simp only [List.cons_append, List.nil_append])
  refine den_ev ?_
  obtain ⟨l7, hl7⟩ : ∃ l, l = l6 ++ txtF 7 e.tk := ⟨_, rfl⟩
  have bl7 : l7.length ≤ 7 := by rw [hl7]; simp only [List.length_append, List.length_nil]; omega
  refine evs_call [fsD l7] rfl (fun_as (text_fn l6 7 e.tk (by omega)) (by rw [hl7] <;> rfl)) rfl rfl ?_
  obtain ⟨l8, hl8⟩ : ∃ l, l = l7 ++ flagF 8 e.off := ⟨_, rfl⟩
  have bl8 : l8.length ≤ 8 := by rw [hl8]; simp only [List.length_append, List.length_nil]; omega
  refine evs_call [fsD l8] rfl (fun_as (flag_fn l7 8 e.off (by omega)) (by rw [hl8] <;> rfl)) rfl rfl ?_
  obtain ⟨l9, hl9⟩ : ∃ l, l = l8 ++ numF 9 e.re := ⟨_, rfl⟩
  have bl9 : l9.length ≤ 9 := by rw [hl9]; simp only [List.length_append, List.length_nil]; omega
  refine evs_call [fsD l9] rfl (fun_as (num_fn l8 9 e.re he.re (by omega)) (by rw [hl9] <;> rfl)) rfl rfl ?_
  refine evs_nil ?_
  (try simp only [List.cons_append, List.nil_append])
  refine den_cal [isD (e.rd.flatMap pairL)] rfl (readings_fn e.rd (by omega)) rfl rfl ?_
  refine den_cal [bbD (rdP e.rd)] rfl (ints_fn (e.rd.flatMap pairL) (fun n hn => ?_) (by rw [pairs_len]; omega)) rfl rfl ?_
  · obtain ⟨x, hx, hn⟩ := List.mem_flatMap.1 hn
    have := he.rd x hx
    simp only [pairL, List.mem_cons, List.not_mem_nil, or_false] at hn
    rcases hn with rfl | rfl
    · exact this.1
    · exact this.2
  refine den_cal [fsD (l9 ++ listF 10 (rdP e.rd))] rfl (listf_fn l9 10 (rdP e.rd) (by omega) (by omega) (fun x hx => by have := rdP_small e.rd x hx; omega)) rfl rfl ?_
  have hfe : l9 ++ listF 10 (rdP e.rd) = fldE e := by
    unfold fldE
    simp only [hl9, hl8, hl7, hl6, hl5, hl4, hl3, hl2, hl1, hl0, List.nil_append]
  have hpf := rput_fn (l9 ++ listF 10 (rdP e.rd)) (by rw [hfe]; have := fldE_len e; omega) (by rw [hfe]; exact fldE_data hok)
  rw [hfe, hb] at hpf
  refine den_cal [bD (byE e), I64d 0] rfl hpf (by rw [← hfe]; rfl) rfl ?_
  exact den_ret rfl
theorem rencode_fn (e : Ev) (he : EvT e) : Fun Try.prog [] 40 [tE] [evD e] [tY, tI] (.ok [bD (if validS e = 0 then byE e else []), I64d (validS e)]) := by
  refine rencode_ent _ _ ?_
  show vcrencode.den _ _ _ _ _
  unfold vcrencode
  refine den_cal [I64d (validS e)] rfl (rvalid_fn e he) rfl rfl ?_
  refine den_ite (fun h => den_ret ?_) (fun h => ?_)
  · simp only [E.den, D.toI, D.toB, D.toL, D.toS, D.len, D.mapL, flatD, dE] at h
    simp only [E.den, D.toI, D.toB, D.toL, D.toS, D.len, D.mapL, flatD, dE]
    rw [if_neg h]
    rfl
  simp only [E.den, D.toI, D.toB, D.toL, D.toS, D.len, D.mapL, flatD, dE] at h
  refine den_cal [bD (byE e)] rfl (rfields_fn e he h) rfl rfl (den_ret ?_)
  simp only [E.den, D.toI, D.toB, D.toL, D.toS, D.len, D.mapL, flatD, dE]
  rw [if_pos h, h]

def msg0 : Msg := ⟨0, 0, 0, 0, 0, 0, 0, 0, ⟨#[]⟩, ⟨#[]⟩, ⟨#[]⟩, false, [], prof0, []⟩
def msgE (e : Ev) : Msg := ⟨1, 0, 5, e.co, e.re, e.sq, e.at', e.ki, e.tx, e.tk, ⟨#[]⟩, e.off, e.rd, prof0, []⟩
def msgR (e : Ev) : Msg := if validS e = 0 then msgE e else msg0
def frE (s : ByteArray) (m : Msg) : Ev := ⟨s, m.tx, m.co, m.sq, m.va, m.at', m.tk, m.off, m.st, m.rd⟩
def frV (s : ByteArray) (m : Msg) : Int := if m.ki = 1 ∧ m.ac = 5 ∧ m.te.size = 0 ∧ m.p = prof0 ∧ m.tks.length = 0 then validS (frE s m) else 1
def frR (s : ByteArray) (m : Msg) : Ev := if frV s m = 0 then frE s m else ev0
theorem rsame_fn (a b : Ev) (ha : a.rd.length ≤ maxLen) (hb : b.rd.length ≤ maxLen) : Fun Try.prog [] 35 [tE, tE] [evD a, evD b] [tB] (.ok [.bool (decide (a = b))]) := by
  refine rsame_ent _ _ ?_
  show vcrsame.den _ _ _ _ _
  unfold vcrsame
  refine den_ite (fun h1 => ?_) (fun h1 => ?_)
  · simp only [E.den, D.toI, D.toB, D.toL, D.toS, D.len, D.mapL, flatD, dE, str_eq] at h1
    refine den_ite (fun h2 => ?_) (fun h2 => ?_)
    · simp only [E.den, D.toI, D.toB, D.toL, D.toS, D.len, D.mapL, flatD, dE, str_eq] at h2
      refine den_ite (fun h3 => ?_) (fun h3 => ?_)
      · simp only [E.den, D.toI, D.toB, D.toL, D.toS, D.len, D.mapL, flatD, dE, str_eq] at h3
        refine den_ret ?_
        have hne : a ≠ b := by (intro e; subst e; simp_all)
        simp only [E.den, D.toI, D.toB, D.toL, D.toS, D.len, D.mapL, flatD, dE]
        simp [hne]
      · simp only [E.den, D.toI, D.toB, D.toL, D.toS, D.len, D.mapL, flatD, dE, str_eq] at h3
        refine den_ite (fun h4 => ?_) (fun h4 => ?_)
        · simp only [E.den, D.toI, D.toB, D.toL, D.toS, D.len, D.mapL, flatD, dE, str_eq] at h4
          refine den_ret ?_
          have hne : a ≠ b := by (intro e; subst e; simp_all)
          simp only [E.den, D.toI, D.toB, D.toL, D.toS, D.len, D.mapL, flatD, dE]
          simp [hne]
        · simp only [E.den, D.toI, D.toB, D.toL, D.toS, D.len, D.mapL, flatD, dE, str_eq] at h4
          refine den_ite (fun h5 => ?_) (fun h5 => ?_)
          · simp only [E.den, D.toI, D.toB, D.toL, D.toS, D.len, D.mapL, flatD, dE, str_eq] at h5
            refine den_ret ?_
            have hne : a ≠ b := by (intro e; subst e; simp_all)
            simp only [E.den, D.toI, D.toB, D.toL, D.toS, D.len, D.mapL, flatD, dE]
            simp [hne]
          · simp only [E.den, D.toI, D.toB, D.toL, D.toS, D.len, D.mapL, flatD, dE, str_eq] at h5
            refine den_ite (fun h6 => ?_) (fun h6 => ?_)
            · simp only [E.den, D.toI, D.toB, D.toL, D.toS, D.len, D.mapL, flatD, dE, str_eq] at h6
              refine den_ret ?_
              have hne : a ≠ b := by (intro e; subst e; simp_all)
              simp only [E.den, D.toI, D.toB, D.toL, D.toS, D.len, D.mapL, flatD, dE]
              simp [hne]
            · simp only [E.den, D.toI, D.toB, D.toL, D.toS, D.len, D.mapL, flatD, dE, str_eq] at h6
              refine den_ite (fun h7 => ?_) (fun h7 => ?_)
              · simp only [E.den, D.toI, D.toB, D.toL, D.toS, D.len, D.mapL, flatD, dE, str_eq] at h7
                refine den_ite (fun h8 => ?_) (fun h8 => ?_)
                · simp only [E.den, D.toI, D.toB, D.toL, D.toS, D.len, D.mapL, flatD, dE, str_eq] at h8
                  refine den_ite (fun h9 => ?_) (fun h9 => ?_)
                  · simp only [E.den, D.toI, D.toB, D.toL, D.toS, D.len, D.mapL, flatD, dE, str_eq] at h9
                    refine den_cal [.bool (decide (a.rd = b.rd))] rfl (samerd_fn a.rd b.rd ha hb) rfl rfl ?_
                    refine den_ret ?_
                    simp only [E.den, D.toI, D.toB, D.toL, D.toS, D.len, D.mapL, flatD, dE]
                    have heq : (a = b) ↔ (a.rd = b.rd) := by (cases a; cases b; simp_all)
                    simp only [heq]
                  · simp only [E.den, D.toI, D.toB, D.toL, D.toS, D.len, D.mapL, flatD, dE, str_eq] at h9
                    refine den_ret ?_
                    have hne : a ≠ b := by (intro e; subst e; simp_all)
                    simp only [E.den, D.toI, D.toB, D.toL, D.toS, D.len, D.mapL, flatD, dE]
                    simp [hne]
                · simp only [E.den, D.toI, D.toB, D.toL, D.toS, D.len, D.mapL, flatD, dE, str_eq] at h8
                  refine den_ret ?_
                  have hne : a ≠ b := by (intro e; subst e; simp_all)
                  simp only [E.den, D.toI, D.toB, D.toL, D.toS, D.len, D.mapL, flatD, dE]
                  simp [hne]
              · simp only [E.den, D.toI, D.toB, D.toL, D.toS, D.len, D.mapL, flatD, dE, str_eq] at h7
                refine den_ret ?_
                have hne : a ≠ b := by (intro e; subst e; simp_all)
                simp only [E.den, D.toI, D.toB, D.toL, D.toS, D.len, D.mapL, flatD, dE]
                simp [hne]
    · simp only [E.den, D.toI, D.toB, D.toL, D.toS, D.len, D.mapL, flatD, dE, str_eq] at h2
      refine den_ret ?_
      have hne : a ≠ b := by (intro e; subst e; simp_all)
      simp only [E.den, D.toI, D.toB, D.toL, D.toS, D.len, D.mapL, flatD, dE]
      simp [hne]
  · simp only [E.den, D.toI, D.toB, D.toL, D.toS, D.len, D.mapL, flatD, dE, str_eq] at h1
    refine den_ret ?_
    have hne : a ≠ b := by (intro e; subst e; simp_all)
    simp only [E.den, D.toI, D.toB, D.toL, D.toS, D.len, D.mapL, flatD, dE]
    simp [hne]

end Go.Proofs.Ytmkkijgnlohieaa.E30
set_option maxRecDepth 100000
set_option linter.unusedSimpArgs false
set_option linter.unusedVariables false
namespace Go.Proofs.Ytmkkijgnlohieaa.E30
open Go.Proofs.Ytmkkijgnlohieaa Go.Proofs.Ytmkkijgnlohieaa.Sy Go.Proofs.Ytmkkijgnlohieaa.L7 Go.Proofs.Ytmkkijgnlohieaa.Id Go.Proofs.Ytmkkijgnlohieaa.R26 Go.RowKit Go.WideShapes Go.ChangeShapes Go.ChangeAt
theorem typ_ev {d : D} (h : TypT tE d) : ∃ e : Ev, d = evD e ∧ EvT e := by
  obtain ⟨ds, rfl, h⟩ := h
  unfold Typs at h
  obtain ⟨_, _, rfl, h0, h⟩ := h
  unfold Typs at h
  obtain ⟨_, _, rfl, h1, h⟩ := h
  unfold Typs at h
  obtain ⟨_, _, rfl, h2, h⟩ := h
  unfold Typs at h
  obtain ⟨_, _, rfl, h3, h⟩ := h
  unfold Typs at h
  obtain ⟨_, _, rfl, h4, h⟩ := h
  unfold Typs at h
  obtain ⟨_, _, rfl, h5, h⟩ := h
  unfold Typs at h
  obtain ⟨_, _, rfl, h6, h⟩ := h
  unfold Typs at h
  obtain ⟨_, _, rfl, h7, h⟩ := h
  unfold Typs at h
  obtain ⟨_, _, rfl, h8, h⟩ := h
  unfold Typs at h
  obtain ⟨_, _, rfl, h9, h⟩ := h
  unfold Typs at h
  subst h
  obtain ⟨a0, rfl, b0⟩ := typ_str h0
  obtain ⟨a1, rfl, b1⟩ := typ_str h1
  obtain ⟨a2, rfl, b2⟩ := typ_int h2
  obtain ⟨a3, rfl, b3⟩ := typ_int h3
  obtain ⟨a4, rfl, b4⟩ := typ_int h4
  obtain ⟨a5, rfl, b5⟩ := typ_int h5
  obtain ⟨a6, rfl, b6⟩ := typ_str h6
  obtain ⟨a7, rfl⟩ := typ_bool h7
  obtain ⟨a8, rfl, b8⟩ := typ_int h8
  obtain ⟨a9, rfl, b9⟩ := typ_rds h9
  exact ⟨⟨a0, a1, a2, a3, a4, a5, a6, a7, a8, a9⟩, rfl, ⟨b0, b1, b6, b9.1, b2, b3, b4, b5, b8, b9.2⟩⟩
theorem frE_T {s : ByteArray} {m : Msg} (hs : s.size ≤ maxLen) (h : MsT m) : EvT (frE s m) := ⟨hs, h.tx, h.tk, h.rd.1, h.co, h.sq, h.va, h.at', h.st, h.rd.2⟩
theorem ev0_T : EvT ev0 := ⟨by decide, by decide, by decide, by decide, by unfold inI; decide, by unfold inI; decide, by unfold inI; decide, by unfold inI; decide, by unfold inI; decide, fun x hx => by cases hx⟩
theorem frR_T {s : ByteArray} {m : Msg} (hs : s.size ≤ maxLen) (h : MsT m) : EvT (frR s m) := by unfold frR; split; exact frE_T hs h; exact ev0_T
/-! bytes -/
theorem txtF_isB (t : Int) (s : ByteArray) : ∀ x ∈ txtF t s, isB x.2 := by
  unfold txtF
  split
  · intro x hx; cases hx
  · intro x hx
    simp only [List.mem_singleton] at hx
    subst hx
    exact sB_isB s
theorem numF_isB {t n : Int} (hn : in64 n) : ∀ x ∈ numF t n, isB x.2 := by
  unfold numF
  split
  · intro x hx; cases hx
  · intro x hx
    simp only [List.mem_singleton] at hx
    subst hx
    exact putS_isB hn
theorem flagF_isB (t : Int) (b : Bool) : ∀ x ∈ flagF t b, isB x.2 := by
  unfold flagF
  split
  · intro x hx
    simp only [List.mem_singleton] at hx
    subst hx
    exact putS_isB (n := 1) (by unfold in64; omega)
  · intro x hx; cases hx
theorem rdP_isB {l : List (Int × Int)} (h : ∀ x ∈ l, inI x.1 ∧ inI x.2) : ∀ x ∈ rdP l, isB x := by
  intro x hx
  obtain ⟨n, hn, rfl⟩ := List.mem_map.1 hx
  obtain ⟨y, hy, hn⟩ := List.mem_flatMap.1 hn
  have := h y hy
  simp only [pairL, List.mem_cons, List.not_mem_nil, or_false] at hn
  rcases hn with rfl | rfl
  · exact putS_isB this.1
  · exact putS_isB this.2
theorem putL_isB {p : List (List Int)} (h : ∀ x ∈ p, isB x) (hs : ∀ x ∈ p, x.length ≤ 1000000) (hl : p.length ≤ 256) : isB (putL p) := (putListS_isB h hs (putListS_in hl)).1
theorem listF_isB {t : Int} {p : List (List Int)} (h : ∀ x ∈ p, isB x) (hs : ∀ x ∈ p, x.length ≤ 1000000) (hl : p.length ≤ 256) : ∀ x ∈ listF t p, isB x.2 := by
  unfold listF
  split
  · intro x hx; cases hx
  · intro x hx
    simp only [List.mem_singleton] at hx
    subst hx
    exact putL_isB h hs hl
theorem fldE_isB {e : Ev} (he : EvT e) (h : Ok e) : ∀ x ∈ fldE e, isB x.2 := by
  intro x hx
  unfold fldE at hx
  simp only [List.mem_append] at hx
  rcases hx with ((((((((hx | hx) | hx) | hx) | hx) | hx) | hx) | hx) | hx) | hx
  · exact txtF_isB _ _ x hx
  · exact txtF_isB _ _ x hx
  · exact numF_isB he.co x hx
  · exact numF_isB he.sq x hx
  · exact numF_isB he.ki x hx
  · exact numF_isB he.at' x hx
  · exact txtF_isB _ _ x hx
  · exact flagF_isB _ _ x hx
  · exact numF_isB he.re x hx
  · exact listF_isB (rdP_isB he.rd) (fun y hy => by have := rdP_small e.rd y hy; omega) (by rw [rdP_len]; have := h.rl; omega) x hx
theorem byE_isB {e : Ev} (he : EvT e) (h : Ok e) : isB (byE e) := (putF_isB (fldE_isB he h) (fldE_data h) (byE_put e)).1
theorem enc_isB {e : Ev} (he : EvT e) : isB (if validS e = 0 then byE e else []) := by
  split
  · rename_i h; exact byE_isB he (ok_of h)
  · exact isB.nil
/-! apart -/
theorem take_byE {e : Ev} (h : Ok e) : takeF (byE e) = .ok (fldE e) := by
  have hl := fldE_len e
  have hp := byE_put e
  rw [putF_in (by omega)] at hp
  exact take_put (fldE e) (byE e).length 0 0 (byE e) (fun x hx => by have := fldE_data h x hx; omega) hp (Nat.le_refl _) (by omega)
def OneF (t : Int) (p : List Fld) : Prop := p = [] ∨ ∃ d, p = [(t, d)]
theorem one_txt (t : Int) (s : ByteArray) : OneF t (txtF t s) := by unfold txtF; split; exact .inl rfl; exact .inr ⟨_, rfl⟩
theorem one_num (t n : Int) : OneF t (numF t n) := by unfold numF; split; exact .inl rfl; exact .inr ⟨_, rfl⟩
theorem one_flag (t : Int) (b : Bool) : OneF t (flagF t b) := by unfold flagF; split; exact .inr ⟨_, rfl⟩; exact .inl rfl
theorem one_list (t : Int) (p : List (List Int)) : OneF t (listF t p) := by unfold listF; split; exact .inl rfl; exact .inr ⟨_, rfl⟩
theorem cut {t : Int} {p q r s : List Fld} (hp : OneF t p) (hq : OneF t q) (hr : Asc t r) (hs : Asc t s) (h : p ++ r = q ++ s) : p = q ∧ r = s := by
  rcases hp with rfl | ⟨d, rfl⟩ <;> rcases hq with rfl | ⟨d', rfl⟩
  · exact ⟨rfl, by simpa using h⟩
  · exfalso
    simp only [List.nil_append, List.singleton_append] at h
    subst h
    have := hr.1
    simp only at this
    omega
  · exfalso
    simp only [List.nil_append, List.singleton_append] at h
    subst h
    have := hs.1
    simp only at this
    omega
  · simp only [List.singleton_append, List.cons.injEq] at h
    exact ⟨by rw [h.1], h.2⟩
theorem sB_inj {s s' : ByteArray} (h : sB s = sB s') : s = s' := by
  obtain ⟨⟨l⟩⟩ := s
  obtain ⟨⟨l'⟩⟩ := s'
  have h2 : l.map (fun b : UInt8 => (b.toNat : Int)) = l'.map (fun b : UInt8 => (b.toNat : Int)) := h
  have : l = l' := by
    clear h
    induction l generalizing l' with
    | nil => cases l' with
      | nil => rfl
      | cons y l' => simp at h2
    | cons x l ih => cases l' with
      | nil => simp at h2
      | cons y l' =>
        simp only [List.map_cons, List.cons.injEq] at h2
        have e : x = y := UInt8.toNat_inj.1 (by omega)
        rw [e, ih l' h2.2]
  rw [this]
theorem txt_inj {t : Int} {s s' : ByteArray} (h : txtF t s = txtF t s') : s = s' := by
  unfold txtF at h
  split at h <;> split at h
  · rename_i h1 h2
    rw [← emp_iff] at h1 h2
    rw [h1, h2]
  · cases h
  · cases h
  · simp only [List.cons.injEq, Prod.mk.injEq, true_and, and_true] at h
    exact sB_inj h
theorem putS_inj {a b : Int} (ha : in64 a) (hb : in64 b) (h : putS a = putS b) : a = b := by
  have h1 := read_put ha []
  have h2 := read_put hb []
  rw [h, h2] at h1
  simp only [Except.ok.injEq, Prod.mk.injEq, and_true] at h1
  exact h1.symm
theorem num_inj {t a b : Int} (ha : in64 a) (hb : in64 b) (h : numF t a = numF t b) : a = b := by
  unfold numF at h
  split at h <;> split at h
  · rename_i h1 h2; rw [h1, h2]
  · cases h
  · cases h
  · simp only [List.cons.injEq, Prod.mk.injEq, true_and, and_true] at h
    exact putS_inj ha hb h
theorem flag_inj {t : Int} {a b : Bool} (h : flagF t a = flagF t b) : a = b := by
  unfold flagF at h
  cases a <;> cases b <;> first | rfl | (simp at h)
theorem putL_inj {p q : List (List Int)} (hp : p.length ≤ 256) (hq : q.length ≤ 256) (hps : ∀ x ∈ p, x.length ≤ 1000000) (hqs : ∀ x ∈ q, x.length ≤ 1000000) (h : putL p = putL q) : p = q := by
  have h1 := takeList_put hp (fun x hx => by have := hps x hx; omega)
  have h2 := takeList_put hq (fun x hx => by have := hqs x hx; omega)
  rw [h, h2] at h1
  simp only [Except.ok.injEq] at h1
  exact h1.symm
theorem list_inj {t : Int} {p q : List (List Int)} (hp : p.length ≤ 256) (hq : q.length ≤ 256) (hps : ∀ x ∈ p, x.length ≤ 1000000) (hqs : ∀ x ∈ q, x.length ≤ 1000000) (h : listF t p = listF t q) : p = q := by
  unfold listF at h
  split at h <;> split at h
  · rename_i h1 h2; rw [h1, h2]
  · cases h
  · cases h
  · simp only [List.cons.injEq, Prod.mk.injEq, true_and, and_true] at h
    exact putL_inj hp hq hps hqs h
theorem rdP_inj : ∀ {l m : List (Int × Int)}, (∀ x ∈ l, inI x.1 ∧ inI x.2) → (∀ x ∈ m, inI x.1 ∧ inI x.2) → rdP l = rdP m → l = m
  | [], [], _, _, _ => rfl
  | [], y :: m, _, _, h => by simp [rdP, pairL] at h
  | x :: l, [], _, _, h => by simp [rdP, pairL] at h
  | x :: l, y :: m, hl, hm, h => by
    have hx := hl x (by simp)
    have hy := hm y (by simp)
    simp only [rdP, pairL, List.flatMap_cons, List.map_append, List.map_cons, List.map_nil, List.cons_append, List.nil_append, List.cons.injEq] at h
    have e1 := putS_inj hx.1 hy.1 h.1
    have e2 := putS_inj hx.2 hy.2 h.2.1
    rw [rdP_inj (fun z hz => hl z (by simp [hz])) (fun z hz => hm z (by simp [hz])) h.2.2, show x = y from Prod.ext e1 e2]
theorem bet_asc {a c : Int} {l : List Fld} (h : Bet a c l) : Asc a l := by
  have := h a (Int.le_refl _) [] trivial
  rwa [List.append_nil] at this
theorem byE_inj {a b : Ev} (ha : EvT a) (hb : EvT b) (oa : Ok a) (ob : Ok b) (h : byE a = byE b) : a = b := by
  have h1 := take_byE oa
  rw [h, take_byE ob] at h1
  simp only [Except.ok.injEq] at h1
  have h2 := h1.symm
  unfold fldE at h2
  simp only [List.append_assoc] at h2
  have hsuf : ∀ e : Ev, Asc 1 (txtF 2 e.tx ++ (numF 3 e.co ++ (numF 4 e.sq ++ (numF 5 e.ki ++ (numF 6 e.at' ++ (txtF 7 e.tk ++ (flagF 8 e.off ++ (numF 9 e.re ++ (listF 10 (rdP e.rd)))))))))) ∧ Asc 2 (numF 3 e.co ++ (numF 4 e.sq ++ (numF 5 e.ki ++ (numF 6 e.at' ++ (txtF 7 e.tk ++ (flagF 8 e.off ++ (numF 9 e.re ++ (listF 10 (rdP e.rd))))))))) ∧ Asc 3 (numF 4 e.sq ++ (numF 5 e.ki ++ (numF 6 e.at' ++ (txtF 7 e.tk ++ (flagF 8 e.off ++ (numF 9 e.re ++ (listF 10 (rdP e.rd)))))))) ∧ Asc 4 (numF 5 e.ki ++ (numF 6 e.at' ++ (txtF 7 e.tk ++ (flagF 8 e.off ++ (numF 9 e.re ++ (listF 10 (rdP e.rd))))))) ∧ Asc 5 (numF 6 e.at' ++ (txtF 7 e.tk ++ (flagF 8 e.off ++ (numF 9 e.re ++ (listF 10 (rdP e.rd)))))) ∧ Asc 6 (txtF 7 e.tk ++ (flagF 8 e.off ++ (numF 9 e.re ++ (listF 10 (rdP e.rd))))) ∧ Asc 7 (flagF 8 e.off ++ (numF 9 e.re ++ (listF 10 (rdP e.rd)))) ∧ Asc 8 (numF 9 e.re ++ (listF 10 (rdP e.rd))) ∧ Asc 9 (listF 10 (rdP e.rd)) := fun e => ⟨bet_asc (c := 10) (bet_app (bet_txt (t := 2) (by omega) (by omega)) (bet_app (bet_num (t := 3) (by omega) (by omega)) (bet_app (bet_num (t := 4) (by omega) (by omega)) (bet_app (bet_num (t := 5) (by omega) (by omega)) (bet_app (bet_num (t := 6) (by omega) (by omega)) (bet_app (bet_txt (t := 7) (by omega) (by omega)) (bet_app (bet_flag (t := 8) (by omega) (by omega)) (bet_app (bet_num (t := 9) (by omega) (by omega)) (bet_list (by omega) (by omega)))))))))), bet_asc (c := 10) (bet_app (bet_num (t := 3) (by omega) (by omega)) (bet_app (bet_num (t := 4) (by omega) (by omega)) (bet_app (bet_num (t := 5) (by omega) (by omega)) (bet_app (bet_num (t := 6) (by omega) (by omega)) (bet_app (bet_txt (t := 7) (by omega) (by omega)) (bet_app (bet_flag (t := 8) (by omega) (by omega)) (bet_app (bet_num (t := 9) (by omega) (by omega)) (bet_list (by omega) (by omega))))))))), bet_asc (c := 10) (bet_app (bet_num (t := 4) (by omega) (by omega)) (bet_app (bet_num (t := 5) (by omega) (by omega)) (bet_app (bet_num (t := 6) (by omega) (by omega)) (bet_app (bet_txt (t := 7) (by omega) (by omega)) (bet_app (bet_flag (t := 8) (by omega) (by omega)) (bet_app (bet_num (t := 9) (by omega) (by omega)) (bet_list (by omega) (by omega)))))))), bet_asc (c := 10) (bet_app (bet_num (t := 5) (by omega) (by omega)) (bet_app (bet_num (t := 6) (by omega) (by omega)) (bet_app (bet_txt (t := 7) (by omega) (by omega)) (bet_app (bet_flag (t := 8) (by omega) (by omega)) (bet_app (bet_num (t := 9) (by omega) (by omega)) (bet_list (by omega) (by omega))))))), bet_asc (c := 10) (bet_app (bet_num (t := 6) (by omega) (by omega)) (bet_app (bet_txt (t := 7) (by omega) (by omega)) (bet_app (bet_flag (t := 8) (by omega) (by omega)) (bet_app (bet_num (t := 9) (by omega) (by omega)) (bet_list (by omega) (by omega)))))), bet_asc (c := 10) (bet_app (bet_txt (t := 7) (by omega) (by omega)) (bet_app (bet_flag (t := 8) (by omega) (by omega)) (bet_app (bet_num (t := 9) (by omega) (by omega)) (bet_list (by omega) (by omega))))), bet_asc (c := 10) (bet_app (bet_flag (t := 8) (by omega) (by omega)) (bet_app (bet_num (t := 9) (by omega) (by omega)) (bet_list (by omega) (by omega)))), bet_asc (c := 10) (bet_app (bet_num (t := 9) (by omega) (by omega)) (bet_list (by omega) (by omega))), bet_asc (c := 10) (bet_list (by omega) (by omega))⟩
  obtain ⟨a1, a2, a3, a4, a5, a6, a7, a8, a9⟩ := hsuf a
  obtain ⟨b1, b2, b3, b4, b5, b6, b7, b8, b9⟩ := hsuf b
  obtain ⟨e0, k0⟩ := cut (one_txt 1 _) (one_txt 1 _) a1 b1 h2
  obtain ⟨e1, k1⟩ := cut (one_txt 2 _) (one_txt 2 _) a2 b2 k0
  obtain ⟨e2, k2⟩ := cut (one_num 3 _) (one_num 3 _) a3 b3 k1
  obtain ⟨e3, k3⟩ := cut (one_num 4 _) (one_num 4 _) a4 b4 k2
  obtain ⟨e4, k4⟩ := cut (one_num 5 _) (one_num 5 _) a5 b5 k3
  obtain ⟨e5, k5⟩ := cut (one_num 6 _) (one_num 6 _) a6 b6 k4
  obtain ⟨e6, k6⟩ := cut (one_txt 7 _) (one_txt 7 _) a7 b7 k5
  obtain ⟨e7, k7⟩ := cut (one_flag 8 _) (one_flag 8 _) a8 b8 k6
  obtain ⟨e8, k8⟩ := cut (one_num 9 _) (one_num 9 _) a9 b9 k7
  have la := rdP_len a.rd
  have lb := rdP_len b.rd
  have ra := oa.rl
  have rb := ob.rl
  have e9 := rdP_inj ha.rd hb.rd (list_inj (by omega) (by omega) (fun y hy => by have := rdP_small a.rd y hy; omega) (fun y hy => by have := rdP_small b.rd y hy; omega) k8)
  have f0 := txt_inj e0
  have f1 := txt_inj e1
  have f2 := num_inj ha.co hb.co e2
  have f3 := num_inj ha.sq hb.sq e3
  have f4 := num_inj ha.ki hb.ki e4
  have f5 := num_inj ha.at' hb.at' e5
  have f6 := txt_inj e6
  have f7 := flag_inj e7
  have f8 := num_inj ha.re hb.re e8
  cases a
  cases b
  simp only at f0 f1 f2 f3 f4 f5 f6 f7 f8 e9
  subst f0 f1 f2 f3 f4 f5 f6 f7 f8 e9
  rfl

end Go.Proofs.Ytmkkijgnlohieaa.E30
