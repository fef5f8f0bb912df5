/-
  Events as data; their encodings tell them apart. No conditions stand ahead of what is proved.
-/
import Derived.Test.YtoncflpifafhlaaE30b
import Derived.Test.YtoncflpifafhlaaT26
set_option maxRecDepth 100000
set_option linter.unusedSimpArgs false
set_option linter.unusedVariables false
namespace Go.Proofs.Ytoncflpifafhlaa.E30
open Go.Proofs.Ytoncflpifafhlaa Go.Proofs.Ytoncflpifafhlaa.Sy Go.Proofs.Ytoncflpifafhlaa.L7 Go.Proofs.Ytoncflpifafhlaa.Id Go.Proofs.Ytoncflpifafhlaa.R26 Go.RowKit Go.WideShapes Go.ChangeShapes Go.ChangeAt
theorem typ_ev {d : D} (h : TypT tE d) : ∃ e : Ev, d = evD e ∧ EvT e := by
  obtain ⟨ds, rfl, h⟩ := h
  unfold Typs at h
  obtain ⟨_, _, rfl, h0, h⟩ := h
  unfold Typs at h
  obtain ⟨_, _, rfl, h1, h⟩ := h
  unfold Typs at h
  obtain ⟨_, _, rfl, h2, h⟩ := h
  unfold Typs at h
  obtain ⟨_, _, rfl, h3, h⟩ := h
  unfold Typs at h
  obtain ⟨_, _, rfl, h4, h⟩ := h
  unfold Typs at h
  obtain ⟨_, _, rfl, h5, h⟩ := h
  unfold Typs at h
  obtain ⟨_, _, rfl, h6, h⟩ := h
  unfold Typs at h
  obtain ⟨_, _, rfl, h7, h⟩ := h
  unfold Typs at h
  obtain ⟨_, _, rfl, h8, h⟩ := h
  unfold Typs at h
  obtain ⟨_, _, rfl, h9, h⟩ := h
  unfold Typs at h
  subst h
  obtain ⟨a0, rfl, b0⟩ := typ_str h0
  obtain ⟨a1, rfl, b1⟩ := typ_str h1
  obtain ⟨a2, rfl, b2⟩ := typ_int h2
  obtain ⟨a3, rfl, b3⟩ := typ_int h3
  obtain ⟨a4, rfl, b4⟩ := typ_int h4
  obtain ⟨a5, rfl, b5⟩ := typ_int h5
  obtain ⟨a6, rfl, b6⟩ := typ_str h6
  obtain ⟨a7, rfl⟩ := typ_bool h7
  obtain ⟨a8, rfl, b8⟩ := typ_int h8
  obtain ⟨a9, rfl, b9⟩ := typ_rds h9
  exact ⟨⟨a0, a1, a2, a3, a4, a5, a6, a7, a8, a9⟩, rfl, ⟨b0, b1, b6, b9.1, b2, b3, b4, b5, b8, b9.2⟩⟩
theorem frE_T {s : ByteArray} {m : Msg} (hs : s.size ≤ maxLen) (h : MsT m) : EvT (frE s m) := ⟨hs, h.tx, h.tk, h.rd.1, h.co, h.sq, h.va, h.at', h.st, h.rd.2⟩
theorem ev0_T : EvT ev0 := ⟨by decide, by decide, by decide, by decide, by unfold inI; decide, by unfold inI; decide, by unfold inI; decide, by unfold inI; decide, by unfold inI; decide, fun x hx => by cases hx⟩
theorem frR_T {s : ByteArray} {m : Msg} (hs : s.size ≤ maxLen) (h : MsT m) : EvT (frR s m) := by unfold frR; split; exact frE_T hs h; exact ev0_T
/-! bytes -/
theorem txtF_isB (t : Int) (s : ByteArray) : ∀ x ∈ txtF t s, isB x.2 := by
  unfold txtF
  split
  · intro x hx; cases hx
  · intro x hx
    simp only [List.mem_singleton] at hx
    subst hx
    exact sB_isB s
theorem numF_isB {t n : Int} (hn : in64 n) : ∀ x ∈ numF t n, isB x.2 := by
  unfold numF
  split
  · intro x hx; cases hx
  · intro x hx
    simp only [List.mem_singleton] at hx
    subst hx
    exact putS_isB hn
theorem flagF_isB (t : Int) (b : Bool) : ∀ x ∈ flagF t b, isB x.2 := by
  unfold flagF
  split
  · intro x hx
    simp only [List.mem_singleton] at hx
    subst hx
    exact putS_isB (n := 1) (by unfold in64; omega)
  · intro x hx; cases hx
theorem rdP_isB {l : List (Int × Int)} (h : ∀ x ∈ l, inI x.1 ∧ inI x.2) : ∀ x ∈ rdP l, isB x := by
  intro x hx
  obtain ⟨n, hn, rfl⟩ := List.mem_map.1 hx
  obtain ⟨y, hy, hn⟩ := List.mem_flatMap.1 hn
  have := h y hy
  simp only [pairL, List.mem_cons, List.not_mem_nil, or_false] at hn
  rcases hn with rfl | rfl
  · exact putS_isB this.1
  · exact putS_isB this.2
theorem putL_isB {p : List (List Int)} (h : ∀ x ∈ p, isB x) (hs : ∀ x ∈ p, x.length ≤ 1000000) (hl : p.length ≤ 256) : isB (putL p) := (putListS_isB h hs (putListS_in hl)).1
theorem listF_isB {t : Int} {p : List (List Int)} (h : ∀ x ∈ p, isB x) (hs : ∀ x ∈ p, x.length ≤ 1000000) (hl : p.length ≤ 256) : ∀ x ∈ listF t p, isB x.2 := by
  unfold listF
  split
  · intro x hx; cases hx
  · intro x hx
    simp only [List.mem_singleton] at hx
    subst hx
    exact putL_isB h hs hl
theorem fldE_isB {e : Ev} (he : EvT e) (h : Ok e) : ∀ x ∈ fldE e, isB x.2 := by
  intro x hx
  unfold fldE at hx
  simp only [List.mem_append] at hx
  rcases hx with ((((((((hx | hx) | hx) | hx) | hx) | hx) | hx) | hx) | hx) | hx
  · exact txtF_isB _ _ x hx
  · exact txtF_isB _ _ x hx
  · exact numF_isB he.co x hx
  · exact numF_isB he.sq x hx
  · exact numF_isB he.ki x hx
  · exact numF_isB he.at' x hx
  · exact txtF_isB _ _ x hx
  · exact flagF_isB _ _ x hx
  · exact numF_isB he.re x hx
  · exact listF_isB (rdP_isB he.rd) (fun y hy => by have := rdP_small e.rd y hy; omega) (by rw [rdP_len]; have := h.rl; omega) x hx
theorem byE_isB {e : Ev} (he : EvT e) (h : Ok e) : isB (byE e) := (putF_isB (fldE_isB he h) (fldE_data h) (byE_put e)).1
theorem enc_isB {e : Ev} (he : EvT e) : isB (if validS e = 0 then byE e else []) := by
  split
  · rename_i h; exact byE_isB he (ok_of h)
  · exact isB.nil
/-! apart -/
theorem take_byE {e : Ev} (h : Ok e) : takeF (byE e) = .ok (fldE e) := by
  have hl := fldE_len e
  have hp := byE_put e
  rw [putF_in (by omega)] at hp
  exact take_put (fldE e) (byE e).length 0 0 (byE e) (fun x hx => by have := fldE_data h x hx; omega) hp (Nat.le_refl _) (by omega)
def OneF (t : Int) (p : List Fld) : Prop := p = [] ∨ ∃ d, p = [(t, d)]
theorem one_txt (t : Int) (s : ByteArray) : OneF t (txtF t s) := by unfold txtF; split; exact .inl rfl; exact .inr ⟨_, rfl⟩
theorem one_num (t n : Int) : OneF t (numF t n) := by unfold numF; split; exact .inl rfl; exact .inr ⟨_, rfl⟩
theorem one_flag (t : Int) (b : Bool) : OneF t (flagF t b) := by unfold flagF; split; exact .inr ⟨_, rfl⟩; exact .inl rfl
theorem one_list (t : Int) (p : List (List Int)) : OneF t (listF t p) := by unfold listF; split; exact .inl rfl; exact .inr ⟨_, rfl⟩
theorem cut {t : Int} {p q r s : List Fld} (hp : OneF t p) (hq : OneF t q) (hr : Asc t r) (hs : Asc t s) (h : p ++ r = q ++ s) : p = q ∧ r = s := by
  rcases hp with rfl | ⟨d, rfl⟩ <;> rcases hq with rfl | ⟨d', rfl⟩
  · exact ⟨rfl, by simpa using h⟩
  · exfalso
    simp only [List.nil_append, List.singleton_append] at h
    subst h
    have := hr.1
    simp only at this
    omega
  · exfalso
    simp only [List.nil_append, List.singleton_append] at h
    subst h
    have := hs.1
    simp only at this
    omega
  · simp only [List.singleton_append, List.cons.injEq] at h
    exact ⟨by rw [h.1], h.2⟩
theorem sB_inj {s s' : ByteArray} (h : sB s = sB s') : s = s' := by
  obtain ⟨⟨l⟩⟩ := s
  obtain ⟨⟨l'⟩⟩ := s'
  have h2 : l.map (fun b : UInt8 => (b.toNat : Int)) = l'.map (fun b : UInt8 => (b.toNat : Int)) := h
  have : l = l' := by
    clear h
    induction l generalizing l' with
    | nil => cases l' with
      | nil => rfl
      | cons y l' => simp at h2
    | cons x l ih => cases l' with
      | nil => simp at h2
      | cons y l' =>
        simp only [List.map_cons, List.cons.injEq] at h2
        have e : x = y := UInt8.toNat_inj.1 (by omega)
        rw [e, ih l' h2.2]
  rw [this]
theorem txt_inj {t : Int} {s s' : ByteArray} (h : txtF t s = txtF t s') : s = s' := by
  unfold txtF at h
  split at h <;> split at h
  · rename_i h1 h2
    rw [← emp_iff] at h1 h2
    rw [h1, h2]
  · cases h
  · cases h
  · simp only [List.cons.injEq, Prod.mk.injEq, true_and, and_true] at h
    exact sB_inj h
theorem putS_inj {a b : Int} (ha : in64 a) (hb : in64 b) (h : putS a = putS b) : a = b := by
  have h1 := read_put ha []
  have h2 := read_put hb []
  rw [h, h2] at h1
  simp only [Except.ok.injEq, Prod.mk.injEq, and_true] at h1
  exact h1.symm
theorem num_inj {t a b : Int} (ha : in64 a) (hb : in64 b) (h : numF t a = numF t b) : a = b := by
  unfold numF at h
  split at h <;> split at h
  · rename_i h1 h2; rw [h1, h2]
  · cases h
  · cases h
  · simp only [List.cons.injEq, Prod.mk.injEq, true_and, and_true] at h
    exact putS_inj ha hb h
theorem flag_inj {t : Int} {a b : Bool} (h : flagF t a = flagF t b) : a = b := by
  unfold flagF at h
  cases a <;> cases b <;> first | rfl | (simp at h)
theorem putL_inj {p q : List (List Int)} (hp : p.length ≤ 256) (hq : q.length ≤ 256) (hps : ∀ x ∈ p, x.length ≤ 1000000) (hqs : ∀ x ∈ q, x.length ≤ 1000000) (h : putL p = putL q) : p = q := by
  have h1 := takeList_put hp (fun x hx => by have := hps x hx; omega)
  have h2 := takeList_put hq (fun x hx => by have := hqs x hx; omega)
  rw [h, h2] at h1
  simp only [Except.ok.injEq] at h1
  exact h1.symm
theorem list_inj {t : Int} {p q : List (List Int)} (hp : p.length ≤ 256) (hq : q.length ≤ 256) (hps : ∀ x ∈ p, x.length ≤ 1000000) (hqs : ∀ x ∈ q, x.length ≤ 1000000) (h : listF t p = listF t q) : p = q := by
  unfold listF at h
  split at h <;> split at h
  · rename_i h1 h2; rw [h1, h2]
  · cases h
  · cases h
  · simp only [List.cons.injEq, Prod.mk.injEq, true_and, and_true] at h
    exact putL_inj hp hq hps hqs h
theorem rdP_inj : ∀ {l m : List (Int × Int)}, (∀ x ∈ l, inI x.1 ∧ inI x.2) → (∀ x ∈ m, inI x.1 ∧ inI x.2) → rdP l = rdP m → l = m
  | [], [], _, _, _ => rfl
  | [], y :: m, _, _, h => by simp [rdP, pairL] at h
  | x :: l, [], _, _, h => by simp [rdP, pairL] at h
  | x :: l, y :: m, hl, hm, h => by
    have hx := hl x (by simp)
    have hy := hm y (by simp)
    simp only [rdP, pairL, List.flatMap_cons, List.map_append, List.map_cons, List.map_nil, List.cons_append, List.nil_append, List.cons.injEq] at h
    have e1 := putS_inj hx.1 hy.1 h.1
    have e2 := putS_inj hx.2 hy.2 h.2.1
    rw [rdP_inj (fun z hz => hl z (by simp [hz])) (fun z hz => hm z (by simp [hz])) h.2.2, show x = y from Prod.ext e1 e2]
theorem bet_asc {a c : Int} {l : List Fld} (h : Bet a c l) : Asc a l := by
  have := h a (Int.le_refl _) [] trivial
  rwa [List.append_nil] at this
theorem byE_inj {a b : Ev} (ha : EvT a) (hb : EvT b) (oa : Ok a) (ob : Ok b) (h : byE a = byE b) : a = b := by
  have h1 := take_byE oa
  rw [h, take_byE ob] at h1
  simp only [Except.ok.injEq] at h1
  have h2 := h1.symm
  unfold fldE at h2
  simp only [List.append_assoc] at h2
  have hsuf : ∀ e : Ev, Asc 1 (txtF 2 e.tx ++ (numF 3 e.co ++ (numF 4 e.sq ++ (numF 5 e.ki ++ (numF 6 e.at' ++ (txtF 7 e.tk ++ (flagF 8 e.off ++ (numF 9 e.re ++ (listF 10 (rdP e.rd)))))))))) ∧ Asc 2 (numF 3 e.co ++ (numF 4 e.sq ++ (numF 5 e.ki ++ (numF 6 e.at' ++ (txtF 7 e.tk ++ (flagF 8 e.off ++ (numF 9 e.re ++ (listF 10 (rdP e.rd))))))))) ∧ Asc 3 (numF 4 e.sq ++ (numF 5 e.ki ++ (numF 6 e.at' ++ (txtF 7 e.tk ++ (flagF 8 e.off ++ (numF 9 e.re ++ (listF 10 (rdP e.rd)))))))) ∧ Asc 4 (numF 5 e.ki ++ (numF 6 e.at' ++ (txtF 7 e.tk ++ (flagF 8 e.off ++ (numF 9 e.re ++ (listF 10 (rdP e.rd))))))) ∧ Asc 5 (numF 6 e.at' ++ (txtF 7 e.tk ++ (flagF 8 e.off ++ (numF 9 e.re ++ (listF 10 (rdP e.rd)))))) ∧ Asc 6 (txtF 7 e.tk ++ (flagF 8 e.off ++ (numF 9 e.re ++ (listF 10 (rdP e.rd))))) ∧ Asc 7 (flagF 8 e.off ++ (numF 9 e.re ++ (listF 10 (rdP e.rd)))) ∧ Asc 8 (numF 9 e.re ++ (listF 10 (rdP e.rd))) ∧ Asc 9 (listF 10 (rdP e.rd)) := fun e => ⟨bet_asc (c := 10) (bet_app (bet_txt (t := 2) (by omega) (by omega)) (bet_app (bet_num (t := 3) (by omega) (by omega)) (bet_app (bet_num (t := 4) (by omega) (by omega)) (bet_app (bet_num (t := 5) (by omega) (by omega)) (bet_app (bet_num (t := 6) (by omega) (by omega)) (bet_app (bet_txt (t := 7) (by omega) (by omega)) (bet_app (bet_flag (t := 8) (by omega) (by omega)) (bet_app (bet_num (t := 9) (by omega) (by omega)) (bet_list (by omega) (by omega)))))))))), bet_asc (c := 10) (bet_app (bet_num (t := 3) (by omega) (by omega)) (bet_app (bet_num (t := 4) (by omega) (by omega)) (bet_app (bet_num (t := 5) (by omega) (by omega)) (bet_app (bet_num (t := 6) (by omega) (by omega)) (bet_app (bet_txt (t := 7) (by omega) (by omega)) (bet_app (bet_flag (t := 8) (by omega) (by omega)) (bet_app (bet_num (t := 9) (by omega) (by omega)) (bet_list (by omega) (by omega))))))))), bet_asc (c := 10) (bet_app (bet_num (t := 4) (by omega) (by omega)) (bet_app (bet_num (t := 5) (by omega) (by omega)) (bet_app (bet_num (t := 6) (by omega) (by omega)) (bet_app (bet_txt (t := 7) (by omega) (by omega)) (bet_app (bet_flag (t := 8) (by omega) (by omega)) (bet_app (bet_num (t := 9) (by omega) (by omega)) (bet_list (by omega) (by omega)))))))), bet_asc (c := 10) (bet_app (bet_num (t := 5) (by omega) (by omega)) (bet_app (bet_num (t := 6) (by omega) (by omega)) (bet_app (bet_txt (t := 7) (by omega) (by omega)) (bet_app (bet_flag (t := 8) (by omega) (by omega)) (bet_app (bet_num (t := 9) (by omega) (by omega)) (bet_list (by omega) (by omega))))))), bet_asc (c := 10) (bet_app (bet_num (t := 6) (by omega) (by omega)) (bet_app (bet_txt (t := 7) (by omega) (by omega)) (bet_app (bet_flag (t := 8) (by omega) (by omega)) (bet_app (bet_num (t := 9) (by omega) (by omega)) (bet_list (by omega) (by omega)))))), bet_asc (c := 10) (bet_app (bet_txt (t := 7) (by omega) (by omega)) (bet_app (bet_flag (t := 8) (by omega) (by omega)) (bet_app (bet_num (t := 9) (by omega) (by omega)) (bet_list (by omega) (by omega))))), bet_asc (c := 10) (bet_app (bet_flag (t := 8) (by omega) (by omega)) (bet_app (bet_num (t := 9) (by omega) (by omega)) (bet_list (by omega) (by omega)))), bet_asc (c := 10) (bet_app (bet_num (t := 9) (by omega) (by omega)) (bet_list (by omega) (by omega))), bet_asc (c := 10) (bet_list (by omega) (by omega))⟩
  obtain ⟨a1, a2, a3, a4, a5, a6, a7, a8, a9⟩ := hsuf a
  obtain ⟨b1, b2, b3, b4, b5, b6, b7, b8, b9⟩ := hsuf b
  obtain ⟨e0, k0⟩ := cut (one_txt 1 _) (one_txt 1 _) a1 b1 h2
  obtain ⟨e1, k1⟩ := cut (one_txt 2 _) (one_txt 2 _) a2 b2 k0
  obtain ⟨e2, k2⟩ := cut (one_num 3 _) (one_num 3 _) a3 b3 k1
  obtain ⟨e3, k3⟩ := cut (one_num 4 _) (one_num 4 _) a4 b4 k2
  obtain ⟨e4, k4⟩ := cut (one_num 5 _) (one_num 5 _) a5 b5 k3
  obtain ⟨e5, k5⟩ := cut (one_num 6 _) (one_num 6 _) a6 b6 k4
  obtain ⟨e6, k6⟩ := cut (one_txt 7 _) (one_txt 7 _) a7 b7 k5
  obtain ⟨e7, k7⟩ := cut (one_flag 8 _) (one_flag 8 _) a8 b8 k6
  obtain ⟨e8, k8⟩ := cut (one_num 9 _) (one_num 9 _) a9 b9 k7
  have la := rdP_len a.rd
  have lb := rdP_len b.rd
  have ra := oa.rl
  have rb := ob.rl
  have e9 := rdP_inj ha.rd hb.rd (list_inj (by omega) (by omega) (fun y hy => by have := rdP_small a.rd y hy; omega) (fun y hy => by have := rdP_small b.rd y hy; omega) k8)
  have f0 := txt_inj e0
  have f1 := txt_inj e1
  have f2 := num_inj ha.co hb.co e2
  have f3 := num_inj ha.sq hb.sq e3
  have f4 := num_inj ha.ki hb.ki e4
  have f5 := num_inj ha.at' hb.at' e5
  have f6 := txt_inj e6
  have f7 := flag_inj e7
  have f8 := num_inj ha.re hb.re e8
  cases a
  cases b
  simp only at f0 f1 f2 f3 f4 f5 f6 f7 f8 e9
  subst f0 f1 f2 f3 f4 f5 f6 f7 f8 e9
  rfl
end Go.Proofs.Ytoncflpifafhlaa.E30
