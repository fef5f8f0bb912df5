/-
  Layer 27: what the functions answer. No conditions stand ahead of what is proved.
-/
import Derived.Test.YtindphofgojfbaaN27
import Derived.Test.YtindphofgojfbaaSyE2
set_option maxRecDepth 100000
set_option linter.unusedSimpArgs false
set_option linter.unusedVariables false
namespace Go.Proofs.Ytindphofgojfbaa.C27
open Go.Proofs.Ytindphofgojfbaa Go.Proofs.Ytindphofgojfbaa.Sy Go.Proofs.Ytindphofgojfbaa.L7 Go.Proofs.Ytindphofgojfbaa.Id Go.Proofs.Ytindphofgojfbaa.R26 Go.Proofs.Ytindphofgojfbaa.V26 Go.Proofs.Ytindphofgojfbaa.N27 Go.RowKit Go.WideShapes Go.ChangeShapes Go.ChangeAt
structure Ep where
  nx : Int
  tm : Int
  rt : Int
  qu : List Msg
  ou : List Msg
  du : Int
  tr : Int
  se : List Msg
  deriving DecidableEq
abbrev epL (e : Ep) : List D := [I64d e.nx, I64d e.tm, I64d e.rt, msgsD e.qu, msgsD e.ou, I64d e.du, I64d e.tr, msgsD e.se]
abbrev epD (e : Ep) : D := .rc (epL e)
abbrev tEp : TS := .g [.int .i64, .int .i64, .int .i64, .lst [.int .i64, .int .i64, .int .i64, .int .i64, .int .i64, .int .i64, .int .i64, .int .i64, .str, .str, .str, .bool, .lst [.int .i64, .int .i64], .int .i64, .int .i64, .int .i64, .int .i64, .int .i64, .str, .int .i64, .int .i64, .int .i64, .int .i64, .lst [.int .i64, .int .i64], .lst [.str, .str, .str, .int .i64, .int .i64, .int .i64]], .lst [.int .i64, .int .i64, .int .i64, .int .i64, .int .i64, .int .i64, .int .i64, .int .i64, .str, .str, .str, .bool, .lst [.int .i64, .int .i64], .int .i64, .int .i64, .int .i64, .int .i64, .int .i64, .str, .int .i64, .int .i64, .int .i64, .int .i64, .lst [.int .i64, .int .i64], .lst [.str, .str, .str, .int .i64, .int .i64, .int .i64]], .int .i64, .int .i64, .lst [.int .i64, .int .i64, .int .i64, .int .i64, .int .i64, .int .i64, .int .i64, .int .i64, .str, .str, .str, .bool, .lst [.int .i64, .int .i64], .int .i64, .int .i64, .int .i64, .int .i64, .int .i64, .str, .int .i64, .int .i64, .int .i64, .int .i64, .lst [.int .i64, .int .i64], .lst [.str, .str, .str, .int .i64, .int .i64, .int .i64]]]
def ep0 : Ep := ⟨0, 0, 0, [], [], 0, 0, []⟩
/-- what messages are wanted to be: their parts are within bounds -/
structure MsB (m : Msg) : Prop where
  t : MsT m
  rl : m.rd.length ≤ 4294967296
  pl : m.p.pe.length ≤ 4294967296
  kl : m.tks.length ≤ 4294967296
structure EpB (e : Ep) : Prop where
  ql : e.qu.length ≤ 4294967200
  ol : e.ou.length ≤ 4294967200
  sl : e.se.length ≤ 4294967200
  q : ∀ m ∈ e.qu, MsB m
  o : ∀ m ∈ e.ou, MsB m
  s : ∀ m ∈ e.se, MsB m
def resB (m : Msg) : Bool := decide (m.ki = 2 ∨ m.ki = 3)
def setB (t r : Int) : Bool := decide (1 ≤ t ∧ t ≤ 1440 ∧ 0 ≤ r ∧ r ≤ 100)
theorem msg_id {m : Msg} (h : msgS m = 0) : 1 ≤ m.id ∧ m.id ≤ 2147483647 := by
  unfold msgS at h
  split at h
  · cases h
  split at h
  · cases h
  omega
theorem set_fn (a b : Int) : Fun Try.prog [] 14 [tI, tI] [I64d a, I64d b] [tB] (.ok [.bool (setB a b)]) := by
  refine set_ent _ _ ?_
  show vcset.den _ _ _ _ _
  unfold vcset
  refine den_ite (fun h1 => ?_) (fun h1 => ?_)
  · simp only [dF, dE, str_eq, emp_iff, ni_t, ni_f] at h1
    refine den_ite (fun h2 => ?_) (fun h2 => ?_)
    · simp only [dF, dE, str_eq, emp_iff, ni_t, ni_f] at h2
      refine den_ite (fun h3 => ?_) (fun h3 => ?_)
      · simp only [dF, dE, str_eq, emp_iff, ni_t, ni_f] at h3
        refine den_ret ?_
        simp only [dF, dE]
        rw [show setB a b = decide (b ≤ 100) from by unfold setB; rw [decide_eq_decide]; omega]
        first | rfl | (congr 3; simp) | skip
      · simp only [dF, dE, str_eq, emp_iff, ni_t, ni_f] at h3
        refine den_ret ?_
        simp only [dF, dE]
        rw [show setB a b = false from by unfold setB; rw [decide_eq_false_iff_not]; omega]
    · simp only [dF, dE, str_eq, emp_iff, ni_t, ni_f] at h2
      refine den_ret ?_
      simp only [dF, dE]
      rw [show setB a b = false from by unfold setB; rw [decide_eq_false_iff_not]; omega]
  · simp only [dF, dE, str_eq, emp_iff, ni_t, ni_f] at h1
    refine den_ret ?_
    simp only [dF, dE]
    rw [show setB a b = false from by unfold setB; rw [decide_eq_false_iff_not]; omega]
theorem isr_fn (m : Msg) : Fun Try.prog [] 26 [tM] [msD m] [tB] (.ok [.bool (resB m)]) := by
  refine isr_ent _ _ ?_
  show vcisr.den _ _ _ _ _
  unfold vcisr
  refine den_ite (fun h1 => ?_) (fun h1 => ?_)
  · simp only [dF, dE, str_eq, emp_iff, ni_t, ni_f] at h1
    refine den_ret ?_
    simp only [dF, dE]
    rw [show resB m = true from by unfold resB; rw [decide_eq_true_eq]; omega]
  · simp only [dF, dE, str_eq, emp_iff, ni_t, ni_f] at h1
    refine den_ret ?_
    simp only [dF, dE]
    rw [show resB m = decide (m.ki = 3) from by unfold resB; rw [decide_eq_decide]; omega]
    first | rfl | (congr 3; simp) | skip
theorem clper_fn (l : List (Int × Int)) (hl : l.length ≤ 4294967296) : Fun Try.prog [] 36 [tR] [rdD l] [tR] (.ok [rdD l]) := by
  refine clper_ent _ _ ?_
  show vcclper.den _ _ _ _ _
  unfold vcclper
  simp only [dF, dE]
  refine ⟨fun h => den_ret ?_, ?_⟩
  · simp only [dF, dE] at h
    have : l = [] := by simpa using h
    subst this
    rfl
  · refine den_ev (evs_ob (by simp only [dF, dE]; omega) (evs_nil (den_ret ?_)))
    simp only [dF, dE]
theorem cltok_fn (l : List Tok) (hl : l.length ≤ 4294967296) : Fun Try.prog [] 37 [tTk] [tksD l] [tTk] (.ok [tksD l]) := by
  refine cltok_ent _ _ ?_
  show vccltok.den _ _ _ _ _
  unfold vccltok
  simp only [dF, dE]
  refine ⟨fun h => den_ret ?_, ?_⟩
  · simp only [dF, dE] at h
    have : l = [] := by simpa using h
    subst this
    rfl
  · refine den_ev (evs_ob (by simp only [dF, dE]; omega) (evs_nil (den_ret ?_)))
    simp only [dF, dE]
theorem coll_fn (l : List Msg) (hl : l.length ≤ 4294967200) (h : ∀ m ∈ l, MsB m) : Fun Try.prog [] 19 [tMs] [msgsD l] [.r [.int .i64, .int .i64, .int .i64, .int .i64, .int .i64, .int .i64, .int .i64, .int .i64, .str, .str, .str, .bool, .lst [.int .i64, .int .i64], .int .i64, .int .i64, .int .i64, .int .i64, .int .i64, .str, .int .i64, .int .i64, .int .i64, .int .i64, .lst [.int .i64, .int .i64], .lst [.str, .str, .str, .int .i64, .int .i64, .int .i64]]] (.ok [msgsD l]) := by
  refine coll_ent _ _ ?_
  show vccoll.den _ _ _ _ _
  unfold vccoll
  refine den_ev (evs_ob (by simp only [dF, dE]; omega) (evs_ob (by simp only [dF, dE]; omega) (evs_nil ?_)))
  refine den_loopI (fun xs => ∃ i : Nat, xs = [msgsD (l.take i), I64d i] ∧ i ≤ l.length) (fun xs => l.length - (xs.getD 1 default).toI.toNat) ⟨0, rfl, Nat.zero_le _⟩ ?_
  rintro _ ⟨i, rfl, hi⟩
  (try simp only [List.cons_append, List.nil_append])
  refine den_ite (fun h1 => ?_) (fun h1 => den_ret ?_)
  rotate_left
  · simp only [dF, dE] at h1
    have : i = l.length := by omega
    subst this
    simp only [dF, dE]
    rw [List.take_length]
  simp only [dF, dE] at h1
  have hi' : i < l.length := by omega
  have hg := getD_map (g := msD) msgZ hi'
  have hmem : l.getD i msgZ ∈ l := by rw [List.getD_eq_getElem?_getD, List.getElem?_eq_getElem hi', Option.getD_some]; exact List.getElem_mem hi'
  have htk := take_get msgZ hi'
  have hb := h _ hmem
  generalize l.getD i msgZ = m at hg htk hb
  have hw : IntKind.wrap .i64 ((i : Int) + 1) = ((i + 1 : Nat) : Int) := by rw [wrap_i64 (by omega) (by omega)]; omega
  refine den_ev (evs_ob (by simp only [dF, dE]; omega) (evs_ob (by simp only [dF, dE]; omega) (evs_nil ?_)))
  refine den_cal [rdD m.rd] rfl (clonerd_fn m.rd hb.rl) (by simp only [dF, dE, hg]) rfl ?_
  (try simp only [List.cons_append, List.nil_append])
  refine den_cal [rdD m.p.pe] rfl (clper_fn m.p.pe hb.pl) (by simp only [dF, dE, hg]) rfl ?_
  (try simp only [List.cons_append, List.nil_append])
  refine den_cal [tksD m.tks] rfl (cltok_fn m.tks hb.kl) (by simp only [dF, dE, hg]) rfl ?_
  (try simp only [List.cons_append, List.nil_append])
  refine den_ev (evs_ob (by simp only [dF, dE]; simp only [List.length_take]; omega) (evs_nil ?_))
  refine den_back rfl ⟨i + 1, ?_, by omega⟩ (by simp only []; simp only [dF, dE]; rw [hw]; omega)
  simp only [dF, dE, hg]
  rw [hw, htk]
  simp
theorem cop_fn (e : Ep) (he : EpB e) : Fun Try.prog [] 18 [tEp] [epD e] [.h [.s (.int .i64), .s (.int .i64), .s (.int .i64), .r [.int .i64, .int .i64, .int .i64, .int .i64, .int .i64, .int .i64, .int .i64, .int .i64, .str, .str, .str, .bool, .lst [.int .i64, .int .i64], .int .i64, .int .i64, .int .i64, .int .i64, .int .i64, .str, .int .i64, .int .i64, .int .i64, .int .i64, .lst [.int .i64, .int .i64], .lst [.str, .str, .str, .int .i64, .int .i64, .int .i64]], .r [.int .i64, .int .i64, .int .i64, .int .i64, .int .i64, .int .i64, .int .i64, .int .i64, .str, .str, .str, .bool, .lst [.int .i64, .int .i64], .int .i64, .int .i64, .int .i64, .int .i64, .int .i64, .str, .int .i64, .int .i64, .int .i64, .int .i64, .lst [.int .i64, .int .i64], .lst [.str, .str, .str, .int .i64, .int .i64, .int .i64]], .s (.int .i64), .s (.int .i64), .r [.int .i64, .int .i64, .int .i64, .int .i64, .int .i64, .int .i64, .int .i64, .int .i64, .str, .str, .str, .bool, .lst [.int .i64, .int .i64], .int .i64, .int .i64, .int .i64, .int .i64, .int .i64, .str, .int .i64, .int .i64, .int .i64, .int .i64, .lst [.int .i64, .int .i64], .lst [.str, .str, .str, .int .i64, .int .i64, .int .i64]]]] (.ok [epD e]) := by
  refine cop_ent _ _ ?_
  show vccop.den _ _ _ _ _
  unfold vccop
  refine den_ev ?_
  refine evs_call [msgsD e.qu] rfl (coll_fn e.qu he.ql he.q) rfl rfl ?_
  refine evs_call [msgsD e.ou] rfl (coll_fn e.ou he.ol he.o) rfl rfl ?_
  refine evs_call [msgsD e.se] rfl (coll_fn e.se he.sl he.s) rfl rfl ?_
  exact evs_nil (den_ret rfl)
def newP (t r f : Int) : Bool := setB t r && decide (1 ≤ f ∧ f ≤ 2147483647)
def newO (t r f : Int) : Ep := if newP t r f = true then ⟨f, t, r, [], [], 0, 0, []⟩ else ep0
def newV (t r f : Int) : Int := if newP t r f = true then 0 else 2
theorem new_t {t r f : Int} (h : (1 ≤ t ∧ t ≤ 1440 ∧ 0 ≤ r ∧ r ≤ 100) ∧ 1 ≤ f ∧ f ≤ 2147483647) : newO t r f = ⟨f, t, r, [], [], 0, 0, []⟩ ∧ newV t r f = 0 := by
  have : newP t r f = true := by unfold newP setB; rw [Bool.and_eq_true, decide_eq_true_eq, decide_eq_true_eq]; exact h
  unfold newO newV
  rw [if_pos this, if_pos this]
  exact ⟨rfl, rfl⟩
theorem new_f {t r f : Int} (h : ¬ ((1 ≤ t ∧ t ≤ 1440 ∧ 0 ≤ r ∧ r ≤ 100) ∧ 1 ≤ f ∧ f ≤ 2147483647)) : newO t r f = ep0 ∧ newV t r f = 2 := by
  have : ¬ newP t r f = true := by unfold newP setB; rw [Bool.and_eq_true, decide_eq_true_eq, decide_eq_true_eq]; exact h
  unfold newO newV
  rw [if_neg this, if_neg this]
  exact ⟨rfl, rfl⟩
theorem new_fn (a b c : Int) : Fun Try.prog [] 4 [tI, tI, tI] [I64d a, I64d b, I64d c] [tEp, tI] (.ok [epD (newO a b c), I64d (newV a b c)]) := by
  refine new_ent _ _ ?_
  show vcnew.den _ _ _ _ _
  unfold vcnew
  refine den_cal [.bool (setB a b)] rfl (set_fn a b) rfl rfl ?_
  refine den_ite (fun h1 => ?_) (fun h1 => ?_)
  · simp only [dF, dE, setB] at h1
    refine den_ite (fun h2 => ?_) (fun h2 => ?_)
    · simp only [dF, dE, setB] at h2
      refine den_ret ?_
      simp only [dF, dE]
      rw [(new_f (t := a) (r := b) (f := c) (by omega)).1, (new_f (t := a) (r := b) (f := c) (by omega)).2]
      rfl
    · simp only [dF, dE, setB] at h2
      refine den_ite (fun h3 => ?_) (fun h3 => ?_)
      · simp only [dF, dE, setB] at h3
        refine den_ret ?_
        simp only [dF, dE]
        rw [(new_f (t := a) (r := b) (f := c) (by omega)).1, (new_f (t := a) (r := b) (f := c) (by omega)).2]
        rfl
      · simp only [dF, dE, setB] at h3
        refine den_ret ?_
        simp only [dF, dE]
        rw [(new_t (t := a) (r := b) (f := c) (by omega)).1, (new_t (t := a) (r := b) (f := c) (by omega)).2]
        rfl
  · simp only [dF, dE, setB] at h1
    refine den_ret ?_
    simp only [dF, dE]
    rw [(new_f (t := a) (r := b) (f := c) (by omega)).1, (new_f (t := a) (r := b) (f := c) (by omega)).2]
    rfl

end Go.Proofs.Ytindphofgojfbaa.C27
set_option maxRecDepth 100000
set_option linter.unusedSimpArgs false
set_option linter.unusedVariables false
namespace Go.Proofs.Ytindphofgojfbaa.C27
open Go.Proofs.Ytindphofgojfbaa Go.Proofs.Ytindphofgojfbaa.Sy Go.Proofs.Ytindphofgojfbaa.L7 Go.Proofs.Ytindphofgojfbaa.Id Go.Proofs.Ytindphofgojfbaa.R26 Go.Proofs.Ytindphofgojfbaa.V26 Go.Proofs.Ytindphofgojfbaa.N27 Go.RowKit Go.WideShapes Go.ChangeShapes Go.ChangeAt
theorem EpB.mem {l : List Msg} {i : Nat} (h : i < l.length) : l.getD i msgZ ∈ l := by rw [List.getD_eq_getElem?_getD, List.getElem?_eq_getElem h, Option.getD_some]; exact List.getElem_mem h
theorem mval_b {m : Msg} (h : MsB m) : Fun Try.prog [] 17 [tM] [msD m] [tI] (.ok [I64d (msgS m)]) := mval_fn m h.t.tx h.t.tk h.t.te h.t.rd.1 h.t.tl h.t.tks h.t.p.tx h.pl
end Go.Proofs.Ytindphofgojfbaa.C27
set_option maxRecDepth 100000
set_option linter.unusedSimpArgs false
set_option linter.unusedVariables false
namespace Go.Proofs.Ytindphofgojfbaa.C27
open Go.Proofs.Ytindphofgojfbaa Go.Proofs.Ytindphofgojfbaa.Sy Go.Proofs.Ytindphofgojfbaa.L7 Go.Proofs.Ytindphofgojfbaa.Id Go.Proofs.Ytindphofgojfbaa.R26 Go.Proofs.Ytindphofgojfbaa.V26 Go.Proofs.Ytindphofgojfbaa.N27 Go.RowKit Go.WideShapes Go.ChangeShapes Go.ChangeAt
def callM (e : Ep) (m : Msg) : Msg := { m with ki := 1, id := e.nx }
def callV (e : Ep) (m : Msg) : Int := if 256 ≤ (e.qu.length : Int) ∨ 2147483648 ≤ e.nx then 3 else msgS (callM e m)
def callO (e : Ep) (m : Msg) : Ep := if callV e m = 0 then { e with nx := e.nx + 1, qu := e.qu ++ [callM e m] } else e
def callI (e : Ep) (m : Msg) : Int := if callV e m = 0 then e.nx else 0
theorem call_no {e : Ep} {m : Msg} {k : Int} (h : callV e m = k) (hk : k ≠ 0) : callO e m = e ∧ callI e m = 0 ∧ callV e m = k := by
  unfold callO callI
  rw [if_neg (by omega), if_neg (by omega)]
  exact ⟨rfl, rfl, h⟩
theorem call_yes {e : Ep} {m : Msg} (h : callV e m = 0) : callO e m = { e with nx := e.nx + 1, qu := e.qu ++ [callM e m] } ∧ callI e m = e.nx := by
  unfold callO callI
  rw [if_pos h, if_pos h]
  exact ⟨rfl, rfl⟩
theorem callM_b {e : Ep} {m : Msg} (hm : MsB m) (hn : inI e.nx) : MsB (callM e m) := ⟨{ hm.t with ki := (show inI 1 by unfold inI; omega), id := hn }, hm.rl, hm.pl, hm.kl⟩
set_option maxHeartbeats 1000000 in
theorem call_fn (e : Ep) (m : Msg) (he : EpB e) (hm : MsB m) (hn : inI e.nx) : Fun Try.prog [] 6 [tEp, tM] [epD e, msD m] [tEp, tI, tI] (.ok [epD (callO e m), I64d (callI e m), I64d (callV e m)]) := by
  have hmc := callM_b hm hn
  have hql := he.ql
  refine call_ent _ _ ?_
  show vccall.den _ _ _ _ _
  unfold vccall
  refine den_ite (fun h1 => den_ret ?_) (fun h1 => ?_)
  · simp only [dF, dE] at h1
    obtain ⟨q1, q2, q3⟩ := call_no (e := e) (m := m) (k := 3) (by unfold callV; rw [if_pos (.inl h1)]) (by decide)
    simp only [dF, dE]
    rw [q1, q2, q3]
  simp only [dF, dE] at h1
  refine den_ite (fun h2 => den_ret ?_) (fun h2 => ?_)
  · simp only [dF, dE] at h2
    obtain ⟨q1, q2, q3⟩ := call_no (e := e) (m := m) (k := 3) (by unfold callV; rw [if_pos (.inr h2)]) (by decide)
    simp only [dF, dE]
    rw [q1, q2, q3]
  simp only [dF, dE] at h2
  have hcv : callV e m = msgS (callM e m) := by unfold callV; rw [if_neg (by omega)]
  refine den_cal [I64d (msgS (callM e m))] rfl (mval_b hmc) rfl rfl ?_
  (try simp only [List.cons_append, List.nil_append])
  refine den_ite (fun h3 => den_ret ?_) (fun h3 => ?_)
  · simp only [dF, dE] at h3
    obtain ⟨q1, q2, q3⟩ := call_no hcv h3
    simp only [dF, dE]
    rw [q1, q2, q3]
  simp only [dF, dE] at h3
  obtain ⟨q1, q2⟩ := call_yes (by rw [hcv]; exact h3 : callV e m = 0)
  have q3 : callV e m = 0 := by rw [hcv]; exact h3
  have hid := msg_id h3
  have hid1 : (callM e m).id = e.nx := rfl
  have hw : IntKind.wrap .i64 (e.nx + 1) = e.nx + 1 := wrap_i64 (by omega) (by omega)
  refine den_cal (epL e) rfl (cop_fn e he) rfl rfl ?_
  (try simp only [List.cons_append, List.nil_append])
  refine den_cal [msgsD [callM e m]] rfl (coll_fn [callM e m] (by simp) (fun x hx => by rw [List.mem_singleton.1 hx]; exact hmc)) rfl rfl ?_
  (try simp only [List.cons_append, List.nil_append])
  refine den_ev (evs_ob (by simp only [dF, dE]; omega) (evs_nil (den_ret ?_)))
  simp only [dF, dE]
  rw [q1, q2, q3, hw]
  simp
def nextQ (e : Ep) (now : Int) : Ep × List Msg := match e.qu with
  | [] => ({ e with du := 0, tr := 0 }, [])
  | q :: r => ({ e with qu := r, ou := [q], du := now + e.tm, tr := 1 }, [q])
def sendR (e : Ep) (now : Int) : Ep × List Msg × List Msg :=
  if now < 0 ∨ 268435456 < now then (e, [], []) else match e.ou with
  | [] => ((nextQ e now).1, (nextQ e now).2, [])
  | o :: _ => if e.du ≤ now then (if e.tr ≤ e.rt then ({ e with du := now + e.tm, tr := e.tr + 1 }, [o], []) else ((nextQ { e with ou := [] } now).1, (nextQ { e with ou := [] } now).2, [o])) else (e, [], [])
set_option maxHeartbeats 1000000 in
theorem send00 (nx tm rt du tr : Int) (se : List Msg) (now : Int) (he : EpB ⟨nx, tm, rt, [], [], du, tr, se⟩) (b1 : 0 ≤ tm) (b2 : tm ≤ 1000000) (b3 : 0 ≤ tr) (b4 : tr ≤ 1000000) : Fun Try.prog [] 7 [tEp, tI] [epD ⟨nx, tm, rt, [], [], du, tr, se⟩, I64d now] [tEp, tMs, tMs] (.ok [epD (sendR ⟨nx, tm, rt, [], [], du, tr, se⟩ now).1, msgsD (sendR ⟨nx, tm, rt, [], [], du, tr, se⟩ now).2.1, msgsD (sendR ⟨nx, tm, rt, [], [], du, tr, se⟩ now).2.2]) := by
  have hwt : IntKind.wrap .i64 (tr + 1) = tr + 1 := wrap_i64 (by omega) (by omega)
  refine send_ent _ _ ?_
  show vcsend.den _ _ _ _ _
  unfold vcsend
  refine den_ite (fun h1 => ?_) (fun h1 => ?_)
  · simp only [dF, dE] at h1
    refine den_ret ?_
    have hs : sendR ⟨nx, tm, rt, [], [], du, tr, se⟩ now = (⟨nx, tm, rt, [], [], du, tr, se⟩, [], []) := by (unfold sendR; first | (rw [if_pos (by omega)]; done) | (rw [if_neg (by omega)]; simp only [nextQ]; done) | (rw [if_neg (by omega)]; simp only [nextQ]; rw [if_pos (by omega), if_pos (by omega)]; done) | (rw [if_neg (by omega)]; simp only [nextQ]; rw [if_pos (by omega), if_neg (by omega)]; done) | (rw [if_neg (by omega)]; simp only [nextQ]; rw [if_neg (by omega)]; done))
    (first | (have hwa : IntKind.wrap .i64 (now + tm) = now + tm := wrap_i64 (by omega) (by omega); simp only [dF, dE, hwa, hwt]) | simp only [dF, dE, hwt])
    rw [hs]
    (try simp [List.take_of_length_le])
  · simp only [dF, dE] at h1
    refine den_ite (fun h2 => ?_) (fun h2 => ?_)
    · simp only [dF, dE] at h2
      refine den_ret ?_
      have hs : sendR ⟨nx, tm, rt, [], [], du, tr, se⟩ now = (⟨nx, tm, rt, [], [], du, tr, se⟩, [], []) := by (unfold sendR; first | (rw [if_pos (by omega)]; done) | (rw [if_neg (by omega)]; simp only [nextQ]; done) | (rw [if_neg (by omega)]; simp only [nextQ]; rw [if_pos (by omega), if_pos (by omega)]; done) | (rw [if_neg (by omega)]; simp only [nextQ]; rw [if_pos (by omega), if_neg (by omega)]; done) | (rw [if_neg (by omega)]; simp only [nextQ]; rw [if_neg (by omega)]; done))
      (first | (have hwa : IntKind.wrap .i64 (now + tm) = now + tm := wrap_i64 (by omega) (by omega); simp only [dF, dE, hwa, hwt]) | simp only [dF, dE, hwt])
      rw [hs]
      (try simp [List.take_of_length_le])
    · simp only [dF, dE] at h2
      refine den_cal [I64d (nx), I64d (tm), I64d (rt), msgsD ([]), msgsD ([]), I64d (du), I64d (tr), msgsD (se)] rfl (cop_fn _ he) rfl rfl ?_
      refine den_f (by simp only [dF, dE]; omega) ?_
      refine den_f (by simp only [dF, dE]; omega) ?_
      refine den_f (by simp only [dF, dE]; omega) ?_
      refine den_ret ?_
      have hs : sendR ⟨nx, tm, rt, [], [], du, tr, se⟩ now = (⟨nx, tm, rt, [], [], 0, 0, se⟩, [], []) := by (unfold sendR; first | (rw [if_pos (by omega)]; done) | (rw [if_neg (by omega)]; simp only [nextQ]; done) | (rw [if_neg (by omega)]; simp only [nextQ]; rw [if_pos (by omega), if_pos (by omega)]; done) | (rw [if_neg (by omega)]; simp only [nextQ]; rw [if_pos (by omega), if_neg (by omega)]; done) | (rw [if_neg (by omega)]; simp only [nextQ]; rw [if_neg (by omega)]; done))
      (first | (have hwa : IntKind.wrap .i64 (now + tm) = now + tm := wrap_i64 (by omega) (by omega); simp only [dF, dE, hwa, hwt]) | simp only [dF, dE, hwt])
      rw [hs]
      (try simp [List.take_of_length_le])
set_option maxHeartbeats 1000000 in
theorem send01 (nx tm rt du tr : Int) (se : List Msg) (now : Int) (q : Msg) (r : List Msg) (hq : MsB q) (hqb : ∀ x ∈ q :: r, MsB x) (hrl : r.length ≤ 4294967000) (he : EpB ⟨nx, tm, rt, (q :: r), [], du, tr, se⟩) (b1 : 0 ≤ tm) (b2 : tm ≤ 1000000) (b3 : 0 ≤ tr) (b4 : tr ≤ 1000000) : Fun Try.prog [] 7 [tEp, tI] [epD ⟨nx, tm, rt, (q :: r), [], du, tr, se⟩, I64d now] [tEp, tMs, tMs] (.ok [epD (sendR ⟨nx, tm, rt, (q :: r), [], du, tr, se⟩ now).1, msgsD (sendR ⟨nx, tm, rt, (q :: r), [], du, tr, se⟩ now).2.1, msgsD (sendR ⟨nx, tm, rt, (q :: r), [], du, tr, se⟩ now).2.2]) := by
  have hwt : IntKind.wrap .i64 (tr + 1) = tr + 1 := wrap_i64 (by omega) (by omega)
  refine send_ent _ _ ?_
  show vcsend.den _ _ _ _ _
  unfold vcsend
  refine den_ite (fun h1 => ?_) (fun h1 => ?_)
  · simp only [dF, dE] at h1
    refine den_ret ?_
    have hs : sendR ⟨nx, tm, rt, (q :: r), [], du, tr, se⟩ now = (⟨nx, tm, rt, (q :: r), [], du, tr, se⟩, [], []) := by (unfold sendR; first | (rw [if_pos (by omega)]; done) | (rw [if_neg (by omega)]; simp only [nextQ]; done) | (rw [if_neg (by omega)]; simp only [nextQ]; rw [if_pos (by omega), if_pos (by omega)]; done) | (rw [if_neg (by omega)]; simp only [nextQ]; rw [if_pos (by omega), if_neg (by omega)]; done) | (rw [if_neg (by omega)]; simp only [nextQ]; rw [if_neg (by omega)]; done))
    (first | (have hwa : IntKind.wrap .i64 (now + tm) = now + tm := wrap_i64 (by omega) (by omega); simp only [dF, dE, hwa, hwt]) | simp only [dF, dE, hwt])
    rw [hs]
    (try simp [List.take_of_length_le])
  · simp only [dF, dE] at h1
    refine den_ite (fun h2 => ?_) (fun h2 => ?_)
    · simp only [dF, dE] at h2
      refine den_ret ?_
      have hs : sendR ⟨nx, tm, rt, (q :: r), [], du, tr, se⟩ now = (⟨nx, tm, rt, (q :: r), [], du, tr, se⟩, [], []) := by (unfold sendR; first | (rw [if_pos (by omega)]; done) | (rw [if_neg (by omega)]; simp only [nextQ]; done) | (rw [if_neg (by omega)]; simp only [nextQ]; rw [if_pos (by omega), if_pos (by omega)]; done) | (rw [if_neg (by omega)]; simp only [nextQ]; rw [if_pos (by omega), if_neg (by omega)]; done) | (rw [if_neg (by omega)]; simp only [nextQ]; rw [if_neg (by omega)]; done))
      (first | (have hwa : IntKind.wrap .i64 (now + tm) = now + tm := wrap_i64 (by omega) (by omega); simp only [dF, dE, hwa, hwt]) | simp only [dF, dE, hwt])
      rw [hs]
      (try simp [List.take_of_length_le])
    · simp only [dF, dE] at h2
      refine den_cal [I64d (nx), I64d (tm), I64d (rt), msgsD ((q :: r)), msgsD ([]), I64d (du), I64d (tr), msgsD (se)] rfl (cop_fn _ he) rfl rfl ?_
      refine den_f (by simp only [dF, dE]; omega) ?_
      refine den_f (by simp only [dF, dE]; omega) ?_
      refine den_t (by simp only [dF, dE]; omega) ?_
      refine den_ev ?_
      refine evs_ob (by simp only [dF, dE]; omega) ?_
      refine evs_nil ?_
      refine den_cal [msgsD ([q])] rfl (coll_fn [q] (by simp) (fun x hx => by simp only [List.mem_cons, List.not_mem_nil, or_false] at hx; (first | (subst hx; assumption) | (rcases hx with rfl | rfl <;> assumption)))) rfl rfl ?_
      refine den_ev ?_
      refine evs_ob (by simp only [dF, dE]; omega) ?_
      refine evs_nil ?_
      refine den_cal [msgsD ([q])] rfl (coll_fn [q] (by simp) (fun x hx => by simp only [List.mem_cons, List.not_mem_nil, or_false] at hx; (first | (subst hx; assumption) | (rcases hx with rfl | rfl <;> assumption)))) rfl rfl ?_
      refine den_ev ?_
      refine evs_ob (by simp only [dF, dE]; omega) ?_
      refine evs_nil ?_
      refine den_cal [msgsD (r)] rfl (coll_fn r (by omega) (fun x hx => hqb x (by simp [hx]))) (by simp only [dF, dE]; simp [List.take_of_length_le]) rfl ?_
      refine den_ret ?_
      have hs : sendR ⟨nx, tm, rt, (q :: r), [], du, tr, se⟩ now = (⟨nx, tm, rt, r, [q], now + tm, 1, se⟩, [q], []) := by (unfold sendR; first | (rw [if_pos (by omega)]; done) | (rw [if_neg (by omega)]; simp only [nextQ]; done) | (rw [if_neg (by omega)]; simp only [nextQ]; rw [if_pos (by omega), if_pos (by omega)]; done) | (rw [if_neg (by omega)]; simp only [nextQ]; rw [if_pos (by omega), if_neg (by omega)]; done) | (rw [if_neg (by omega)]; simp only [nextQ]; rw [if_neg (by omega)]; done))
      (first | (have hwa : IntKind.wrap .i64 (now + tm) = now + tm := wrap_i64 (by omega) (by omega); simp only [dF, dE, hwa, hwt]) | simp only [dF, dE, hwt])
      rw [hs]
      (try simp [List.take_of_length_le])
set_option maxHeartbeats 1000000 in
theorem send10 (nx tm rt du tr : Int) (se : List Msg) (now : Int) (o : Msg) (ho : MsB o) (he : EpB ⟨nx, tm, rt, [], [o], du, tr, se⟩) (b1 : 0 ≤ tm) (b2 : tm ≤ 1000000) (b3 : 0 ≤ tr) (b4 : tr ≤ 1000000) : Fun Try.prog [] 7 [tEp, tI] [epD ⟨nx, tm, rt, [], [o], du, tr, se⟩, I64d now] [tEp, tMs, tMs] (.ok [epD (sendR ⟨nx, tm, rt, [], [o], du, tr, se⟩ now).1, msgsD (sendR ⟨nx, tm, rt, [], [o], du, tr, se⟩ now).2.1, msgsD (sendR ⟨nx, tm, rt, [], [o], du, tr, se⟩ now).2.2]) := by
  have hwt : IntKind.wrap .i64 (tr + 1) = tr + 1 := wrap_i64 (by omega) (by omega)
  refine send_ent _ _ ?_
  show vcsend.den _ _ _ _ _
  unfold vcsend
  refine den_ite (fun h1 => ?_) (fun h1 => ?_)
  · simp only [dF, dE] at h1
    refine den_ret ?_
    have hs : sendR ⟨nx, tm, rt, [], [o], du, tr, se⟩ now = (⟨nx, tm, rt, [], [o], du, tr, se⟩, [], []) := by (unfold sendR; first | (rw [if_pos (by omega)]; done) | (rw [if_neg (by omega)]; simp only [nextQ]; done) | (rw [if_neg (by omega)]; simp only [nextQ]; rw [if_pos (by omega), if_pos (by omega)]; done) | (rw [if_neg (by omega)]; simp only [nextQ]; rw [if_pos (by omega), if_neg (by omega)]; done) | (rw [if_neg (by omega)]; simp only [nextQ]; rw [if_neg (by omega)]; done))
    (first | (have hwa : IntKind.wrap .i64 (now + tm) = now + tm := wrap_i64 (by omega) (by omega); simp only [dF, dE, hwa, hwt]) | simp only [dF, dE, hwt])
    rw [hs]
    (try simp [List.take_of_length_le])
  · simp only [dF, dE] at h1
    refine den_ite (fun h2 => ?_) (fun h2 => ?_)
    · simp only [dF, dE] at h2
      refine den_ret ?_
      have hs : sendR ⟨nx, tm, rt, [], [o], du, tr, se⟩ now = (⟨nx, tm, rt, [], [o], du, tr, se⟩, [], []) := by (unfold sendR; first | (rw [if_pos (by omega)]; done) | (rw [if_neg (by omega)]; simp only [nextQ]; done) | (rw [if_neg (by omega)]; simp only [nextQ]; rw [if_pos (by omega), if_pos (by omega)]; done) | (rw [if_neg (by omega)]; simp only [nextQ]; rw [if_pos (by omega), if_neg (by omega)]; done) | (rw [if_neg (by omega)]; simp only [nextQ]; rw [if_neg (by omega)]; done))
      (first | (have hwa : IntKind.wrap .i64 (now + tm) = now + tm := wrap_i64 (by omega) (by omega); simp only [dF, dE, hwa, hwt]) | simp only [dF, dE, hwt])
      rw [hs]
      (try simp [List.take_of_length_le])
    · simp only [dF, dE] at h2
      refine den_cal [I64d (nx), I64d (tm), I64d (rt), msgsD ([]), msgsD ([o]), I64d (du), I64d (tr), msgsD (se)] rfl (cop_fn _ he) rfl rfl ?_
      refine den_t (by simp only [dF, dE]; omega) ?_
      refine den_ite (fun h3 => ?_) (fun h3 => ?_)
      · simp only [dF, dE] at h3
        refine den_ite (fun h4 => ?_) (fun h4 => ?_)
        · simp only [dF, dE] at h4
          refine den_ev ?_
          refine evs_ob (by simp only [dF, dE]; omega) ?_
          refine evs_nil ?_
          refine den_cal [msgsD ([o])] rfl (coll_fn [o] (by simp) (fun x hx => by simp only [List.mem_cons, List.not_mem_nil, or_false] at hx; (first | (subst hx; assumption) | (rcases hx with rfl | rfl <;> assumption)))) rfl rfl ?_
          refine den_t (by simp only [dF, dE]; omega) ?_
          refine den_ret ?_
          have hs : sendR ⟨nx, tm, rt, [], [o], du, tr, se⟩ now = (⟨nx, tm, rt, [], [o], now + tm, tr + 1, se⟩, [o], []) := by (unfold sendR; first | (rw [if_pos (by omega)]; done) | (rw [if_neg (by omega)]; simp only [nextQ]; done) | (rw [if_neg (by omega)]; simp only [nextQ]; rw [if_pos (by omega), if_pos (by omega)]; done) | (rw [if_neg (by omega)]; simp only [nextQ]; rw [if_pos (by omega), if_neg (by omega)]; done) | (rw [if_neg (by omega)]; simp only [nextQ]; rw [if_neg (by omega)]; done))
          (first | (have hwa : IntKind.wrap .i64 (now + tm) = now + tm := wrap_i64 (by omega) (by omega); simp only [dF, dE, hwa, hwt]) | simp only [dF, dE, hwt])
          rw [hs]
          (try simp [List.take_of_length_le])
        · simp only [dF, dE] at h4
          refine den_ev ?_
          refine evs_ob (by simp only [dF, dE]; omega) ?_
          refine evs_nil ?_
          refine den_cal [msgsD ([o])] rfl (coll_fn [o] (by simp) (fun x hx => by simp only [List.mem_cons, List.not_mem_nil, or_false] at hx; (first | (subst hx; assumption) | (rcases hx with rfl | rfl <;> assumption)))) rfl rfl ?_
          refine den_f (by simp only [dF, dE]; omega) ?_
          refine den_ret ?_
          have hs : sendR ⟨nx, tm, rt, [], [o], du, tr, se⟩ now = (⟨nx, tm, rt, [], [], 0, 0, se⟩, [], [o]) := by (unfold sendR; first | (rw [if_pos (by omega)]; done) | (rw [if_neg (by omega)]; simp only [nextQ]; done) | (rw [if_neg (by omega)]; simp only [nextQ]; rw [if_pos (by omega), if_pos (by omega)]; done) | (rw [if_neg (by omega)]; simp only [nextQ]; rw [if_pos (by omega), if_neg (by omega)]; done) | (rw [if_neg (by omega)]; simp only [nextQ]; rw [if_neg (by omega)]; done))
          (first | (have hwa : IntKind.wrap .i64 (now + tm) = now + tm := wrap_i64 (by omega) (by omega); simp only [dF, dE, hwa, hwt]) | simp only [dF, dE, hwt])
          rw [hs]
          (try simp [List.take_of_length_le])
      · simp only [dF, dE] at h3
        refine den_t (by simp only [dF, dE]; omega) ?_
        refine den_ret ?_
        have hs : sendR ⟨nx, tm, rt, [], [o], du, tr, se⟩ now = (⟨nx, tm, rt, [], [o], du, tr, se⟩, [], []) := by (unfold sendR; first | (rw [if_pos (by omega)]; done) | (rw [if_neg (by omega)]; simp only [nextQ]; done) | (rw [if_neg (by omega)]; simp only [nextQ]; rw [if_pos (by omega), if_pos (by omega)]; done) | (rw [if_neg (by omega)]; simp only [nextQ]; rw [if_pos (by omega), if_neg (by omega)]; done) | (rw [if_neg (by omega)]; simp only [nextQ]; rw [if_neg (by omega)]; done))
        (first | (have hwa : IntKind.wrap .i64 (now + tm) = now + tm := wrap_i64 (by omega) (by omega); simp only [dF, dE, hwa, hwt]) | simp only [dF, dE, hwt])
        rw [hs]
        (try simp [List.take_of_length_le])
set_option maxHeartbeats 1000000 in
theorem send11 (nx tm rt du tr : Int) (se : List Msg) (now : Int) (o : Msg) (ho : MsB o) (q : Msg) (r : List Msg) (hq : MsB q) (hqb : ∀ x ∈ q :: r, MsB x) (hrl : r.length ≤ 4294967000) (he : EpB ⟨nx, tm, rt, (q :: r), [o], du, tr, se⟩) (b1 : 0 ≤ tm) (b2 : tm ≤ 1000000) (b3 : 0 ≤ tr) (b4 : tr ≤ 1000000) : Fun Try.prog [] 7 [tEp, tI] [epD ⟨nx, tm, rt, (q :: r), [o], du, tr, se⟩, I64d now] [tEp, tMs, tMs] (.ok [epD (sendR ⟨nx, tm, rt, (q :: r), [o], du, tr, se⟩ now).1, msgsD (sendR ⟨nx, tm, rt, (q :: r), [o], du, tr, se⟩ now).2.1, msgsD (sendR ⟨nx, tm, rt, (q :: r), [o], du, tr, se⟩ now).2.2]) := by
  have hwt : IntKind.wrap .i64 (tr + 1) = tr + 1 := wrap_i64 (by omega) (by omega)
  refine send_ent _ _ ?_
  show vcsend.den _ _ _ _ _
  unfold vcsend
  refine den_ite (fun h1 => ?_) (fun h1 => ?_)
  · simp only [dF, dE] at h1
    refine den_ret ?_
    have hs : sendR ⟨nx, tm, rt, (q :: r), [o], du, tr, se⟩ now = (⟨nx, tm, rt, (q :: r), [o], du, tr, se⟩, [], []) := by (unfold sendR; first | (rw [if_pos (by omega)]; done) | (rw [if_neg (by omega)]; simp only [nextQ]; done) | (rw [if_neg (by omega)]; simp only [nextQ]; rw [if_pos (by omega), if_pos (by omega)]; done) | (rw [if_neg (by omega)]; simp only [nextQ]; rw [if_pos (by omega), if_neg (by omega)]; done) | (rw [if_neg (by omega)]; simp only [nextQ]; rw [if_neg (by omega)]; done))
    (first | (have hwa : IntKind.wrap .i64 (now + tm) = now + tm := wrap_i64 (by omega) (by omega); simp only [dF, dE, hwa, hwt]) | simp only [dF, dE, hwt])
    rw [hs]
    (try simp [List.take_of_length_le])
  · simp only [dF, dE] at h1
    refine den_ite (fun h2 => ?_) (fun h2 => ?_)
    · simp only [dF, dE] at h2
      refine den_ret ?_
      have hs : sendR ⟨nx, tm, rt, (q :: r), [o], du, tr, se⟩ now = (⟨nx, tm, rt, (q :: r), [o], du, tr, se⟩, [], []) := by (unfold sendR; first | (rw [if_pos (by omega)]; done) | (rw [if_neg (by omega)]; simp only [nextQ]; done) | (rw [if_neg (by omega)]; simp only [nextQ]; rw [if_pos (by omega), if_pos (by omega)]; done) | (rw [if_neg (by omega)]; simp only [nextQ]; rw [if_pos (by omega), if_neg (by omega)]; done) | (rw [if_neg (by omega)]; simp only [nextQ]; rw [if_neg (by omega)]; done))
      (first | (have hwa : IntKind.wrap .i64 (now + tm) = now + tm := wrap_i64 (by omega) (by omega); simp only [dF, dE, hwa, hwt]) | simp only [dF, dE, hwt])
      rw [hs]
      (try simp [List.take_of_length_le])
    · simp only [dF, dE] at h2
      refine den_cal [I64d (nx), I64d (tm), I64d (rt), msgsD ((q :: r)), msgsD ([o]), I64d (du), I64d (tr), msgsD (se)] rfl (cop_fn _ he) rfl rfl ?_
      refine den_t (by simp only [dF, dE]; omega) ?_
      refine den_ite (fun h3 => ?_) (fun h3 => ?_)
      · simp only [dF, dE] at h3
        refine den_ite (fun h4 => ?_) (fun h4 => ?_)
        · simp only [dF, dE] at h4
          refine den_ev ?_
          refine evs_ob (by simp only [dF, dE]; omega) ?_
          refine evs_nil ?_
          refine den_cal [msgsD ([o])] rfl (coll_fn [o] (by simp) (fun x hx => by simp only [List.mem_cons, List.not_mem_nil, or_false] at hx; (first | (subst hx; assumption) | (rcases hx with rfl | rfl <;> assumption)))) rfl rfl ?_
          refine den_t (by simp only [dF, dE]; omega) ?_
          refine den_ret ?_
          have hs : sendR ⟨nx, tm, rt, (q :: r), [o], du, tr, se⟩ now = (⟨nx, tm, rt, (q :: r), [o], now + tm, tr + 1, se⟩, [o], []) := by (unfold sendR; first | (rw [if_pos (by omega)]; done) | (rw [if_neg (by omega)]; simp only [nextQ]; done) | (rw [if_neg (by omega)]; simp only [nextQ]; rw [if_pos (by omega), if_pos (by omega)]; done) | (rw [if_neg (by omega)]; simp only [nextQ]; rw [if_pos (by omega), if_neg (by omega)]; done) | (rw [if_neg (by omega)]; simp only [nextQ]; rw [if_neg (by omega)]; done))
          (first | (have hwa : IntKind.wrap .i64 (now + tm) = now + tm := wrap_i64 (by omega) (by omega); simp only [dF, dE, hwa, hwt]) | simp only [dF, dE, hwt])
          rw [hs]
          (try simp [List.take_of_length_le])
        · simp only [dF, dE] at h4
          refine den_ev ?_
          refine evs_ob (by simp only [dF, dE]; omega) ?_
          refine evs_nil ?_
          refine den_cal [msgsD ([o])] rfl (coll_fn [o] (by simp) (fun x hx => by simp only [List.mem_cons, List.not_mem_nil, or_false] at hx; (first | (subst hx; assumption) | (rcases hx with rfl | rfl <;> assumption)))) rfl rfl ?_
          refine den_t (by simp only [dF, dE]; omega) ?_
          refine den_ev ?_
          refine evs_ob (by simp only [dF, dE]; omega) ?_
          refine evs_nil ?_
          refine den_cal [msgsD ([q])] rfl (coll_fn [q] (by simp) (fun x hx => by simp only [List.mem_cons, List.not_mem_nil, or_false] at hx; (first | (subst hx; assumption) | (rcases hx with rfl | rfl <;> assumption)))) rfl rfl ?_
          refine den_ev ?_
          refine evs_ob (by simp only [dF, dE]; omega) ?_
          refine evs_nil ?_
          refine den_cal [msgsD ([q])] rfl (coll_fn [q] (by simp) (fun x hx => by simp only [List.mem_cons, List.not_mem_nil, or_false] at hx; (first | (subst hx; assumption) | (rcases hx with rfl | rfl <;> assumption)))) rfl rfl ?_
          refine den_ev ?_
          refine evs_ob (by simp only [dF, dE]; omega) ?_
          refine evs_nil ?_
          refine den_cal [msgsD (r)] rfl (coll_fn r (by omega) (fun x hx => hqb x (by simp [hx]))) (by simp only [dF, dE]; simp [List.take_of_length_le]) rfl ?_
          refine den_ret ?_
          have hs : sendR ⟨nx, tm, rt, (q :: r), [o], du, tr, se⟩ now = (⟨nx, tm, rt, r, [q], now + tm, 1, se⟩, [q], [o]) := by (unfold sendR; first | (rw [if_pos (by omega)]; done) | (rw [if_neg (by omega)]; simp only [nextQ]; done) | (rw [if_neg (by omega)]; simp only [nextQ]; rw [if_pos (by omega), if_pos (by omega)]; done) | (rw [if_neg (by omega)]; simp only [nextQ]; rw [if_pos (by omega), if_neg (by omega)]; done) | (rw [if_neg (by omega)]; simp only [nextQ]; rw [if_neg (by omega)]; done))
          (first | (have hwa : IntKind.wrap .i64 (now + tm) = now + tm := wrap_i64 (by omega) (by omega); simp only [dF, dE, hwa, hwt]) | simp only [dF, dE, hwt])
          rw [hs]
          (try simp [List.take_of_length_le])
      · simp only [dF, dE] at h3
        refine den_t (by simp only [dF, dE]; omega) ?_
        refine den_ret ?_
        have hs : sendR ⟨nx, tm, rt, (q :: r), [o], du, tr, se⟩ now = (⟨nx, tm, rt, (q :: r), [o], du, tr, se⟩, [], []) := by (unfold sendR; first | (rw [if_pos (by omega)]; done) | (rw [if_neg (by omega)]; simp only [nextQ]; done) | (rw [if_neg (by omega)]; simp only [nextQ]; rw [if_pos (by omega), if_pos (by omega)]; done) | (rw [if_neg (by omega)]; simp only [nextQ]; rw [if_pos (by omega), if_neg (by omega)]; done) | (rw [if_neg (by omega)]; simp only [nextQ]; rw [if_neg (by omega)]; done))
        (first | (have hwa : IntKind.wrap .i64 (now + tm) = now + tm := wrap_i64 (by omega) (by omega); simp only [dF, dE, hwa, hwt]) | simp only [dF, dE, hwt])
        rw [hs]
        (try simp [List.take_of_length_le])
theorem send_fn (e : Ep) (now : Int) (he : EpB e) (b0 : e.ou.length ≤ 1) (b5 : e.qu.length ≤ 4294967000) (b1 : 0 ≤ e.tm) (b2 : e.tm ≤ 1000000) (b3 : 0 ≤ e.tr) (b4 : e.tr ≤ 1000000) : Fun Try.prog [] 7 [tEp, tI] [epD e, I64d now] [tEp, tMs, tMs] (.ok [epD (sendR e now).1, msgsD (sendR e now).2.1, msgsD (sendR e now).2.2]) := by
  obtain ⟨nx, tm, rt, qu, ou, du, tr, se⟩ := e
  match ou, qu, b0, b5, he with
  | [], [], _, _, he => exact send00 nx tm rt du tr se now he b1 b2 b3 b4
  | [], q :: r, _, b5, he => exact send01 nx tm rt du tr se now q r (he.q q (by simp)) he.q (by simp only [List.length_cons] at b5; omega) he b1 b2 b3 b4
  | [o], [], _, _, he => exact send10 nx tm rt du tr se now o (he.o o (by simp)) he b1 b2 b3 b4
  | [o], q :: r, _, b5, he => exact send11 nx tm rt du tr se now o (he.o o (by simp)) q r (he.q q (by simp)) he.q (by simp only [List.length_cons] at b5; omega) he b1 b2 b3 b4
  | _ :: _ :: _, _, b0, _, _ => simp only [List.length_cons] at b0; omega

end Go.Proofs.Ytindphofgojfbaa.C27
set_option maxRecDepth 100000
set_option linter.unusedSimpArgs false
set_option linter.unusedVariables false
namespace Go.Proofs.Ytindphofgojfbaa.C27
open Go.Proofs.Ytindphofgojfbaa Go.Proofs.Ytindphofgojfbaa.Sy Go.Proofs.Ytindphofgojfbaa.L7 Go.Proofs.Ytindphofgojfbaa.Id Go.Proofs.Ytindphofgojfbaa.R26 Go.Proofs.Ytindphofgojfbaa.V26 Go.Proofs.Ytindphofgojfbaa.N27 Go.RowKit Go.WideShapes Go.ChangeShapes Go.ChangeAt
def fndS (k : Int) : List Msg → Option Msg
  | [] => none
  | s :: l => if s.id = k then some s else fndS k l
def lookR (e : Ep) (m : Msg) : Ep × List Msg × List Msg × List Msg :=
  if m.ki ≠ 1 then (e, [], [], []) else match fndS m.id e.se with
  | some s => (e, [], [], [s])
  | none => if newB m.id e.se = true then (e, [], [m], []) else (e, [], [], [])
def recvR (e : Ep) (m : Msg) : Ep × List Msg × List Msg × List Msg :=
  if resB m = true then (match e.ou with
    | [] => (e, [], [], [])
    | o :: _ => if m.id = o.id ∧ m.ac = o.ac then ({ e with ou := [], du := 0, tr := 0 }, [o, m], [], []) else (e, [], [], []))
  else lookR e m
theorem fnd_mem {k : Int} {s : Msg} : ∀ {l : List Msg}, fndS k l = some s → s ∈ l
  | [], h => by cases h
  | x :: l, h => by
    rw [fndS] at h
    split at h
    · cases h; simp
    · exact List.mem_cons_of_mem _ (fnd_mem h)
theorem look_no {e : Ep} {m : Msg} (h : m.ki ≠ 1) : lookR e m = (e, [], [], []) := by unfold lookR; rw [if_pos h]
set_option maxHeartbeats 1000000 in
theorem recv_fn (e : Ep) (m : Msg) (he : EpB e) (hm : MsB m) (b0 : e.ou.length ≤ 1) : Fun Try.prog [] 11 [tEp, tM] [epD e, msD m] [tEp, tMs, tMs, tMs] (.ok [epD (recvR e m).1, msgsD (recvR e m).2.1, msgsD (recvR e m).2.2.1, msgsD (recvR e m).2.2.2]) := by
  have hsl := he.sl
  refine recv_ent _ _ ?_
  show vcrecv.den _ _ _ _ _
  unfold vcrecv
  refine den_cal [.bool (resB m)] rfl (isr_fn m) rfl rfl ?_
  (try simp only [List.cons_append, List.nil_append])
  refine den_ite (fun h0 => ?_) (fun h0 => ?_)
  · simp only [dF, dE] at h0
    obtain ⟨nx, tm, rt, qu, ou, du, tr, se⟩ := e
    match ou, b0, he with
    | [], _, he =>
      refine den_ite (fun h => den_ret ?_) (fun h => absurd h (by simp only [dF, dE]; omega))
      simp only [dF, dE]
      rw [show recvR ⟨nx, tm, rt, qu, [], du, tr, se⟩ m = (⟨nx, tm, rt, qu, [], du, tr, se⟩, [], [], []) from by unfold recvR; rw [if_pos h0]]
      (try simp)
    | [o], _, he =>
      have hr : recvR ⟨nx, tm, rt, qu, [o], du, tr, se⟩ m = if m.id = o.id ∧ m.ac = o.ac then (⟨nx, tm, rt, qu, [], 0, 0, se⟩, [o, m], [], []) else (⟨nx, tm, rt, qu, [o], du, tr, se⟩, [], [], []) := by unfold recvR; rw [if_pos h0]
      have ho := he.o o (by simp)
      refine den_f (by simp only [dF, dE]; omega) ?_
      refine den_ev (evs_ob (by simp only [dF, dE]; omega) (evs_nil ?_))
      refine den_ite (fun h1 => den_ret ?_) (fun h1 => ?_)
      · simp only [dF, dE] at h1
        simp only [dF, dE]
        rw [hr, if_neg (fun c => h1 c.1)]
        (try simp)
      simp only [dF, dE] at h1
      refine den_ev (evs_ob (by simp only [dF, dE]; omega) (evs_nil ?_))
      refine den_ite (fun h2 => den_ret ?_) (fun h2 => ?_)
      · simp only [dF, dE] at h2
        simp only [dF, dE]
        rw [hr, if_neg (fun c => h2 c.2)]
        (try simp)
      simp only [dF, dE] at h2
      refine den_cal [I64d nx, I64d tm, I64d rt, msgsD qu, msgsD [o], I64d du, I64d tr, msgsD se] rfl (cop_fn _ he) rfl rfl ?_
      (try simp only [List.cons_append, List.nil_append])
      refine den_ev (evs_ob (by simp only [dF, dE]; omega) (evs_nil ?_))
      refine den_cal [msgsD [o, m]] rfl (coll_fn [o, m] (by simp) (fun x hx => by simp only [List.mem_cons, List.not_mem_nil, or_false] at hx; rcases hx with rfl | rfl <;> assumption)) rfl rfl (den_ret ?_)
      simp only [dF, dE]
      rw [hr, if_pos ⟨h1, h2⟩]
      (try simp)
    | _ :: _ :: _, b0, _ => simp only [List.length_cons] at b0; omega
  simp only [dF, dE] at h0
  have hr : recvR e m = lookR e m := by unfold recvR; rw [if_neg (by rw [h0]; decide)]
  refine den_ite (fun h1 => den_ret ?_) (fun hk => ?_)
  · simp only [dF, dE] at h1
    simp only [dF, dE]
    rw [hr, look_no h1]
    (try simp)
  simp only [dF, dE] at hk
  refine den_loopI (fun xs => ∃ (a b c : List Msg) (i : Nat), xs = [msgsD a, msgsD b, msgsD c, I64d i] ∧ i ≤ e.se.length ∧ fndS m.id e.se = fndS m.id (e.se.drop i)) (fun xs => e.se.length - (xs.getD 3 default).toI.toNat) ⟨[], [], [], 0, rfl, Nat.zero_le _, rfl⟩ ?_
  rintro _ ⟨a, b, c, i, rfl, hi, hv⟩
  (try simp only [List.cons_append, List.nil_append])
  refine den_ite (fun h => ?_) (fun h => ?_)
  · simp only [dF, dE] at h
    have hi' : i < e.se.length := by omega
    have hg := getD_map (g := msD) msgZ hi'
    have hb := he.s _ (EpB.mem hi')
    rw [drop_get msgZ hi', fndS] at hv
    generalize e.se.getD i msgZ = s at hg hb hv
    have hw : IntKind.wrap .i64 ((i : Int) + 1) = ((i + 1 : Nat) : Int) := by rw [wrap_i64 (by omega) (by omega)]; omega
    refine den_ev (evs_ob (by simp only [dF, dE]; omega) (evs_ob (by simp only [dF, dE]; omega) (evs_nil ?_)))
    refine den_ite (fun h1 => ?_) (fun h1 => ?_)
    · simp only [dF, dE, hg] at h1
      rw [if_pos h1] at hv
      refine den_cal [msgsD [s]] rfl (coll_fn [s] (by simp) (fun x hx => by rw [List.mem_singleton.1 hx]; exact hb)) (by simp only [dF, dE, cpM, hg]; first | done | rfl) rfl (den_ret ?_)
      simp only [dF, dE]
      rw [hr, show lookR e m = (e, [], [], [s]) from by unfold lookR; rw [if_neg (fun c => c hk), hv]]
      (try simp)
    · simp only [dF, dE, hg] at h1
      rw [if_neg h1] at hv
      exact den_back rfl ⟨a, b, c, i + 1, (by simp only [dF, dE]; rw [hw]), by omega, hv⟩ (by simp only []; simp only [dF, dE]; rw [hw]; omega)
  simp only [dF, dE] at h
  have hil : i = e.se.length := by omega
  subst hil
  rw [List.drop_length] at hv
  have hv : fndS m.id e.se = none := hv
  refine den_cal [.bool (newB m.id e.se)] rfl (newer_fn m e.se) rfl rfl ?_
  (try simp only [List.cons_append, List.nil_append])
  refine den_ite (fun h2 => ?_) (fun h2 => den_ret ?_)
  · simp only [dF, dE] at h2
    refine den_cal [msgsD [m]] rfl (coll_fn [m] (by simp) (fun x hx => by rw [List.mem_singleton.1 hx]; exact hm)) rfl rfl (den_ret ?_)
    simp only [dF, dE]
    rw [hr, show lookR e m = (e, [], [m], []) from by unfold lookR; rw [if_neg (fun c => c hk), hv]; simp only []; rw [if_pos h2]]
    (try simp)
  · simp only [dF, dE] at h2
    simp only [dF, dE]
    rw [hr, show lookR e m = (e, [], [], []) from by unfold lookR; rw [if_neg (fun c => c hk), hv]; simp only []; rw [if_neg (by rw [h2]; decide)]]
    (try simp)
def ansV (e : Ep) (m : Msg) : Int := if msgS m ≠ 0 then msgS m else if resB m = false then 1 else if newB m.id e.se = false then 10 else 0
def ansL (e : Ep) (m : Msg) : List Msg := if 16 < ((e.se ++ [m]).length : Int) then (e.se ++ [m]).drop 1 else e.se ++ [m]
def ansO (e : Ep) (m : Msg) : Ep := if ansV e m = 0 then { e with se := ansL e m } else e
theorem ans_no {e : Ep} {m : Msg} {k : Int} (h : ansV e m = k) (hk : k ≠ 0) : ansO e m = e ∧ ansV e m = k := by
  unfold ansO
  rw [if_neg (by omega)]
  exact ⟨rfl, h⟩
theorem ans_yes {e : Ep} {m : Msg} (h : ansV e m = 0) : ansO e m = { e with se := ansL e m } := by unfold ansO; rw [if_pos h]
set_option maxHeartbeats 1000000 in
theorem ans_fn (e : Ep) (m : Msg) (he : EpB e) (hm : MsB m) (hl : e.se.length ≤ 1000) : Fun Try.prog [] 13 [tEp, tM] [epD e, msD m] [tEp, tI] (.ok [epD (ansO e m), I64d (ansV e m)]) := by
  refine ans_ent _ _ ?_
  show vcans.den _ _ _ _ _
  unfold vcans
  refine den_cal [I64d (msgS m)] rfl (mval_b hm) rfl rfl ?_
  (try simp only [List.cons_append, List.nil_append])
  refine den_ite (fun h1 => den_ret ?_) (fun h1 => ?_)
  · simp only [dF, dE] at h1
    obtain ⟨q1, q2⟩ := ans_no (e := e) (m := m) (k := msgS m) (by unfold ansV; rw [if_pos h1]) h1
    simp only [dF, dE]
    rw [q1, q2]
  simp only [dF, dE] at h1
  refine den_cal [.bool (resB m)] rfl (isr_fn m) rfl rfl ?_
  (try simp only [List.cons_append, List.nil_append])
  refine den_ite (fun h2 => ?_) (fun h2 => den_ret ?_)
  rotate_left
  · simp only [dF, dE] at h2
    obtain ⟨q1, q2⟩ := ans_no (e := e) (m := m) (k := 1) (by unfold ansV; rw [if_neg (fun c => c h1), if_pos h2]) (by decide)
    simp only [dF, dE]
    rw [q1, q2]
  simp only [dF, dE] at h2
  refine den_cal [.bool (newB m.id e.se)] rfl (newer_fn m e.se) rfl rfl ?_
  (try simp only [List.cons_append, List.nil_append])
  refine den_ite (fun h3 => ?_) (fun h3 => den_ret ?_)
  rotate_left
  · simp only [dF, dE] at h3
    obtain ⟨q1, q2⟩ := ans_no (e := e) (m := m) (k := 10) (by unfold ansV; rw [if_neg (fun c => c h1), if_neg (by rw [h2]; decide), if_pos h3]) (by decide)
    simp only [dF, dE]
    rw [q1, q2]
  simp only [dF, dE] at h3
  have q0 : ansV e m = 0 := by unfold ansV; rw [if_neg (fun c => c h1), if_neg (by rw [h2]; decide), if_neg (by rw [h3]; decide)]
  have q1 := ans_yes q0
  have hbl : ∀ x ∈ e.se ++ [m], MsB x := fun x hx => (List.mem_append.1 hx).elim (he.s x) (fun hx => by rw [List.mem_singleton.1 hx]; exact hm)
  refine den_cal (epL e) rfl (cop_fn e he) rfl rfl ?_
  (try simp only [List.cons_append, List.nil_append])
  refine den_cal [msgsD [m]] rfl (coll_fn [m] (by simp) (fun x hx => by rw [List.mem_singleton.1 hx]; exact hm)) rfl rfl ?_
  (try simp only [List.cons_append, List.nil_append])
  refine den_ev (evs_ob (by simp only [dF, dE]; omega) (evs_nil ?_))
  refine den_ite (fun h4 => ?_) (fun h4 => den_ret ?_)
  · simp only [dF, dE] at h4
    refine den_ev (evs_ob (by simp only [dF, dE]; omega) (evs_nil ?_))
    refine den_cal [msgsD ((e.se ++ [m]).drop 1)] rfl (coll_fn ((e.se ++ [m]).drop 1) (by simp; omega) (fun x hx => hbl x (List.mem_of_mem_drop hx))) (by simp only [dF, dE]; simp [List.take_of_length_le]) rfl (den_ret ?_)
    simp only [dF, dE]
    rw [q1, q0, show ansL e m = (e.se ++ [m]).drop 1 from by unfold ansL; rw [if_pos (by simp only [List.length_append, List.length_cons, List.length_nil]; omega)]]
  · simp only [dF, dE] at h4
    simp only [dF, dE]
    rw [q1, q0, show ansL e m = e.se ++ [m] from by unfold ansL; rw [if_neg (by simp only [List.length_append, List.length_cons, List.length_nil]; omega)]]
    (try simp)
def shTk (x : Tok) : Bool := decide (x.id.size ≤ 50 ∧ x.gr.size ≤ 50 ∧ x.co.size ≤ 50)
def shMs (m : Msg) : Bool := decide (m.tx.size ≤ 50 ∧ m.tk.size ≤ 50 ∧ m.te.size ≤ 50 ∧ m.rd.length ≤ 4 ∧ m.tks.length ≤ 4 ∧ m.p.pe.length ≤ 4 ∧ m.p.tx.size ≤ 50) && m.tks.all shTk
def shL (l : List Msg) : Bool := l.all shMs
end Go.Proofs.Ytindphofgojfbaa.C27
