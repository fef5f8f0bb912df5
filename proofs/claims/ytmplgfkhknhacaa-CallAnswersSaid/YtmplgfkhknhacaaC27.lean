/-
  Layer 27: what the functions answer. No conditions stand ahead of what is proved.
-/
import Derived.Test.YtmplgfkhknhacaaC27c
import Derived.Test.YtmplgfkhknhacaaSyE2
set_option maxRecDepth 100000
set_option linter.unusedSimpArgs false
set_option linter.unusedVariables false
namespace Go.Proofs.Ytmplgfkhknhacaa.C27
open Go.Proofs.Ytmplgfkhknhacaa Go.Proofs.Ytmplgfkhknhacaa.Sy Go.Proofs.Ytmplgfkhknhacaa.L7 Go.Proofs.Ytmplgfkhknhacaa.Id Go.Proofs.Ytmplgfkhknhacaa.R26 Go.Proofs.Ytmplgfkhknhacaa.V26 Go.Proofs.Ytmplgfkhknhacaa.N27 Go.RowKit Go.WideShapes Go.ChangeShapes Go.ChangeAt
structure Ep where
  nx : Int
  tm : Int
  rt : Int
  qu : List Msg
  ou : List Msg
  du : Int
  tr : Int
  se : List Msg
  deriving DecidableEq
abbrev epL (e : Ep) : List D := [I64d e.nx, I64d e.tm, I64d e.rt, msgsD e.qu, msgsD e.ou, I64d e.du, I64d e.tr, msgsD e.se]
abbrev epD (e : Ep) : D := .rc (epL e)
abbrev tEp : TS := .g [.int .i64, .int .i64, .int .i64, .lst [.int .i64, .int .i64, .int .i64, .int .i64, .int .i64, .int .i64, .int .i64, .int .i64, .str, .str, .str, .bool, .lst [.int .i64, .int .i64], .int .i64, .int .i64, .int .i64, .int .i64, .int .i64, .str, .int .i64, .int .i64, .int .i64, .int .i64, .lst [.int .i64, .int .i64], .lst [.str, .str, .str, .int .i64, .int .i64, .int .i64]], .lst [.int .i64, .int .i64, .int .i64, .int .i64, .int .i64, .int .i64, .int .i64, .int .i64, .str, .str, .str, .bool, .lst [.int .i64, .int .i64], .int .i64, .int .i64, .int .i64, .int .i64, .int .i64, .str, .int .i64, .int .i64, .int .i64, .int .i64, .lst [.int .i64, .int .i64], .lst [.str, .str, .str, .int .i64, .int .i64, .int .i64]], .int .i64, .int .i64, .lst [.int .i64, .int .i64, .int .i64, .int .i64, .int .i64, .int .i64, .int .i64, .int .i64, .str, .str, .str, .bool, .lst [.int .i64, .int .i64], .int .i64, .int .i64, .int .i64, .int .i64, .int .i64, .str, .int .i64, .int .i64, .int .i64, .int .i64, .lst [.int .i64, .int .i64], .lst [.str, .str, .str, .int .i64, .int .i64, .int .i64]]]
def ep0 : Ep := ⟨0, 0, 0, [], [], 0, 0, []⟩
/-- what messages are wanted to be: their parts are within bounds -/
structure MsB (m : Msg) : Prop where
  t : MsT m
  rl : m.rd.length ≤ 4294967296
  pl : m.p.pe.length ≤ 4294967296
  kl : m.tks.length ≤ 4294967296
structure EpB (e : Ep) : Prop where
  ql : e.qu.length ≤ 4294967200
  ol : e.ou.length ≤ 4294967200
  sl : e.se.length ≤ 4294967200
  q : ∀ m ∈ e.qu, MsB m
  o : ∀ m ∈ e.ou, MsB m
  s : ∀ m ∈ e.se, MsB m
def resB (m : Msg) : Bool := decide (m.ki = 2 ∨ m.ki = 3)
def setB (t r : Int) : Bool := decide (1 ≤ t ∧ t ≤ 1440 ∧ 0 ≤ r ∧ r ≤ 100)
def waitB (e : Ep) : Bool := decide (((e.ou.length : Int) = 0 ∧ e.tr = 0 ∧ e.du = 0) ∨ ((e.ou.length : Int) ≠ 0 ∧ 1 ≤ e.tr ∧ e.tr ≤ e.rt + 1 ∧ 0 ≤ e.du ∧ e.du ≤ 268436896))
def callsE (nx : Int) : Int → List Msg → Int
  | _, [] => 0
  | a, m :: l => if msgS m ≠ 0 then msgS m else if m.ki ≠ 1 ∨ m.id ≤ a ∨ nx ≤ m.id then 1 else callsE nx m.id l
def seenE : Int → List Msg → Int
  | _, [] => 0
  | a, m :: l => if msgS m ≠ 0 then msgS m else if resB m = false ∨ m.id ≤ a then 1 else seenE m.id l
def epS (e : Ep) : Int :=
  if setB e.tm e.rt = false ∨ e.nx < 1 ∨ 2147483648 < e.nx then 2 else if 256 < (e.qu.length : Int) ∨ 1 < (e.ou.length : Int) ∨ 16 < (e.se.length : Int) then 3
  else if waitB e = false then 2 else if callsE e.nx 0 (e.ou ++ e.qu) ≠ 0 then callsE e.nx 0 (e.ou ++ e.qu) else seenE 0 e.se
theorem msg_id {m : Msg} (h : msgS m = 0) : 1 ≤ m.id ∧ m.id ≤ 2147483647 := by
  unfold msgS at h
  split at h
  · cases h
  split at h
  · cases h
  omega
theorem set_fn (a b : Int) : Fun Try.prog [] 36 [tI, tI] [I64d a, I64d b] [tB] (.ok [.bool (setB a b)]) := by
  refine set_ent _ _ ?_
  show vcset.den _ _ _ _ _
  unfold vcset
  refine den_ite (fun h1 => ?_) (fun h1 => ?_)
  · simp only [dF, dE, str_eq, emp_iff, ni_t, ni_f] at h1
    refine den_ite (fun h2 => ?_) (fun h2 => ?_)
    · simp only [dF, dE, str_eq, emp_iff, ni_t, ni_f] at h2
      refine den_ite (fun h3 => ?_) (fun h3 => ?_)
      · simp only [dF, dE, str_eq, emp_iff, ni_t, ni_f] at h3
        refine den_ret ?_
        simp only [dF, dE]
        rw [show setB a b = decide (b ≤ 100) from by unfold setB; rw [decide_eq_decide]; omega]
        first | rfl | (congr 3; simp) | skip
      · simp only [dF, dE, str_eq, emp_iff, ni_t, ni_f] at h3
        refine den_ret ?_
        simp only [dF, dE]
        rw [show setB a b = false from by unfold setB; rw [decide_eq_false_iff_not]; omega]
    · simp only [dF, dE, str_eq, emp_iff, ni_t, ni_f] at h2
      refine den_ret ?_
      simp only [dF, dE]
      rw [show setB a b = false from by unfold setB; rw [decide_eq_false_iff_not]; omega]
  · simp only [dF, dE, str_eq, emp_iff, ni_t, ni_f] at h1
    refine den_ret ?_
    simp only [dF, dE]
    rw [show setB a b = false from by unfold setB; rw [decide_eq_false_iff_not]; omega]
theorem wait_fn (e : Ep) (h1 : -9223372036854775808 ≤ e.rt) (h2 : e.rt < 9223372036854775807) : Fun Try.prog [] 37 [tEp] [epD e] [tB] (.ok [.bool (waitB e)]) := by
  have hwr : IntKind.wrap .i64 (e.rt + 1) = e.rt + 1 := wrap_i64 (by omega) (by omega)
  refine wait_ent _ _ ?_
  show vcwait.den _ _ _ _ _
  unfold vcwait
  refine den_ite (fun h1 => ?_) (fun h1 => ?_)
  · simp only [dF, dE, hwr] at h1
    refine den_ite (fun h2 => ?_) (fun h2 => ?_)
    · simp only [dF, dE, hwr] at h2
      refine den_ret ?_
      simp only [dF, dE]
      rw [show waitB e = decide (e.du = 0) from by unfold waitB; rw [decide_eq_decide]; omega]
      first | rfl | (congr 3; simp) | skip
    · simp only [dF, dE, hwr] at h2
      refine den_ret ?_
      simp only [dF, dE]
      rw [show waitB e = false from by unfold waitB; rw [decide_eq_false_iff_not]; omega]
  · simp only [dF, dE, hwr] at h1
    refine den_ite (fun h3 => ?_) (fun h3 => ?_)
    · simp only [dF, dE, hwr] at h3
      refine den_ite (fun h4 => ?_) (fun h4 => ?_)
      · simp only [dF, dE, hwr] at h4
        refine den_ite (fun h5 => ?_) (fun h5 => ?_)
        · simp only [dF, dE, hwr] at h5
          refine den_ret ?_
          simp only [dF, dE]
          rw [show waitB e = decide (e.du ≤ 268436896) from by unfold waitB; rw [decide_eq_decide]; omega]
          first | rfl | (congr 3; simp) | skip
        · simp only [dF, dE, hwr] at h5
          refine den_ret ?_
          simp only [dF, dE]
          rw [show waitB e = false from by unfold waitB; rw [decide_eq_false_iff_not]; omega]
      · simp only [dF, dE, hwr] at h4
        refine den_ret ?_
        simp only [dF, dE]
        rw [show waitB e = false from by unfold waitB; rw [decide_eq_false_iff_not]; omega]
    · simp only [dF, dE, hwr] at h3
      refine den_ret ?_
      simp only [dF, dE]
      rw [show waitB e = false from by unfold waitB; rw [decide_eq_false_iff_not]; omega]
theorem isr_fn (m : Msg) : Fun Try.prog [] 39 [tM] [msD m] [tB] (.ok [.bool (resB m)]) := by
  refine isr_ent _ _ ?_
  show vcisr.den _ _ _ _ _
  unfold vcisr
  refine den_ite (fun h1 => ?_) (fun h1 => ?_)
  · simp only [dF, dE, str_eq, emp_iff, ni_t, ni_f] at h1
    refine den_ret ?_
    simp only [dF, dE]
    rw [show resB m = true from by unfold resB; rw [decide_eq_true_eq]; omega]
  · simp only [dF, dE, str_eq, emp_iff, ni_t, ni_f] at h1
    refine den_ret ?_
    simp only [dF, dE]
    rw [show resB m = decide (m.ki = 3) from by unfold resB; rw [decide_eq_decide]; omega]
    first | rfl | (congr 3; simp) | skip
theorem risr_fn (m : Msg) : Fun Try.prog [] 42 [tM] [msD m] [tB] (.ok [.bool (resB m)]) := by
  refine risr_ent _ _ ?_
  show vcrisr.den _ _ _ _ _
  unfold vcrisr
  refine den_ite (fun h1 => ?_) (fun h1 => ?_)
  · simp only [dF, dE, str_eq, emp_iff, ni_t, ni_f] at h1
    refine den_ret ?_
    simp only [dF, dE]
    rw [show resB m = true from by unfold resB; rw [decide_eq_true_eq]; omega]
  · simp only [dF, dE, str_eq, emp_iff, ni_t, ni_f] at h1
    refine den_ret ?_
    simp only [dF, dE]
    rw [show resB m = decide (m.ki = 3) from by unfold resB; rw [decide_eq_decide]; omega]
    first | rfl | (congr 3; simp) | skip
theorem clper_fn (l : List (Int × Int)) (hl : l.length ≤ 4294967296) : Fun Try.prog [] 72 [tR] [rdD l] [tR] (.ok [rdD l]) := by
  refine clper_ent _ _ ?_
  show vcclper.den _ _ _ _ _
  unfold vcclper
  simp only [dF, dE]
  refine ⟨fun h => den_ret ?_, ?_⟩
  · simp only [dF, dE] at h
    have : l = [] := by simpa using h
    subst this
    rfl
  · refine den_ev (evs_ob (by simp only [dF, dE]; omega) (evs_nil (den_ret ?_)))
    simp only [dF, dE]
theorem cltok_fn (l : List Tok) (hl : l.length ≤ 4294967296) : Fun Try.prog [] 73 [tTk] [tksD l] [tTk] (.ok [tksD l]) := by
  refine cltok_ent _ _ ?_
  show vccltok.den _ _ _ _ _
  unfold vccltok
  simp only [dF, dE]
  refine ⟨fun h => den_ret ?_, ?_⟩
  · simp only [dF, dE] at h
    have : l = [] := by simpa using h
    subst this
    rfl
  · refine den_ev (evs_ob (by simp only [dF, dE]; omega) (evs_nil (den_ret ?_)))
    simp only [dF, dE]
theorem coll_fn (l : List Msg) (hl : l.length ≤ 4294967200) (h : ∀ m ∈ l, MsB m) : Fun Try.prog [] 44 [tMs] [msgsD l] [.r [.int .i64, .int .i64, .int .i64, .int .i64, .int .i64, .int .i64, .int .i64, .int .i64, .str, .str, .str, .bool, .lst [.int .i64, .int .i64], .int .i64, .int .i64, .int .i64, .int .i64, .int .i64, .str, .int .i64, .int .i64, .int .i64, .int .i64, .lst [.int .i64, .int .i64], .lst [.str, .str, .str, .int .i64, .int .i64, .int .i64]]] (.ok [msgsD l]) := by
  refine coll_ent _ _ ?_
  show vccoll.den _ _ _ _ _
  unfold vccoll
  refine den_ev (evs_ob (by simp only [dF, dE]; omega) (evs_ob (by simp only [dF, dE]; omega) (evs_nil ?_)))
  refine den_loopI (fun xs => ∃ i : Nat, xs = [msgsD (l.take i), I64d i] ∧ i ≤ l.length) (fun xs => l.length - (xs.getD 1 default).toI.toNat) ⟨0, rfl, Nat.zero_le _⟩ ?_
  rintro _ ⟨i, rfl, hi⟩
  (try simp only [List.cons_append, List.nil_append])
  refine den_ite (fun h1 => ?_) (fun h1 => den_ret ?_)
  rotate_left
  · simp only [dF, dE] at h1
    have : i = l.length := by omega
    subst this
    simp only [dF, dE]
    rw [List.take_length]
  simp only [dF, dE] at h1
  have hi' : i < l.length := by omega
  have hg := getD_map (g := msD) msgZ hi'
  have hmem : l.getD i msgZ ∈ l := by rw [List.getD_eq_getElem?_getD, List.getElem?_eq_getElem hi', Option.getD_some]; exact List.getElem_mem hi'
  have htk := take_get msgZ hi'
  have hb := h _ hmem
  generalize l.getD i msgZ = m at hg htk hb
  have hw : IntKind.wrap .i64 ((i : Int) + 1) = ((i + 1 : Nat) : Int) := by rw [wrap_i64 (by omega) (by omega)]; omega
  refine den_ev (evs_ob (by simp only [dF, dE]; omega) (evs_ob (by simp only [dF, dE]; omega) (evs_nil ?_)))
  refine den_cal [rdD m.rd] rfl (clonerd_fn m.rd hb.rl) (by simp only [dF, dE, hg]) rfl ?_
  (try simp only [List.cons_append, List.nil_append])
  refine den_cal [rdD m.p.pe] rfl (clper_fn m.p.pe hb.pl) (by simp only [dF, dE, hg]) rfl ?_
  (try simp only [List.cons_append, List.nil_append])
  refine den_cal [tksD m.tks] rfl (cltok_fn m.tks hb.kl) (by simp only [dF, dE, hg]) rfl ?_
  (try simp only [List.cons_append, List.nil_append])
  refine den_ev (evs_ob (by simp only [dF, dE]; simp only [List.length_take]; omega) (evs_nil ?_))
  refine den_back rfl ⟨i + 1, ?_, by omega⟩ (by simp only []; simp only [dF, dE]; rw [hw]; omega)
  simp only [dF, dE, hg]
  rw [hw, htk]
  simp
theorem cop_fn (e : Ep) (he : EpB e) : Fun Try.prog [] 43 [tEp] [epD e] [.h [.s (.int .i64), .s (.int .i64), .s (.int .i64), .r [.int .i64, .int .i64, .int .i64, .int .i64, .int .i64, .int .i64, .int .i64, .int .i64, .str, .str, .str, .bool, .lst [.int .i64, .int .i64], .int .i64, .int .i64, .int .i64, .int .i64, .int .i64, .str, .int .i64, .int .i64, .int .i64, .int .i64, .lst [.int .i64, .int .i64], .lst [.str, .str, .str, .int .i64, .int .i64, .int .i64]], .r [.int .i64, .int .i64, .int .i64, .int .i64, .int .i64, .int .i64, .int .i64, .int .i64, .str, .str, .str, .bool, .lst [.int .i64, .int .i64], .int .i64, .int .i64, .int .i64, .int .i64, .int .i64, .str, .int .i64, .int .i64, .int .i64, .int .i64, .lst [.int .i64, .int .i64], .lst [.str, .str, .str, .int .i64, .int .i64, .int .i64]], .s (.int .i64), .s (.int .i64), .r [.int .i64, .int .i64, .int .i64, .int .i64, .int .i64, .int .i64, .int .i64, .int .i64, .str, .str, .str, .bool, .lst [.int .i64, .int .i64], .int .i64, .int .i64, .int .i64, .int .i64, .int .i64, .str, .int .i64, .int .i64, .int .i64, .int .i64, .lst [.int .i64, .int .i64], .lst [.str, .str, .str, .int .i64, .int .i64, .int .i64]]]] (.ok [epD e]) := by
  refine cop_ent _ _ ?_
  show vccop.den _ _ _ _ _
  unfold vccop
  refine den_ev ?_
  refine evs_call [msgsD e.qu] rfl (coll_fn e.qu he.ql he.q) rfl rfl ?_
  refine evs_call [msgsD e.ou] rfl (coll_fn e.ou he.ol he.o) rfl rfl ?_
  refine evs_call [msgsD e.se] rfl (coll_fn e.se he.sl he.s) rfl rfl ?_
  exact evs_nil (den_ret rfl)
theorem calls_fn (e : Ep) (h1 : e.ou.length + e.qu.length ≤ 4294967296) : Fun Try.prog [] 40 [tEp] [epD e] [tMs] (.ok [msgsD (e.ou ++ e.qu)]) := by
  refine calls_ent _ _ ?_
  show vccalls.den _ _ _ _ _
  unfold vccalls
  refine den_ev (evs_ob (by simp only [dF, dE]; omega) (evs_nil ?_))
  refine den_ev (evs_ob (by simp only [dF, dE]; omega) (evs_nil (den_ret ?_)))
  simp only [dF, dE]
  simp
theorem with_fn (l : List Msg) (m : Msg) (h1 : l.length < 4294967296) : Fun Try.prog [] 45 [tMs, tM] [msgsD l, msD m] [tMs] (.ok [msgsD (l ++ [m])]) := by
  refine with_ent _ _ ?_
  show vcwith.den _ _ _ _ _
  unfold vcwith
  refine den_ev (evs_ob (by simp only [dF, dE]; omega) (evs_nil ?_))
  refine den_ev (evs_ob (by simp only [dF, dE]; omega) (evs_nil (den_ret ?_)))
  simp only [dF, dE]
  simp
def newP (t r f : Int) : Bool := setB t r && decide (1 ≤ f ∧ f ≤ 2147483647)
def newO (t r f : Int) : Ep := if newP t r f = true then ⟨f, t, r, [], [], 0, 0, []⟩ else ep0
def newV (t r f : Int) : Int := if newP t r f = true then 0 else 2
theorem new_t {t r f : Int} (h : (1 ≤ t ∧ t ≤ 1440 ∧ 0 ≤ r ∧ r ≤ 100) ∧ 1 ≤ f ∧ f ≤ 2147483647) : newO t r f = ⟨f, t, r, [], [], 0, 0, []⟩ ∧ newV t r f = 0 := by
  have : newP t r f = true := by unfold newP setB; rw [Bool.and_eq_true, decide_eq_true_eq, decide_eq_true_eq]; exact h
  unfold newO newV
  rw [if_pos this, if_pos this]
  exact ⟨rfl, rfl⟩
theorem new_f {t r f : Int} (h : ¬ ((1 ≤ t ∧ t ≤ 1440 ∧ 0 ≤ r ∧ r ≤ 100) ∧ 1 ≤ f ∧ f ≤ 2147483647)) : newO t r f = ep0 ∧ newV t r f = 2 := by
  have : ¬ newP t r f = true := by unfold newP setB; rw [Bool.and_eq_true, decide_eq_true_eq, decide_eq_true_eq]; exact h
  unfold newO newV
  rw [if_neg this, if_neg this]
  exact ⟨rfl, rfl⟩
theorem new_fn (a b c : Int) : Fun Try.prog [] 15 [tI, tI, tI] [I64d a, I64d b, I64d c] [tEp, tI] (.ok [epD (newO a b c), I64d (newV a b c)]) := by
  refine new_ent _ _ ?_
  show vcnew.den _ _ _ _ _
  unfold vcnew
  refine den_cal [.bool (setB a b)] rfl (set_fn a b) rfl rfl ?_
  refine den_ite (fun h1 => ?_) (fun h1 => ?_)
  · simp only [dF, dE, setB] at h1
    refine den_ite (fun h2 => ?_) (fun h2 => ?_)
    · simp only [dF, dE, setB] at h2
      refine den_ret ?_
      simp only [dF, dE]
      rw [(new_f (t := a) (r := b) (f := c) (by omega)).1, (new_f (t := a) (r := b) (f := c) (by omega)).2]
      rfl
    · simp only [dF, dE, setB] at h2
      refine den_ite (fun h3 => ?_) (fun h3 => ?_)
      · simp only [dF, dE, setB] at h3
        refine den_ret ?_
        simp only [dF, dE]
        rw [(new_f (t := a) (r := b) (f := c) (by omega)).1, (new_f (t := a) (r := b) (f := c) (by omega)).2]
        rfl
      · simp only [dF, dE, setB] at h3
        refine den_ret ?_
        simp only [dF, dE]
        rw [(new_t (t := a) (r := b) (f := c) (by omega)).1, (new_t (t := a) (r := b) (f := c) (by omega)).2]
        rfl
  · simp only [dF, dE, setB] at h1
    refine den_ret ?_
    simp only [dF, dE]
    rw [(new_f (t := a) (r := b) (f := c) (by omega)).1, (new_f (t := a) (r := b) (f := c) (by omega)).2]
    rfl
theorem rnew_fn (a b c : Int) : Fun Try.prog [] 16 [tI, tI, tI] [I64d a, I64d b, I64d c] [tEp, tI] (.ok [epD (newO a b c), I64d (newV a b c)]) := by
  refine rnew_ent _ _ ?_
  show vcrnew.den _ _ _ _ _
  unfold vcrnew
  refine den_ite (fun h1 => ?_) (fun h1 => ?_)
  · simp only [dF, dE, setB] at h1
    refine den_ret ?_
    simp only [dF, dE]
    rw [(new_f (t := a) (r := b) (f := c) (by omega)).1, (new_f (t := a) (r := b) (f := c) (by omega)).2]
    rfl
  · simp only [dF, dE, setB] at h1
    refine den_ite (fun h2 => ?_) (fun h2 => ?_)
    · simp only [dF, dE, setB] at h2
      refine den_ret ?_
      simp only [dF, dE]
      rw [(new_f (t := a) (r := b) (f := c) (by omega)).1, (new_f (t := a) (r := b) (f := c) (by omega)).2]
      rfl
    · simp only [dF, dE, setB] at h2
      refine den_ite (fun h3 => ?_) (fun h3 => ?_)
      · simp only [dF, dE, setB] at h3
        refine den_ret ?_
        simp only [dF, dE]
        rw [(new_f (t := a) (r := b) (f := c) (by omega)).1, (new_f (t := a) (r := b) (f := c) (by omega)).2]
        rfl
      · simp only [dF, dE, setB] at h3
        refine den_ite (fun h4 => ?_) (fun h4 => ?_)
        · simp only [dF, dE, setB] at h4
          refine den_ret ?_
          simp only [dF, dE]
          rw [(new_f (t := a) (r := b) (f := c) (by omega)).1, (new_f (t := a) (r := b) (f := c) (by omega)).2]
          rfl
        · simp only [dF, dE, setB] at h4
          refine den_ite (fun h5 => ?_) (fun h5 => ?_)
          · simp only [dF, dE, setB] at h5
            refine den_ret ?_
            simp only [dF, dE]
            rw [(new_f (t := a) (r := b) (f := c) (by omega)).1, (new_f (t := a) (r := b) (f := c) (by omega)).2]
            rfl
          · simp only [dF, dE, setB] at h5
            refine den_ite (fun h6 => ?_) (fun h6 => ?_)
            · simp only [dF, dE, setB] at h6
              refine den_ret ?_
              simp only [dF, dE]
              rw [(new_f (t := a) (r := b) (f := c) (by omega)).1, (new_f (t := a) (r := b) (f := c) (by omega)).2]
              rfl
            · simp only [dF, dE, setB] at h6
              refine den_ret ?_
              simp only [dF, dE]
              rw [(new_t (t := a) (r := b) (f := c) (by omega)).1, (new_t (t := a) (r := b) (f := c) (by omega)).2]
              rfl
theorem sameall_fn (a b : List Msg) (ha : a.length ≤ 4294967200) (hb : b.length ≤ 4294967200) (hat : ∀ m ∈ a, MsB m) (hbt : ∀ m ∈ b, MsB m) : Fun Try.prog [] 23 [tMs, tMs] [msgsD a, msgsD b] [tB] (.ok [.bool (decide (a = b))]) := by
  refine sameall_ent _ _ ?_
  show vcsameall.den _ _ _ _ _
  unfold vcsameall
  refine den_ite (fun h => den_ret ?_) (fun h => ?_)
  · simp only [dF, dE] at h
    have hne : a ≠ b := fun e => h (by rw [e])
    simp only [dF, dE]
    simp [hne]
  simp only [dF, dE] at h
  refine den_loopI (fun xs => ∃ (q : Bool) (i : Nat), xs = [.bool q, I64d i] ∧ i ≤ a.length ∧ a.take i = b.take i) (fun xs => a.length - (xs.getD 1 default).toI.toNat) ⟨false, 0, rfl, Nat.zero_le _, rfl⟩ ?_
  rintro _ ⟨q, i, rfl, hi, htk⟩
  (try simp only [List.cons_append, List.nil_append])
  refine den_ite (fun h2 => ?_) (fun h2 => ?_)
  · simp only [dF, dE] at h2
    have hia : i < a.length := by omega
    have hib : i < b.length := by omega
    have ga := getD_map (g := msD) msgZ hia
    have gb := getD_map (g := msD) msgZ hib
    have hma : a.getD i msgZ ∈ a := by rw [List.getD_eq_getElem?_getD, List.getElem?_eq_getElem hia, Option.getD_some]; exact List.getElem_mem hia
    have hmb : b.getD i msgZ ∈ b := by rw [List.getD_eq_getElem?_getD, List.getElem?_eq_getElem hib, Option.getD_some]; exact List.getElem_mem hib
    have hw : IntKind.wrap .i64 ((i : Int) + 1) = ((i + 1 : Nat) : Int) := by rw [wrap_i64 (by omega) (by omega)]; omega
    refine den_ev (evs_ob (by simp only [dF, dE]; omega) (evs_ob (by simp only [dF, dE]; omega) (evs_ob (by simp only [dF, dE]; omega) (evs_ob (by simp only [dF, dE]; omega) (evs_nil ?_)))))
    refine den_cal [.bool (decide (a.getD i msgZ = b.getD i msgZ))] rfl (same26_fn (a.getD i msgZ) (b.getD i msgZ) (hat _ hma).t.ok (hbt _ hmb).t.ok) (by simp only [dF, dE, ga, gb]) rfl ?_
    (try simp only [List.cons_append, List.nil_append])
    refine den_ite (fun h3 => ?_) (fun h3 => den_ret ?_)
    · simp only [dF, dE] at h3
      exact den_back rfl ⟨q, i + 1, (by simp only [dF, dE]; rw [hw]), by omega, take_step msgZ hia hib htk h3⟩ (by simp only []; simp only [dF, dE]; rw [hw]; omega)
    · simp only [dF, dE] at h3
      have hne : a ≠ b := fun e => h3 (by rw [e])
      simp only [dF, dE]
      simp [hne]
  · simp only [dF, dE] at h2
    have hia : i = a.length := by omega
    subst hia
    have heq : a = b := take_all (by omega) htk
    refine den_ret ?_
    simp only [dF, dE]
    simp [heq]
theorem same_fn (a b : Ep) (ha : EpB a) (hb : EpB b) : Fun Try.prog [] 17 [tEp, tEp] [epD a, epD b] [tB] (.ok [.bool (decide (a = b))]) := by
  refine same_ent _ _ ?_
  show vcsame.den _ _ _ _ _
  unfold vcsame
  refine den_ite (fun h1 => ?_) (fun h1 => ?_)
  · simp only [dF, dE] at h1
    refine den_ite (fun h2 => ?_) (fun h2 => ?_)
    · simp only [dF, dE] at h2
      refine den_ite (fun h3 => ?_) (fun h3 => ?_)
      · simp only [dF, dE] at h3
        refine den_ite (fun h4 => ?_) (fun h4 => ?_)
        · simp only [dF, dE] at h4
          refine den_ite (fun h5 => ?_) (fun h5 => ?_)
          · simp only [dF, dE] at h5
            refine den_cal [.bool (decide (a.qu = b.qu))] rfl (sameall_fn a.qu b.qu ha.ql hb.ql ha.q hb.q) rfl rfl ?_
            refine den_ite (fun h6 => ?_) (fun h6 => ?_)
            · simp only [dF, dE] at h6
              refine den_cal [.bool (decide (a.ou = b.ou))] rfl (sameall_fn a.ou b.ou ha.ol hb.ol ha.o hb.o) rfl rfl ?_
              refine den_ite (fun h7 => ?_) (fun h7 => ?_)
              · simp only [dF, dE] at h7
                refine den_cal [.bool (decide (a.se = b.se))] rfl (sameall_fn a.se b.se ha.sl hb.sl ha.s hb.s) rfl rfl ?_
                refine den_ret ?_
                simp only [dF, dE]
                have heq : (a = b) ↔ (a.se = b.se) := by (cases a; cases b; simp_all)
                simp only [heq]
              · simp only [dF, dE] at h7
                refine den_ret ?_
                have hne : a ≠ b := by (intro e; subst e; simp_all)
                simp only [dF, dE]
                simp [hne]
            · simp only [dF, dE] at h6
              refine den_ret ?_
              have hne : a ≠ b := by (intro e; subst e; simp_all)
              simp only [dF, dE]
              simp [hne]
          · simp only [dF, dE] at h5
            refine den_ret ?_
            have hne : a ≠ b := by (intro e; subst e; simp_all)
            simp only [dF, dE]
            simp [hne]
        · simp only [dF, dE] at h4
          refine den_ret ?_
          have hne : a ≠ b := by (intro e; subst e; simp_all)
          simp only [dF, dE]
          simp [hne]
      · simp only [dF, dE] at h3
        refine den_ret ?_
        have hne : a ≠ b := by (intro e; subst e; simp_all)
        simp only [dF, dE]
        simp [hne]
    · simp only [dF, dE] at h2
      refine den_ret ?_
      have hne : a ≠ b := by (intro e; subst e; simp_all)
      simp only [dF, dE]
      simp [hne]
  · simp only [dF, dE] at h1
    refine den_ret ?_
    have hne : a ≠ b := by (intro e; subst e; simp_all)
    simp only [dF, dE]
    simp [hne]

end Go.Proofs.Ytmplgfkhknhacaa.C27
set_option maxRecDepth 100000
set_option linter.unusedSimpArgs false
set_option linter.unusedVariables false
namespace Go.Proofs.Ytmplgfkhknhacaa.C27
open Go.Proofs.Ytmplgfkhknhacaa Go.Proofs.Ytmplgfkhknhacaa.Sy Go.Proofs.Ytmplgfkhknhacaa.L7 Go.Proofs.Ytmplgfkhknhacaa.Id Go.Proofs.Ytmplgfkhknhacaa.R26 Go.Proofs.Ytmplgfkhknhacaa.V26 Go.Proofs.Ytmplgfkhknhacaa.N27 Go.RowKit Go.WideShapes Go.ChangeShapes Go.ChangeAt
theorem EpB.mem {l : List Msg} {i : Nat} (h : i < l.length) : l.getD i msgZ ∈ l := by rw [List.getD_eq_getElem?_getD, List.getElem?_eq_getElem h, Option.getD_some]; exact List.getElem_mem h
def ouqu (e : Ep) (k : Nat) : List Msg := if k = 0 then e.ou else e.qu
theorem ouqu_get (e : Ep) {k : Nat} (h : k < 2) : ([msgsD e.ou, msgsD e.qu] : List D).getD k default = msgsD (ouqu e k) := by
  match k, h with
  | 0, _ => rfl
  | 1, _ => rfl
def restL (e : Ep) (k : Nat) : List Msg := if k = 0 then e.ou ++ e.qu else if k = 1 then e.qu else []
theorem restL_step (e : Ep) {k : Nat} (h : k < 2) : restL e k = ouqu e k ++ restL e (k + 1) := by
  match k, h with
  | 0, _ => rfl
  | 1, _ => simp [restL, ouqu]
theorem mval_b {m : Msg} (h : MsB m) : Fun Try.prog [] 38 [tM] [msD m] [tI] (.ok [I64d (msgS m)]) := mval_fn m h.t.tx h.t.tk h.t.te h.t.rd.1 h.t.tl h.t.tks h.t.p.tx h.pl
theorem rmval_b {m : Msg} (h : MsB m) : Fun Try.prog [] 41 [tM] [msD m] [tI] (.ok [I64d (msgS m)]) := rmval_fn m h.t.tx h.t.tk h.t.te h.t.rd.1 h.t.tl h.t.tks h.t.p.tx h.pl
theorem ep_2 {e : Ep} (h : setB e.tm e.rt = false ∨ e.nx < 1 ∨ 2147483648 < e.nx) : epS e = 2 := by unfold epS; rw [if_pos h]
theorem ep_3 {e : Ep} (h : ¬ (setB e.tm e.rt = false ∨ e.nx < 1 ∨ 2147483648 < e.nx)) (h2 : 256 < (e.qu.length : Int) ∨ 1 < (e.ou.length : Int) ∨ 16 < (e.se.length : Int)) : epS e = 3 := by unfold epS; rw [if_neg h, if_pos h2]
theorem ep_w {e : Ep} (h : ¬ (setB e.tm e.rt = false ∨ e.nx < 1 ∨ 2147483648 < e.nx)) (h2 : ¬ (256 < (e.qu.length : Int) ∨ 1 < (e.ou.length : Int) ∨ 16 < (e.se.length : Int))) (h3 : waitB e = false) : epS e = 2 := by unfold epS; rw [if_neg h, if_neg h2, if_pos h3]
theorem ep_p {e : Ep} (h : ¬ (setB e.tm e.rt = false ∨ e.nx < 1 ∨ 2147483648 < e.nx)) (h2 : ¬ (256 < (e.qu.length : Int) ∨ 1 < (e.ou.length : Int) ∨ 16 < (e.se.length : Int))) (h3 : waitB e = true) : epS e = if callsE e.nx 0 (e.ou ++ e.qu) ≠ 0 then callsE e.nx 0 (e.ou ++ e.qu) else seenE 0 e.se := by unfold epS; rw [if_neg h, if_neg h2, if_neg (by rw [h3]; decide)]
def prvM (l : List Msg) (i : Nat) : Int := if i = 0 then 0 else (l.getD (i - 1) msgZ).id
set_option maxHeartbeats 4000000 in
theorem val_fn (e : Ep) (he : EpB e) (hr1 : -9223372036854775808 ≤ e.rt) (hr2 : e.rt ≤ 9223372036854775807) : Fun Try.prog [] 13 [tEp] [epD e] [tI] (.ok [I64d (epS e)]) := by
  refine val_ent _ _ ?_
  show vcval.den _ _ _ _ _
  unfold vcval
  refine den_cal [.bool (setB e.tm e.rt)] rfl (set_fn e.tm e.rt) rfl rfl ?_
  (try simp only [List.cons_append, List.nil_append])
  refine den_ite (fun s1 => ?_) (fun s1 => den_ret ?_)
  rotate_left
  · simp only [dF, dE] at s1
    simp only [dF, dE]
    rw [ep_2 (.inl s1)]
  simp only [dF, dE] at s1
  have s1' := s1
  unfold setB at s1'
  rw [decide_eq_true_eq] at s1'
  refine den_ite (fun s2 => den_ret ?_) (fun s2 => ?_)
  · simp only [dF, dE] at s2
    simp only [dF, dE]
    rw [ep_2 (.inr (.inl s2))]
  simp only [dF, dE] at s2
  refine den_ite (fun s3 => den_ret ?_) (fun s3 => ?_)
  · simp only [dF, dE] at s3
    simp only [dF, dE]
    rw [ep_2 (.inr (.inr s3))]
  simp only [dF, dE] at s3
  have n1 : ¬ (setB e.tm e.rt = false ∨ e.nx < 1 ∨ 2147483648 < e.nx) := fun c => c.elim (fun c => by rw [s1] at c; cases c) (fun c => by omega)
  refine den_ite (fun s4 => den_ret ?_) (fun s4 => ?_)
  · simp only [dF, dE] at s4
    simp only [dF, dE]
    rw [ep_3 n1 (.inl s4)]
  simp only [dF, dE] at s4
  refine den_ite (fun s5 => den_ret ?_) (fun s5 => ?_)
  · simp only [dF, dE] at s5
    simp only [dF, dE]
    rw [ep_3 n1 (.inr (.inl s5))]
  simp only [dF, dE] at s5
  refine den_ite (fun s6 => den_ret ?_) (fun s6 => ?_)
  · simp only [dF, dE] at s6
    simp only [dF, dE]
    rw [ep_3 n1 (.inr (.inr s6))]
  simp only [dF, dE] at s6
  have n2 : ¬ (256 < (e.qu.length : Int) ∨ 1 < (e.ou.length : Int) ∨ 16 < (e.se.length : Int)) := by omega
  refine den_cal [.bool (waitB e)] rfl (wait_fn e hr1 (by omega)) rfl rfl ?_
  (try simp only [List.cons_append, List.nil_append])
  refine den_ite (fun s7 => ?_) (fun s7 => den_ret ?_)
  rotate_left
  · simp only [dF, dE] at s7
    simp only [dF, dE]
    rw [ep_w n1 n2 s7]
  simp only [dF, dE] at s7
  have hp := ep_p n1 n2 s7
  refine den_loopI (fun xs => ∃ (q a : Int) (k : Nat), xs = [I64d q, I64d a, I64d k] ∧ k ≤ 2 ∧ callsE e.nx 0 (e.ou ++ e.qu) = callsE e.nx a (restL e k) ∧ 0 ≤ a) (fun xs => 2 - (xs.getD 2 default).toI.toNat) ⟨0, 0, 0, rfl, by omega, rfl, by omega⟩ ?_
  rintro _ ⟨q0, a0, k, rfl, hk, hv, ha0⟩
  (try simp only [List.cons_append, List.nil_append])
  refine den_ite (fun h => ?_) (fun h => ?_)
  · simp only [dF, dE] at h
    have hk2 : k < 2 := by omega
    have hlk := ouqu_get e hk2
    rw [restL_step e hk2] at hv
    have hwk : IntKind.wrap .i64 ((k : Int) + 1) = ((k + 1 : Nat) : Int) := by rw [wrap_i64 (by omega) (by omega)]; omega
    have hbL : ∀ m ∈ ouqu e k, MsB m := by (unfold ouqu; split <;> first | exact he.o | exact he.q)
    have hlL : (ouqu e k).length ≤ 256 := by unfold ouqu; split <;> omega
    refine den_ev (evs_ob (by simp only [dF, dE]; omega) (evs_ob (by simp only [dF, dE]; omega) (evs_nil ?_)))
    generalize ouqu e k = L at hv hlk hbL hlL
    refine den_loopI (fun xs => ∃ (q a : Int) (i : Nat), xs = [I64d q, I64d a, I64d i] ∧ i ≤ L.length ∧ callsE e.nx 0 (e.ou ++ e.qu) = callsE e.nx a (L.drop i ++ restL e (k + 1)) ∧ 0 ≤ a) (fun xs => L.length - (xs.getD 2 default).toI.toNat) ⟨q0, a0, 0, rfl, Nat.zero_le _, hv, ha0⟩ ?_
    rintro _ ⟨q, a, i, rfl, hi, hv2, ha⟩
    (try simp only [List.cons_append, List.nil_append])
    refine den_ite (fun h => ?_) (fun h => ?_)
    · simp only [dF, dE, hlk] at h
      have hi' : i < L.length := by omega
      have hg := getD_map (g := msD) msgZ hi'
      have hb := hbL _ (EpB.mem hi')
      rw [drop_get msgZ hi', List.cons_append, callsE] at hv2
      generalize L.getD i msgZ = m at hg hb hv2
      have hw : IntKind.wrap .i64 ((i : Int) + 1) = ((i + 1 : Nat) : Int) := by rw [wrap_i64 (by omega) (by omega)]; omega
      refine den_ev (evs_ob (by simp only [dF, dE]; omega) (evs_ob (by simp only [dF, dE, hlk]; omega) (evs_nil ?_)))
      refine den_cal [I64d (msgS m)] rfl (mval_b hb) (by simp only [dF, dE, cpM, hlk, hg]) rfl ?_
      (try simp only [List.cons_append, List.nil_append])
      refine den_ite (fun h1 => den_ret ?_) (fun h1 => ?_)
      · simp only [dF, dE] at h1
        rw [if_pos h1] at hv2
        simp only [dF, dE]
        rw [hp, if_pos (by rw [hv2]; exact h1), hv2]
      simp only [dF, dE] at h1
      rw [if_neg (fun c => c h1)] at hv2
      refine den_ite (fun h2 => den_ret ?_) (fun h2 => ?_)
      · simp only [dF, dE, hlk, hg] at h2
        rw [if_pos (.inl h2)] at hv2
        simp only [dF, dE]
        rw [hp, if_pos (by rw [hv2]; decide), hv2]
      simp only [dF, dE, hlk, hg] at h2
      refine den_ite (fun h3 => den_ret ?_) (fun h3 => ?_)
      · simp only [dF, dE, hlk, hg] at h3
        rw [if_pos (.inr (.inl h3))] at hv2
        simp only [dF, dE]
        rw [hp, if_pos (by rw [hv2]; decide), hv2]
      simp only [dF, dE, hlk, hg] at h3
      refine den_ite (fun h4 => den_ret ?_) (fun h4 => ?_)
      · simp only [dF, dE, hlk, hg] at h4
        rw [if_pos (.inr (.inr h4))] at hv2
        simp only [dF, dE]
        rw [hp, if_pos (by rw [hv2]; decide), hv2]
      simp only [dF, dE, hlk, hg] at h4
      rw [if_neg (fun c => c.elim (fun c => c h2) (fun c => by omega))] at hv2
      exact den_back rfl ⟨q, m.id, i + 1, (by simp only [dF, dE, hlk, hg]; rw [hw]), by omega, hv2, (by have := msg_id h1; omega)⟩ (by simp only []; simp only [dF, dE]; rw [hw]; omega)
    · simp only [dF, dE, hlk] at h
      have : i = L.length := by omega
      subst this
      rw [List.drop_length, List.nil_append] at hv2
      exact den_back rfl ⟨q, a, k + 1, (by simp only [dF, dE]; rw [hwk]), by omega, hv2, ha⟩ (by simp only []; simp only [dF, dE]; rw [hwk]; omega)
  simp only [dF, dE] at h
  have hk2 : k = 2 := by omega
  subst hk2
  have hv : callsE e.nx 0 (e.ou ++ e.qu) = 0 := hv
  rw [if_neg (fun c => c hv)] at hp
  refine den_loopI (fun xs => ∃ (q : Int) (i : Nat), xs = [I64d q, I64d i] ∧ i ≤ e.se.length ∧ seenE 0 e.se = seenE (prvM e.se i) (e.se.drop i)) (fun xs => e.se.length - (xs.getD 1 default).toI.toNat) ⟨_, 0, rfl, Nat.zero_le _, rfl⟩ ?_
  rintro _ ⟨q, i, rfl, hi, hv⟩
  (try simp only [List.cons_append, List.nil_append])
  refine den_ite (fun h => ?_) (fun h => den_ret ?_)
  rotate_left
  · simp only [dF, dE] at h
    have : i = e.se.length := by omega
    subst this
    rw [List.drop_length] at hv
    simp only [dF, dE]
    rw [hp, hv]
    rfl
  simp only [dF, dE] at h
  have hi' : i < e.se.length := by omega
  have hg := getD_map (g := msD) msgZ hi'
  have hb := he.s _ (EpB.mem hi')
  have hprn : prvM e.se (i + 1) = (e.se.getD i msgZ).id := by unfold prvM; rw [if_neg (by omega)]; rfl
  rw [drop_get msgZ hi', seenE] at hv
  generalize e.se.getD i msgZ = m at hg hb hprn hv
  have hw : IntKind.wrap .i64 ((i : Int) + 1) = ((i + 1 : Nat) : Int) := by rw [wrap_i64 (by omega) (by omega)]; omega
  have hwp : 0 < i → IntKind.wrap .i64 ((i : Int) - 1) = ((i - 1 : Nat) : Int) := fun hp0 => by rw [wrap_i64 (by omega) (by omega)]; omega
  refine den_ev (evs_ob (by simp only [dF, dE]; omega) (evs_ob (by simp only [dF, dE]; omega) (evs_nil ?_)))
  refine den_cal [I64d (msgS m)] rfl (mval_b hb) (by simp only [dF, dE, cpM, hg]) rfl ?_
  (try simp only [List.cons_append, List.nil_append])
  refine den_ite (fun h1 => den_ret ?_) (fun h1 => ?_)
  · simp only [dF, dE] at h1
    simp only [dF, dE]
    rw [hp, hv, if_pos h1]
  simp only [dF, dE] at h1
  have hid := msg_id h1
  rw [if_neg (fun c => c h1)] at hv
  refine den_ev ?_
  refine evs_call [.bool (resB m)] rfl (isr_fn m) (by simp only [dF, dE, cpM, hg]) rfl ?_
  refine evs_nil ?_
  (try simp only [List.cons_append, List.nil_append])
  refine den_ite (fun h2 => ?_) (fun h2 => den_ret ?_)
  rotate_left
  · simp only [dF, dE] at h2
    simp only [dF, dE]
    rw [hp, hv, if_pos (.inl h2)]
  simp only [dF, dE] at h2
  refine den_ite (fun h3 => ?_) (fun h3 => ?_)
  · simp only [dF, dE] at h3
    have hp0 : 0 < i := by omega
    have hgp := getD_map (g := msD) msgZ (show i - 1 < e.se.length by omega)
    have hpr : prvM e.se i = (e.se.getD (i - 1) msgZ).id := by unfold prvM; rw [if_neg (by omega)]
    refine den_ev (evs_ob (by simp only [dF, dE, hwp hp0]; omega) (evs_ob (by simp only [dF, dE, hwp hp0]; omega) (evs_nil ?_)))
    refine den_ite (fun h4 => den_ret ?_) (fun h4 => ?_)
    · simp only [dF, dE, hg, hwp hp0, hgp] at h4
      simp only [dF, dE]
      rw [hp, hv, if_pos (.inr (by rw [hpr]; exact h4))]
    · simp only [dF, dE, hg, hwp hp0, hgp] at h4
      refine den_back rfl ⟨q, i + 1, (by simp only [dF, dE]; rw [hw]), by omega, ?_⟩ (by simp only []; simp only [dF, dE]; rw [hw]; omega)
      rw [hv, if_neg (fun c => c.elim (fun c => by rw [h2] at c; cases c) (fun c => by omega)), hprn]
  · simp only [dF, dE] at h3
    have hpr : prvM e.se i = 0 := by unfold prvM; rw [if_pos (by omega)]
    refine den_back rfl ⟨q, i + 1, (by simp only [dF, dE]; rw [hw]), by omega, ?_⟩ (by simp only []; simp only [dF, dE]; rw [hw]; omega)
    rw [hv, if_neg (fun c => c.elim (fun c => by rw [h2] at c; cases c) (fun c => by omega)), hprn]
set_option maxHeartbeats 4000000 in
theorem rval_fn (e : Ep) (he : EpB e) (hr1 : -9223372036854775808 ≤ e.rt) (hr2 : e.rt ≤ 9223372036854775807) : Fun Try.prog [] 14 [tEp] [epD e] [tI] (.ok [I64d (epS e)]) := by
  refine rval_ent _ _ ?_
  show vcrval.den _ _ _ _ _
  unfold vcrval
  refine den_ite (fun s10 => den_ret ?_) (fun s10 => ?_)
  · simp only [dF, dE] at s10
    simp only [dF, dE]
    rw [ep_2 (.inl (by unfold setB; rw [decide_eq_false_iff_not]; have := s10; omega))]
  simp only [dF, dE] at s10
  refine den_ite (fun s11 => den_ret ?_) (fun s11 => ?_)
  · simp only [dF, dE] at s11
    simp only [dF, dE]
    rw [ep_2 (.inl (by unfold setB; rw [decide_eq_false_iff_not]; have := s11; omega))]
  simp only [dF, dE] at s11
  refine den_ite (fun s12 => den_ret ?_) (fun s12 => ?_)
  · simp only [dF, dE] at s12
    simp only [dF, dE]
    rw [ep_2 (.inl (by unfold setB; rw [decide_eq_false_iff_not]; have := s12; omega))]
  simp only [dF, dE] at s12
  refine den_ite (fun s13 => den_ret ?_) (fun s13 => ?_)
  · simp only [dF, dE] at s13
    simp only [dF, dE]
    rw [ep_2 (.inl (by unfold setB; rw [decide_eq_false_iff_not]; have := s13; omega))]
  simp only [dF, dE] at s13
  refine den_ite (fun s14 => den_ret ?_) (fun s14 => ?_)
  · simp only [dF, dE] at s14
    simp only [dF, dE]
    rw [ep_2 (.inr (.inl s14))]
  simp only [dF, dE] at s14
  refine den_ite (fun s15 => den_ret ?_) (fun s15 => ?_)
  · simp only [dF, dE] at s15
    simp only [dF, dE]
    rw [ep_2 (.inr (.inr s15))]
  simp only [dF, dE] at s15
  have s1 : setB e.tm e.rt = true := by unfold setB; rw [decide_eq_true_eq]; omega
  have n1 : ¬ (setB e.tm e.rt = false ∨ e.nx < 1 ∨ 2147483648 < e.nx) := fun c => c.elim (fun c => by rw [s1] at c; cases c) (fun c => by omega)
  refine den_ite (fun s20 => den_ret ?_) (fun s20 => ?_)
  · simp only [dF, dE] at s20
    simp only [dF, dE]
    rw [ep_3 n1 (.inl s20)]
  simp only [dF, dE] at s20
  refine den_ite (fun s21 => den_ret ?_) (fun s21 => ?_)
  · simp only [dF, dE] at s21
    simp only [dF, dE]
    rw [ep_3 n1 (.inr (.inl s21))]
  simp only [dF, dE] at s21
  refine den_ite (fun s22 => den_ret ?_) (fun s22 => ?_)
  · simp only [dF, dE] at s22
    simp only [dF, dE]
    rw [ep_3 n1 (.inr (.inr s22))]
  simp only [dF, dE] at s22
  have n2 : ¬ (256 < (e.qu.length : Int) ∨ 1 < (e.ou.length : Int) ∨ 16 < (e.se.length : Int)) := by omega
  have hwr : IntKind.wrap .i64 (e.rt + 1) = e.rt + 1 := wrap_i64 (by omega) (by omega)
  have hwf : (¬ (((e.ou.length : Int) = 0 ∧ e.tr = 0 ∧ e.du = 0) ∨ ((e.ou.length : Int) ≠ 0 ∧ 1 ≤ e.tr ∧ e.tr ≤ e.rt + 1 ∧ 0 ≤ e.du ∧ e.du ≤ 268436896))) → epS e = 2 := fun c => ep_w n1 n2 (by unfold waitB; rw [decide_eq_false_iff_not]; exact c)
  refine den_join (fun xs => xs = [] ∧ ¬ ((e.ou.length : Int) = 0 ∧ ¬ (e.tr = 0 ∧ e.du = 0))) ?_ ?_
  · skip
    refine den_ite (fun h41 => ?_) (fun h41 => ?_)
    · simp only [dF, dE, hwr] at h41
      refine den_ite (fun h42 => ?_) (fun h42 => ?_)
      · simp only [dF, dE, hwr] at h42
        refine den_ret ?_
        simp only [dF, dE]
        rw [hwf (by omega)]
      · simp only [dF, dE, hwr] at h42
        refine den_ite (fun h43 => ?_) (fun h43 => ?_)
        · simp only [dF, dE, hwr] at h43
          refine den_ret ?_
          simp only [dF, dE]
          rw [hwf (by omega)]
        · simp only [dF, dE, hwr] at h43
          exact den_back rfl ⟨rfl, by omega⟩ (by simp only []; omega)
    · simp only [dF, dE, hwr] at h41
      exact den_back rfl ⟨rfl, by omega⟩ (by simp only []; omega)
  rintro _ ⟨rfl, k1⟩
  (try simp only [List.cons_append, List.nil_append])
  refine den_join (fun xs => xs = [] ∧ ¬ ((e.ou.length : Int) ≠ 0 ∧ ¬ (1 ≤ e.tr ∧ e.tr ≤ e.rt + 1 ∧ 0 ≤ e.du ∧ e.du ≤ 268436896))) ?_ ?_
  · skip
    refine den_ite (fun h41 => ?_) (fun h41 => ?_)
    · simp only [dF, dE, hwr] at h41
      refine den_ite (fun h42 => ?_) (fun h42 => ?_)
      · simp only [dF, dE, hwr] at h42
        refine den_ret ?_
        simp only [dF, dE]
        rw [hwf (by omega)]
      · simp only [dF, dE, hwr] at h42
        refine den_ite (fun h43 => ?_) (fun h43 => ?_)
        · simp only [dF, dE, hwr] at h43
          refine den_ret ?_
          simp only [dF, dE]
          rw [hwf (by omega)]
        · simp only [dF, dE, hwr] at h43
          refine den_ite (fun h44 => ?_) (fun h44 => ?_)
          · simp only [dF, dE, hwr] at h44
            refine den_ret ?_
            simp only [dF, dE]
            rw [hwf (by omega)]
          · simp only [dF, dE, hwr] at h44
            refine den_ite (fun h45 => ?_) (fun h45 => ?_)
            · simp only [dF, dE, hwr] at h45
              refine den_ret ?_
              simp only [dF, dE]
              rw [hwf (by omega)]
            · simp only [dF, dE, hwr] at h45
              exact den_back rfl ⟨rfl, by omega⟩ (by simp only []; omega)
    · simp only [dF, dE, hwr] at h41
      exact den_back rfl ⟨rfl, by omega⟩ (by simp only []; omega)
  rintro _ ⟨rfl, k2⟩
  (try simp only [List.cons_append, List.nil_append])
  have s7 : waitB e = true := by unfold waitB; rw [decide_eq_true_eq]; omega
  have hp := ep_p n1 n2 s7
  refine den_cal [msgsD (e.ou ++ e.qu)] rfl (calls_fn e (by omega)) rfl rfl ?_
  (try simp only [List.cons_append, List.nil_append])
  have hbL : ∀ m ∈ e.ou ++ e.qu, MsB m := fun m hm => (List.mem_append.1 hm).elim (he.o m) (he.q m)
  have hlL : (e.ou ++ e.qu).length ≤ 300 := by rw [List.length_append]; omega
  generalize e.ou ++ e.qu = L at hp hbL hlL ⊢
  refine den_loopI (fun xs => ∃ (i : Nat), xs = [I64d i] ∧ i ≤ L.length ∧ callsE e.nx 0 L = callsE e.nx (prvM L i) (L.drop i)) (fun xs => L.length - (xs.getD 0 default).toI.toNat) ⟨0, rfl, Nat.zero_le _, rfl⟩ ?_
  rintro _ ⟨i, rfl, hi, hv2⟩
  (try simp only [List.cons_append, List.nil_append])
  refine den_ite (fun h => ?_) (fun h => ?_)
  · simp only [dF, dE] at h
    have hi' : i < L.length := by omega
    have hg := getD_map (g := msD) msgZ hi'
    have hb := hbL _ (EpB.mem hi')
    have hprn : prvM L (i + 1) = (L.getD i msgZ).id := by unfold prvM; rw [if_neg (by omega)]; rfl
    rw [drop_get msgZ hi', callsE] at hv2
    generalize L.getD i msgZ = m at hg hb hv2 hprn
    have hw : IntKind.wrap .i64 ((i : Int) + 1) = ((i + 1 : Nat) : Int) := by rw [wrap_i64 (by omega) (by omega)]; omega
    have hwp : 0 < i → IntKind.wrap .i64 ((i : Int) - 1) = ((i - 1 : Nat) : Int) := fun hp0 => by rw [wrap_i64 (by omega) (by omega)]; omega
    refine den_ev (evs_ob (by simp only [dF, dE]; omega) (evs_ob (by simp only [dF, dE]; omega) (evs_nil ?_)))
    refine den_cal [I64d (msgS m)] rfl (rmval_b hb) (by simp only [dF, dE, cpM, hg]) rfl ?_
    (try simp only [List.cons_append, List.nil_append])
    refine den_ite (fun h1 => den_ret ?_) (fun h1 => ?_)
    · simp only [dF, dE] at h1
      rw [if_pos h1] at hv2
      simp only [dF, dE]
      rw [hp, if_pos (by rw [hv2]; exact h1), hv2]
    simp only [dF, dE] at h1
    have hid := msg_id h1
    rw [if_neg (fun c => c h1)] at hv2
    refine den_ev (evs_ob (by simp only [dF, dE]; omega) (evs_ob (by simp only [dF, dE]; omega) (evs_nil ?_)))
    refine den_ite (fun h2 => den_ret ?_) (fun h2 => ?_)
    · simp only [dF, dE, hg] at h2
      rw [if_pos (.inl h2)] at hv2
      simp only [dF, dE]
      rw [hp, if_pos (by rw [hv2]; decide), hv2]
    simp only [dF, dE, hg] at h2
    refine den_ev (evs_ob (by simp only [dF, dE]; omega) (evs_ob (by simp only [dF, dE]; omega) (evs_nil ?_)))
    refine den_ite (fun h4 => den_ret ?_) (fun h4 => ?_)
    · simp only [dF, dE, hg] at h4
      rw [if_pos (.inr (.inr h4))] at hv2
      simp only [dF, dE]
      rw [hp, if_pos (by rw [hv2]; decide), hv2]
    simp only [dF, dE, hg] at h4
    refine den_ite (fun h5 => ?_) (fun h5 => ?_)
    · simp only [dF, dE] at h5
      have hp0 : 0 < i := by omega
      have hgp := getD_map (g := msD) msgZ (show i - 1 < L.length by omega)
      have hpr : prvM L i = (L.getD (i - 1) msgZ).id := by unfold prvM; rw [if_neg (by omega)]
      refine den_ev (evs_ob (by simp only [dF, dE]; omega) (evs_ob (by simp only [dF, dE]; omega) (evs_ob (by simp only [dF, dE, hwp hp0]; omega) (evs_ob (by simp only [dF, dE, hwp hp0]; omega) (evs_nil ?_)))))
      refine den_ite (fun h6 => den_ret ?_) (fun h6 => ?_)
      · simp only [dF, dE, hg, hwp hp0, hgp] at h6
        rw [if_pos (.inr (.inl (by rw [hpr]; exact h6)))] at hv2
        simp only [dF, dE]
        rw [hp, if_pos (by rw [hv2]; decide), hv2]
      · simp only [dF, dE, hg, hwp hp0, hgp] at h6
        rw [if_neg (by rw [hpr]; omega), ← hprn] at hv2
        exact den_back rfl ⟨i + 1, (by simp only [dF, dE]; rw [hw]), by omega, hv2⟩ (by simp only []; simp only [dF, dE]; rw [hw]; omega)
    · simp only [dF, dE] at h5
      have hpr : prvM L i = 0 := by unfold prvM; rw [if_pos (by omega)]
      rw [if_neg (by rw [hpr]; omega), ← hprn] at hv2
      exact den_back rfl ⟨i + 1, (by simp only [dF, dE]; rw [hw]), by omega, hv2⟩ (by simp only []; simp only [dF, dE]; rw [hw]; omega)
  simp only [dF, dE] at h
  have hil : i = L.length := by omega
  subst hil
  rw [List.drop_length] at hv2
  have hv : callsE e.nx 0 L = 0 := hv2
  rw [if_neg (fun c => c hv)] at hp
  clear hv2
  refine den_loopI (fun xs => ∃ (i : Nat), xs = [I64d i] ∧ i ≤ e.se.length ∧ seenE 0 e.se = seenE (prvM e.se i) (e.se.drop i)) (fun xs => e.se.length - (xs.getD 0 default).toI.toNat) ⟨0, rfl, Nat.zero_le _, rfl⟩ ?_
  rintro _ ⟨i, rfl, hi, hv⟩
  (try simp only [List.cons_append, List.nil_append])
  refine den_ite (fun h => ?_) (fun h => den_ret ?_)
  rotate_left
  · simp only [dF, dE] at h
    have : i = e.se.length := by omega
    subst this
    rw [List.drop_length] at hv
    simp only [dF, dE]
    rw [hp, hv]
    rfl
  simp only [dF, dE] at h
  have hi' : i < e.se.length := by omega
  have hg := getD_map (g := msD) msgZ hi'
  have hb := he.s _ (EpB.mem hi')
  have hprn : prvM e.se (i + 1) = (e.se.getD i msgZ).id := by unfold prvM; rw [if_neg (by omega)]; rfl
  rw [drop_get msgZ hi', seenE] at hv
  generalize e.se.getD i msgZ = m at hg hb hprn hv
  have hw : IntKind.wrap .i64 ((i : Int) + 1) = ((i + 1 : Nat) : Int) := by rw [wrap_i64 (by omega) (by omega)]; omega
  have hwp : 0 < i → IntKind.wrap .i64 ((i : Int) - 1) = ((i - 1 : Nat) : Int) := fun hp0 => by rw [wrap_i64 (by omega) (by omega)]; omega
  refine den_ev (evs_ob (by simp only [dF, dE]; omega) (evs_ob (by simp only [dF, dE]; omega) (evs_nil ?_)))
  refine den_cal [I64d (msgS m)] rfl (rmval_b hb) (by simp only [dF, dE, cpM, hg]) rfl ?_
  (try simp only [List.cons_append, List.nil_append])
  refine den_ite (fun h1 => den_ret ?_) (fun h1 => ?_)
  · simp only [dF, dE] at h1
    simp only [dF, dE]
    rw [hp, hv, if_pos h1]
  simp only [dF, dE] at h1
  have hid := msg_id h1
  rw [if_neg (fun c => c h1)] at hv
  refine den_ev (evs_ob (by simp only [dF, dE]; omega) (evs_ob (by simp only [dF, dE]; omega) ?_))
  refine evs_call [.bool (resB m)] rfl (risr_fn m) (by simp only [dF, dE, cpM, hg]) rfl ?_
  refine evs_nil ?_
  (try simp only [List.cons_append, List.nil_append])
  refine den_ite (fun h2 => ?_) (fun h2 => den_ret ?_)
  rotate_left
  · simp only [dF, dE] at h2
    simp only [dF, dE]
    rw [hp, hv, if_pos (.inl h2)]
  simp only [dF, dE] at h2
  refine den_ite (fun h3 => ?_) (fun h3 => ?_)
  · simp only [dF, dE] at h3
    have hp0 : 0 < i := by omega
    have hgp := getD_map (g := msD) msgZ (show i - 1 < e.se.length by omega)
    have hpr : prvM e.se i = (e.se.getD (i - 1) msgZ).id := by unfold prvM; rw [if_neg (by omega)]
    refine den_ev (evs_ob (by simp only [dF, dE]; omega) (evs_ob (by simp only [dF, dE]; omega) (evs_ob (by simp only [dF, dE, hwp hp0]; omega) (evs_ob (by simp only [dF, dE, hwp hp0]; omega) (evs_nil ?_)))))
    refine den_ite (fun h4 => den_ret ?_) (fun h4 => ?_)
    · simp only [dF, dE, hg, hwp hp0, hgp] at h4
      simp only [dF, dE]
      rw [hp, hv, if_pos (.inr (by rw [hpr]; exact h4))]
    · simp only [dF, dE, hg, hwp hp0, hgp] at h4
      refine den_back rfl ⟨i + 1, (by simp only [dF, dE]; rw [hw]), by omega, ?_⟩ (by simp only []; simp only [dF, dE]; rw [hw]; omega)
      rw [hv, if_neg (fun c => c.elim (fun c => by rw [h2] at c; cases c) (fun c => by omega)), hprn]
  · simp only [dF, dE] at h3
    have hpr : prvM e.se i = 0 := by unfold prvM; rw [if_pos (by omega)]
    refine den_back rfl ⟨i + 1, (by simp only [dF, dE]; rw [hw]), by omega, ?_⟩ (by simp only []; simp only [dF, dE]; rw [hw]; omega)
    rw [hv, if_neg (fun c => c.elim (fun c => by rw [h2] at c; cases c) (fun c => by omega)), hprn]

end Go.Proofs.Ytmplgfkhknhacaa.C27
set_option maxRecDepth 100000
set_option linter.unusedSimpArgs false
set_option linter.unusedVariables false
namespace Go.Proofs.Ytmplgfkhknhacaa.C27
open Go.Proofs.Ytmplgfkhknhacaa Go.Proofs.Ytmplgfkhknhacaa.Sy Go.Proofs.Ytmplgfkhknhacaa.L7 Go.Proofs.Ytmplgfkhknhacaa.Id Go.Proofs.Ytmplgfkhknhacaa.R26 Go.Proofs.Ytmplgfkhknhacaa.V26 Go.Proofs.Ytmplgfkhknhacaa.N27 Go.RowKit Go.WideShapes Go.ChangeShapes Go.ChangeAt
def callM (e : Ep) (m : Msg) : Msg := { m with ki := 1, id := e.nx }
def callV (e : Ep) (m : Msg) : Int := if 256 ≤ (e.qu.length : Int) ∨ 2147483648 ≤ e.nx then 3 else msgS (callM e m)
def callO (e : Ep) (m : Msg) : Ep := if callV e m = 0 then { e with nx := e.nx + 1, qu := e.qu ++ [callM e m] } else e
def callI (e : Ep) (m : Msg) : Int := if callV e m = 0 then e.nx else 0
theorem call_no {e : Ep} {m : Msg} {k : Int} (h : callV e m = k) (hk : k ≠ 0) : callO e m = e ∧ callI e m = 0 ∧ callV e m = k := by
  unfold callO callI
  rw [if_neg (by omega), if_neg (by omega)]
  exact ⟨rfl, rfl, h⟩
theorem call_yes {e : Ep} {m : Msg} (h : callV e m = 0) : callO e m = { e with nx := e.nx + 1, qu := e.qu ++ [callM e m] } ∧ callI e m = e.nx := by
  unfold callO callI
  rw [if_pos h, if_pos h]
  exact ⟨rfl, rfl⟩
theorem callM_b {e : Ep} {m : Msg} (hm : MsB m) (hn : inI e.nx) : MsB (callM e m) := ⟨{ hm.t with ki := (show inI 1 by unfold inI; omega), id := hn }, hm.rl, hm.pl, hm.kl⟩
set_option maxHeartbeats 1000000 in
theorem call_fn (e : Ep) (m : Msg) (he : EpB e) (hm : MsB m) (hn : inI e.nx) : Fun Try.prog [] 19 [tEp, tM] [epD e, msD m] [tEp, tI, tI] (.ok [epD (callO e m), I64d (callI e m), I64d (callV e m)]) := by
  have hmc := callM_b hm hn
  have hql := he.ql
  refine call_ent _ _ ?_
  show vccall.den _ _ _ _ _
  unfold vccall
  refine den_ite (fun h1 => den_ret ?_) (fun h1 => ?_)
  · simp only [dF, dE] at h1
    obtain ⟨q1, q2, q3⟩ := call_no (e := e) (m := m) (k := 3) (by unfold callV; rw [if_pos (.inl h1)]) (by decide)
    simp only [dF, dE]
    rw [q1, q2, q3]
  simp only [dF, dE] at h1
  refine den_ite (fun h2 => den_ret ?_) (fun h2 => ?_)
  · simp only [dF, dE] at h2
    obtain ⟨q1, q2, q3⟩ := call_no (e := e) (m := m) (k := 3) (by unfold callV; rw [if_pos (.inr h2)]) (by decide)
    simp only [dF, dE]
    rw [q1, q2, q3]
  simp only [dF, dE] at h2
  have hcv : callV e m = msgS (callM e m) := by unfold callV; rw [if_neg (by omega)]
  refine den_cal [I64d (msgS (callM e m))] rfl (mval_b hmc) rfl rfl ?_
  (try simp only [List.cons_append, List.nil_append])
  refine den_ite (fun h3 => den_ret ?_) (fun h3 => ?_)
  · simp only [dF, dE] at h3
    obtain ⟨q1, q2, q3⟩ := call_no hcv h3
    simp only [dF, dE]
    rw [q1, q2, q3]
  simp only [dF, dE] at h3
  obtain ⟨q1, q2⟩ := call_yes (by rw [hcv]; exact h3 : callV e m = 0)
  have q3 : callV e m = 0 := by rw [hcv]; exact h3
  have hid := msg_id h3
  have hid1 : (callM e m).id = e.nx := rfl
  have hw : IntKind.wrap .i64 (e.nx + 1) = e.nx + 1 := wrap_i64 (by omega) (by omega)
  refine den_cal (epL e) rfl (cop_fn e he) rfl rfl ?_
  (try simp only [List.cons_append, List.nil_append])
  refine den_cal [msgsD [callM e m]] rfl (coll_fn [callM e m] (by simp) (fun x hx => by rw [List.mem_singleton.1 hx]; exact hmc)) rfl rfl ?_
  (try simp only [List.cons_append, List.nil_append])
  refine den_ev (evs_ob (by simp only [dF, dE]; omega) (evs_nil (den_ret ?_)))
  simp only [dF, dE]
  rw [q1, q2, q3, hw]
  simp
set_option maxHeartbeats 1000000 in
theorem rcall_fn (e : Ep) (m : Msg) (he : EpB e) (hm : MsB m) (hn : inI e.nx) : Fun Try.prog [] 20 [tEp, tM] [epD e, msD m] [tEp, tI, tI] (.ok [epD (callO e m), I64d (callI e m), I64d (callV e m)]) := by
  have hmc := callM_b hm hn
  have hql := he.ql
  refine rcall_ent _ _ ?_
  show vcrcall.den _ _ _ _ _
  unfold vcrcall
  refine den_ite (fun h1 => den_ret ?_) (fun h1 => ?_)
  · simp only [dF, dE] at h1
    obtain ⟨q1, q2, q3⟩ := call_no (e := e) (m := m) (k := 3) (by unfold callV; rw [if_pos (.inl h1)]) (by decide)
    simp only [dF, dE]
    rw [q1, q2, q3]
  simp only [dF, dE] at h1
  refine den_ite (fun h2 => den_ret ?_) (fun h2 => ?_)
  · simp only [dF, dE] at h2
    obtain ⟨q1, q2, q3⟩ := call_no (e := e) (m := m) (k := 3) (by unfold callV; rw [if_pos (.inr h2)]) (by decide)
    simp only [dF, dE]
    rw [q1, q2, q3]
  simp only [dF, dE] at h2
  have hcv : callV e m = msgS (callM e m) := by unfold callV; rw [if_neg (by omega)]
  refine den_cal [I64d (msgS (callM e m))] rfl (rmval_b hmc) rfl rfl ?_
  (try simp only [List.cons_append, List.nil_append])
  refine den_ite (fun h3 => den_ret ?_) (fun h3 => ?_)
  · simp only [dF, dE] at h3
    obtain ⟨q1, q2, q3⟩ := call_no hcv h3
    simp only [dF, dE]
    rw [q1, q2, q3]
  simp only [dF, dE] at h3
  obtain ⟨q1, q2⟩ := call_yes (by rw [hcv]; exact h3 : callV e m = 0)
  have q3 : callV e m = 0 := by rw [hcv]; exact h3
  have hid := msg_id h3
  have hid1 : (callM e m).id = e.nx := rfl
  have hw : IntKind.wrap .i64 (e.nx + 1) = e.nx + 1 := wrap_i64 (by omega) (by omega)
  refine den_cal [msgsD (e.qu ++ [callM e m])] rfl (with_fn e.qu (callM e m) (by omega)) rfl rfl (den_ret ?_)
  simp only [dF, dE]
  rw [q1, q2, q3, hw]

def nextQ (e : Ep) (now : Int) : Ep × List Msg := match e.qu with
  | [] => ({ e with du := 0, tr := 0 }, [])
  | q :: r => ({ e with qu := r, ou := [q], du := now + e.tm, tr := 1 }, [q])
def sendR (e : Ep) (now : Int) : Ep × List Msg × List Msg :=
  if now < 0 ∨ 268435456 < now then (e, [], []) else match e.ou with
  | [] => ((nextQ e now).1, (nextQ e now).2, [])
  | o :: _ => if e.du ≤ now then (if e.tr ≤ e.rt then ({ e with du := now + e.tm, tr := e.tr + 1 }, [o], []) else ((nextQ { e with ou := [] } now).1, (nextQ { e with ou := [] } now).2, [o])) else (e, [], [])
set_option maxHeartbeats 1000000 in
theorem send00 (nx tm rt du tr : Int) (se : List Msg) (now : Int) (he : EpB ⟨nx, tm, rt, [], [], du, tr, se⟩) (b1 : 0 ≤ tm) (b2 : tm ≤ 1000000) (b3 : 0 ≤ tr) (b4 : tr ≤ 1000000) : Fun Try.prog [] 21 [tEp, tI] [epD ⟨nx, tm, rt, [], [], du, tr, se⟩, I64d now] [tEp, tMs, tMs] (.ok [epD (sendR ⟨nx, tm, rt, [], [], du, tr, se⟩ now).1, msgsD (sendR ⟨nx, tm, rt, [], [], du, tr, se⟩ now).2.1, msgsD (sendR ⟨nx, tm, rt, [], [], du, tr, se⟩ now).2.2]) := by
  have hwt : IntKind.wrap .i64 (tr + 1) = tr + 1 := wrap_i64 (by omega) (by omega)
  refine send_ent _ _ ?_
  show vcsend.den _ _ _ _ _
  unfold vcsend
  refine den_ite (fun h1 => ?_) (fun h1 => ?_)
  · simp only [dF, dE] at h1
    refine den_ret ?_
    have hs : sendR ⟨nx, tm, rt, [], [], du, tr, se⟩ now = (⟨nx, tm, rt, [], [], du, tr, se⟩, [], []) := by (unfold sendR; first | (rw [if_pos (by omega)]; done) | (rw [if_neg (by omega)]; simp only [nextQ]; done) | (rw [if_neg (by omega)]; simp only [nextQ]; rw [if_pos (by omega), if_pos (by omega)]; done) | (rw [if_neg (by omega)]; simp only [nextQ]; rw [if_pos (by omega), if_neg (by omega)]; done) | (rw [if_neg (by omega)]; simp only [nextQ]; rw [if_neg (by omega)]; done))
    (first | (have hwa : IntKind.wrap .i64 (now + tm) = now + tm := wrap_i64 (by omega) (by omega); simp only [dF, dE, hwa, hwt]) | simp only [dF, dE, hwt])
    rw [hs]
    (try simp [List.take_of_length_le])
  · simp only [dF, dE] at h1
    refine den_ite (fun h2 => ?_) (fun h2 => ?_)
    · simp only [dF, dE] at h2
      refine den_ret ?_
      have hs : sendR ⟨nx, tm, rt, [], [], du, tr, se⟩ now = (⟨nx, tm, rt, [], [], du, tr, se⟩, [], []) := by (unfold sendR; first | (rw [if_pos (by omega)]; done) | (rw [if_neg (by omega)]; simp only [nextQ]; done) | (rw [if_neg (by omega)]; simp only [nextQ]; rw [if_pos (by omega), if_pos (by omega)]; done) | (rw [if_neg (by omega)]; simp only [nextQ]; rw [if_pos (by omega), if_neg (by omega)]; done) | (rw [if_neg (by omega)]; simp only [nextQ]; rw [if_neg (by omega)]; done))
      (first | (have hwa : IntKind.wrap .i64 (now + tm) = now + tm := wrap_i64 (by omega) (by omega); simp only [dF, dE, hwa, hwt]) | simp only [dF, dE, hwt])
      rw [hs]
      (try simp [List.take_of_length_le])
    · simp only [dF, dE] at h2
      refine den_cal [I64d (nx), I64d (tm), I64d (rt), msgsD ([]), msgsD ([]), I64d (du), I64d (tr), msgsD (se)] rfl (cop_fn _ he) rfl rfl ?_
      refine den_f (by simp only [dF, dE]; omega) ?_
      refine den_f (by simp only [dF, dE]; omega) ?_
      refine den_f (by simp only [dF, dE]; omega) ?_
      refine den_ret ?_
      have hs : sendR ⟨nx, tm, rt, [], [], du, tr, se⟩ now = (⟨nx, tm, rt, [], [], 0, 0, se⟩, [], []) := by (unfold sendR; first | (rw [if_pos (by omega)]; done) | (rw [if_neg (by omega)]; simp only [nextQ]; done) | (rw [if_neg (by omega)]; simp only [nextQ]; rw [if_pos (by omega), if_pos (by omega)]; done) | (rw [if_neg (by omega)]; simp only [nextQ]; rw [if_pos (by omega), if_neg (by omega)]; done) | (rw [if_neg (by omega)]; simp only [nextQ]; rw [if_neg (by omega)]; done))
      (first | (have hwa : IntKind.wrap .i64 (now + tm) = now + tm := wrap_i64 (by omega) (by omega); simp only [dF, dE, hwa, hwt]) | simp only [dF, dE, hwt])
      rw [hs]
      (try simp [List.take_of_length_le])
set_option maxHeartbeats 1000000 in
theorem send01 (nx tm rt du tr : Int) (se : List Msg) (now : Int) (q : Msg) (r : List Msg) (hq : MsB q) (hqb : ∀ x ∈ q :: r, MsB x) (hrl : r.length ≤ 4294967000) (he : EpB ⟨nx, tm, rt, (q :: r), [], du, tr, se⟩) (b1 : 0 ≤ tm) (b2 : tm ≤ 1000000) (b3 : 0 ≤ tr) (b4 : tr ≤ 1000000) : Fun Try.prog [] 21 [tEp, tI] [epD ⟨nx, tm, rt, (q :: r), [], du, tr, se⟩, I64d now] [tEp, tMs, tMs] (.ok [epD (sendR ⟨nx, tm, rt, (q :: r), [], du, tr, se⟩ now).1, msgsD (sendR ⟨nx, tm, rt, (q :: r), [], du, tr, se⟩ now).2.1, msgsD (sendR ⟨nx, tm, rt, (q :: r), [], du, tr, se⟩ now).2.2]) := by
  have hwt : IntKind.wrap .i64 (tr + 1) = tr + 1 := wrap_i64 (by omega) (by omega)
  refine send_ent _ _ ?_
  show vcsend.den _ _ _ _ _
  unfold vcsend
  refine den_ite (fun h1 => ?_) (fun h1 => ?_)
  · simp only [dF, dE] at h1
    refine den_ret ?_
    have hs : sendR ⟨nx, tm, rt, (q :: r), [], du, tr, se⟩ now = (⟨nx, tm, rt, (q :: r), [], du, tr, se⟩, [], []) := by (unfold sendR; first | (rw [if_pos (by omega)]; done) | (rw [if_neg (by omega)]; simp only [nextQ]; done) | (rw [if_neg (by omega)]; simp only [nextQ]; rw [if_pos (by omega), if_pos (by omega)]; done) | (rw [if_neg (by omega)]; simp only [nextQ]; rw [if_pos (by omega), if_neg (by omega)]; done) | (rw [if_neg (by omega)]; simp only [nextQ]; rw [if_neg (by omega)]; done))
    (first | (have hwa : IntKind.wrap .i64 (now + tm) = now + tm := wrap_i64 (by omega) (by omega); simp only [dF, dE, hwa, hwt]) | simp only [dF, dE, hwt])
    rw [hs]
    (try simp [List.take_of_length_le])
  · simp only [dF, dE] at h1
    refine den_ite (fun h2 => ?_) (fun h2 => ?_)
    · simp only [dF, dE] at h2
      refine den_ret ?_
      have hs : sendR ⟨nx, tm, rt, (q :: r), [], du, tr, se⟩ now = (⟨nx, tm, rt, (q :: r), [], du, tr, se⟩, [], []) := by (unfold sendR; first | (rw [if_pos (by omega)]; done) | (rw [if_neg (by omega)]; simp only [nextQ]; done) | (rw [if_neg (by omega)]; simp only [nextQ]; rw [if_pos (by omega), if_pos (by omega)]; done) | (rw [if_neg (by omega)]; simp only [nextQ]; rw [if_pos (by omega), if_neg (by omega)]; done) | (rw [if_neg (by omega)]; simp only [nextQ]; rw [if_neg (by omega)]; done))
      (first | (have hwa : IntKind.wrap .i64 (now + tm) = now + tm := wrap_i64 (by omega) (by omega); simp only [dF, dE, hwa, hwt]) | simp only [dF, dE, hwt])
      rw [hs]
      (try simp [List.take_of_length_le])
    · simp only [dF, dE] at h2
      refine den_cal [I64d (nx), I64d (tm), I64d (rt), msgsD ((q :: r)), msgsD ([]), I64d (du), I64d (tr), msgsD (se)] rfl (cop_fn _ he) rfl rfl ?_
      refine den_f (by simp only [dF, dE]; omega) ?_
      refine den_f (by simp only [dF, dE]; omega) ?_
      refine den_t (by simp only [dF, dE]; omega) ?_
      refine den_ev ?_
      refine evs_ob (by simp only [dF, dE]; omega) ?_
      refine evs_nil ?_
      refine den_cal [msgsD ([q])] rfl (coll_fn [q] (by simp) (fun x hx => by simp only [List.mem_cons, List.not_mem_nil, or_false] at hx; (first | (subst hx; assumption) | (rcases hx with rfl | rfl <;> assumption)))) rfl rfl ?_
      refine den_ev ?_
      refine evs_ob (by simp only [dF, dE]; omega) ?_
      refine evs_nil ?_
      refine den_cal [msgsD ([q])] rfl (coll_fn [q] (by simp) (fun x hx => by simp only [List.mem_cons, List.not_mem_nil, or_false] at hx; (first | (subst hx; assumption) | (rcases hx with rfl | rfl <;> assumption)))) rfl rfl ?_
      refine den_ev ?_
      refine evs_ob (by simp only [dF, dE]; omega) ?_
      refine evs_nil ?_
      refine den_cal [msgsD (r)] rfl (coll_fn r (by omega) (fun x hx => hqb x (by simp [hx]))) (by simp only [dF, dE]; simp [List.take_of_length_le]) rfl ?_
      refine den_ret ?_
      have hs : sendR ⟨nx, tm, rt, (q :: r), [], du, tr, se⟩ now = (⟨nx, tm, rt, r, [q], now + tm, 1, se⟩, [q], []) := by (unfold sendR; first | (rw [if_pos (by omega)]; done) | (rw [if_neg (by omega)]; simp only [nextQ]; done) | (rw [if_neg (by omega)]; simp only [nextQ]; rw [if_pos (by omega), if_pos (by omega)]; done) | (rw [if_neg (by omega)]; simp only [nextQ]; rw [if_pos (by omega), if_neg (by omega)]; done) | (rw [if_neg (by omega)]; simp only [nextQ]; rw [if_neg (by omega)]; done))
      (first | (have hwa : IntKind.wrap .i64 (now + tm) = now + tm := wrap_i64 (by omega) (by omega); simp only [dF, dE, hwa, hwt]) | simp only [dF, dE, hwt])
      rw [hs]
      (try simp [List.take_of_length_le])
set_option maxHeartbeats 1000000 in
theorem send10 (nx tm rt du tr : Int) (se : List Msg) (now : Int) (o : Msg) (ho : MsB o) (he : EpB ⟨nx, tm, rt, [], [o], du, tr, se⟩) (b1 : 0 ≤ tm) (b2 : tm ≤ 1000000) (b3 : 0 ≤ tr) (b4 : tr ≤ 1000000) : Fun Try.prog [] 21 [tEp, tI] [epD ⟨nx, tm, rt, [], [o], du, tr, se⟩, I64d now] [tEp, tMs, tMs] (.ok [epD (sendR ⟨nx, tm, rt, [], [o], du, tr, se⟩ now).1, msgsD (sendR ⟨nx, tm, rt, [], [o], du, tr, se⟩ now).2.1, msgsD (sendR ⟨nx, tm, rt, [], [o], du, tr, se⟩ now).2.2]) := by
  have hwt : IntKind.wrap .i64 (tr + 1) = tr + 1 := wrap_i64 (by omega) (by omega)
  refine send_ent _ _ ?_
  show vcsend.den _ _ _ _ _
  unfold vcsend
  refine den_ite (fun h1 => ?_) (fun h1 => ?_)
  · simp only [dF, dE] at h1
    refine den_ret ?_
    have hs : sendR ⟨nx, tm, rt, [], [o], du, tr, se⟩ now = (⟨nx, tm, rt, [], [o], du, tr, se⟩, [], []) := by (unfold sendR; first | (rw [if_pos (by omega)]; done) | (rw [if_neg (by omega)]; simp only [nextQ]; done) | (rw [if_neg (by omega)]; simp only [nextQ]; rw [if_pos (by omega), if_pos (by omega)]; done) | (rw [if_neg (by omega)]; simp only [nextQ]; rw [if_pos (by omega), if_neg (by omega)]; done) | (rw [if_neg (by omega)]; simp only [nextQ]; rw [if_neg (by omega)]; done))
    (first | (have hwa : IntKind.wrap .i64 (now + tm) = now + tm := wrap_i64 (by omega) (by omega); simp only [dF, dE, hwa, hwt]) | simp only [dF, dE, hwt])
    rw [hs]
    (try simp [List.take_of_length_le])
  · simp only [dF, dE] at h1
    refine den_ite (fun h2 => ?_) (fun h2 => ?_)
    · simp only [dF, dE] at h2
      refine den_ret ?_
      have hs : sendR ⟨nx, tm, rt, [], [o], du, tr, se⟩ now = (⟨nx, tm, rt, [], [o], du, tr, se⟩, [], []) := by (unfold sendR; first | (rw [if_pos (by omega)]; done) | (rw [if_neg (by omega)]; simp only [nextQ]; done) | (rw [if_neg (by omega)]; simp only [nextQ]; rw [if_pos (by omega), if_pos (by omega)]; done) | (rw [if_neg (by omega)]; simp only [nextQ]; rw [if_pos (by omega), if_neg (by omega)]; done) | (rw [if_neg (by omega)]; simp only [nextQ]; rw [if_neg (by omega)]; done))
      (first | (have hwa : IntKind.wrap .i64 (now + tm) = now + tm := wrap_i64 (by omega) (by omega); simp only [dF, dE, hwa, hwt]) | simp only [dF, dE, hwt])
      rw [hs]
      (try simp [List.take_of_length_le])
    · simp only [dF, dE] at h2
      refine den_cal [I64d (nx), I64d (tm), I64d (rt), msgsD ([]), msgsD ([o]), I64d (du), I64d (tr), msgsD (se)] rfl (cop_fn _ he) rfl rfl ?_
      refine den_t (by simp only [dF, dE]; omega) ?_
      refine den_ite (fun h3 => ?_) (fun h3 => ?_)
      · simp only [dF, dE] at h3
        refine den_ite (fun h4 => ?_) (fun h4 => ?_)
        · simp only [dF, dE] at h4
          refine den_ev ?_
          refine evs_ob (by simp only [dF, dE]; omega) ?_
          refine evs_nil ?_
          refine den_cal [msgsD ([o])] rfl (coll_fn [o] (by simp) (fun x hx => by simp only [List.mem_cons, List.not_mem_nil, or_false] at hx; (first | (subst hx; assumption) | (rcases hx with rfl | rfl <;> assumption)))) rfl rfl ?_
          refine den_t (by simp only [dF, dE]; omega) ?_
          refine den_ret ?_
          have hs : sendR ⟨nx, tm, rt, [], [o], du, tr, se⟩ now = (⟨nx, tm, rt, [], [o], now + tm, tr + 1, se⟩, [o], []) := by (unfold sendR; first | (rw [if_pos (by omega)]; done) | (rw [if_neg (by omega)]; simp only [nextQ]; done) | (rw [if_neg (by omega)]; simp only [nextQ]; rw [if_pos (by omega), if_pos (by omega)]; done) | (rw [if_neg (by omega)]; simp only [nextQ]; rw [if_pos (by omega), if_neg (by omega)]; done) | (rw [if_neg (by omega)]; simp only [nextQ]; rw [if_neg (by omega)]; done))
          (first | (have hwa : IntKind.wrap .i64 (now + tm) = now + tm := wrap_i64 (by omega) (by omega); simp only [dF, dE, hwa, hwt]) | simp only [dF, dE, hwt])
          rw [hs]
          (try simp [List.take_of_length_le])
        · simp only [dF, dE] at h4
          refine den_ev ?_
          refine evs_ob (by simp only [dF, dE]; omega) ?_
          refine evs_nil ?_
          refine den_cal [msgsD ([o])] rfl (coll_fn [o] (by simp) (fun x hx => by simp only [List.mem_cons, List.not_mem_nil, or_false] at hx; (first | (subst hx; assumption) | (rcases hx with rfl | rfl <;> assumption)))) rfl rfl ?_
          refine den_f (by simp only [dF, dE]; omega) ?_
          refine den_ret ?_
          have hs : sendR ⟨nx, tm, rt, [], [o], du, tr, se⟩ now = (⟨nx, tm, rt, [], [], 0, 0, se⟩, [], [o]) := by (unfold sendR; first | (rw [if_pos (by omega)]; done) | (rw [if_neg (by omega)]; simp only [nextQ]; done) | (rw [if_neg (by omega)]; simp only [nextQ]; rw [if_pos (by omega), if_pos (by omega)]; done) | (rw [if_neg (by omega)]; simp only [nextQ]; rw [if_pos (by omega), if_neg (by omega)]; done) | (rw [if_neg (by omega)]; simp only [nextQ]; rw [if_neg (by omega)]; done))
          (first | (have hwa : IntKind.wrap .i64 (now + tm) = now + tm := wrap_i64 (by omega) (by omega); simp only [dF, dE, hwa, hwt]) | simp only [dF, dE, hwt])
          rw [hs]
          (try simp [List.take_of_length_le])
      · simp only [dF, dE] at h3
        refine den_t (by simp only [dF, dE]; omega) ?_
        refine den_ret ?_
        have hs : sendR ⟨nx, tm, rt, [], [o], du, tr, se⟩ now = (⟨nx, tm, rt, [], [o], du, tr, se⟩, [], []) := by (unfold sendR; first | (rw [if_pos (by omega)]; done) | (rw [if_neg (by omega)]; simp only [nextQ]; done) | (rw [if_neg (by omega)]; simp only [nextQ]; rw [if_pos (by omega), if_pos (by omega)]; done) | (rw [if_neg (by omega)]; simp only [nextQ]; rw [if_pos (by omega), if_neg (by omega)]; done) | (rw [if_neg (by omega)]; simp only [nextQ]; rw [if_neg (by omega)]; done))
        (first | (have hwa : IntKind.wrap .i64 (now + tm) = now + tm := wrap_i64 (by omega) (by omega); simp only [dF, dE, hwa, hwt]) | simp only [dF, dE, hwt])
        rw [hs]
        (try simp [List.take_of_length_le])
set_option maxHeartbeats 1000000 in
theorem send11 (nx tm rt du tr : Int) (se : List Msg) (now : Int) (o : Msg) (ho : MsB o) (q : Msg) (r : List Msg) (hq : MsB q) (hqb : ∀ x ∈ q :: r, MsB x) (hrl : r.length ≤ 4294967000) (he : EpB ⟨nx, tm, rt, (q :: r), [o], du, tr, se⟩) (b1 : 0 ≤ tm) (b2 : tm ≤ 1000000) (b3 : 0 ≤ tr) (b4 : tr ≤ 1000000) : Fun Try.prog [] 21 [tEp, tI] [epD ⟨nx, tm, rt, (q :: r), [o], du, tr, se⟩, I64d now] [tEp, tMs, tMs] (.ok [epD (sendR ⟨nx, tm, rt, (q :: r), [o], du, tr, se⟩ now).1, msgsD (sendR ⟨nx, tm, rt, (q :: r), [o], du, tr, se⟩ now).2.1, msgsD (sendR ⟨nx, tm, rt, (q :: r), [o], du, tr, se⟩ now).2.2]) := by
  have hwt : IntKind.wrap .i64 (tr + 1) = tr + 1 := wrap_i64 (by omega) (by omega)
  refine send_ent _ _ ?_
  show vcsend.den _ _ _ _ _
  unfold vcsend
  refine den_ite (fun h1 => ?_) (fun h1 => ?_)
  · simp only [dF, dE] at h1
    refine den_ret ?_
    have hs : sendR ⟨nx, tm, rt, (q :: r), [o], du, tr, se⟩ now = (⟨nx, tm, rt, (q :: r), [o], du, tr, se⟩, [], []) := by (unfold sendR; first | (rw [if_pos (by omega)]; done) | (rw [if_neg (by omega)]; simp only [nextQ]; done) | (rw [if_neg (by omega)]; simp only [nextQ]; rw [if_pos (by omega), if_pos (by omega)]; done) | (rw [if_neg (by omega)]; simp only [nextQ]; rw [if_pos (by omega), if_neg (by omega)]; done) | (rw [if_neg (by omega)]; simp only [nextQ]; rw [if_neg (by omega)]; done))
    (first | (have hwa : IntKind.wrap .i64 (now + tm) = now + tm := wrap_i64 (by omega) (by omega); simp only [dF, dE, hwa, hwt]) | simp only [dF, dE, hwt])
    rw [hs]
    (try simp [List.take_of_length_le])
  · simp only [dF, dE] at h1
    refine den_ite (fun h2 => ?_) (fun h2 => ?_)
    · simp only [dF, dE] at h2
      refine den_ret ?_
      have hs : sendR ⟨nx, tm, rt, (q :: r), [o], du, tr, se⟩ now = (⟨nx, tm, rt, (q :: r), [o], du, tr, se⟩, [], []) := by (unfold sendR; first | (rw [if_pos (by omega)]; done) | (rw [if_neg (by omega)]; simp only [nextQ]; done) | (rw [if_neg (by omega)]; simp only [nextQ]; rw [if_pos (by omega), if_pos (by omega)]; done) | (rw [if_neg (by omega)]; simp only [nextQ]; rw [if_pos (by omega), if_neg (by omega)]; done) | (rw [if_neg (by omega)]; simp only [nextQ]; rw [if_neg (by omega)]; done))
      (first | (have hwa : IntKind.wrap .i64 (now + tm) = now + tm := wrap_i64 (by omega) (by omega); simp only [dF, dE, hwa, hwt]) | simp only [dF, dE, hwt])
      rw [hs]
      (try simp [List.take_of_length_le])
    · simp only [dF, dE] at h2
      refine den_cal [I64d (nx), I64d (tm), I64d (rt), msgsD ((q :: r)), msgsD ([o]), I64d (du), I64d (tr), msgsD (se)] rfl (cop_fn _ he) rfl rfl ?_
      refine den_t (by simp only [dF, dE]; omega) ?_
      refine den_ite (fun h3 => ?_) (fun h3 => ?_)
      · simp only [dF, dE] at h3
        refine den_ite (fun h4 => ?_) (fun h4 => ?_)
        · simp only [dF, dE] at h4
          refine den_ev ?_
          refine evs_ob (by simp only [dF, dE]; omega) ?_
          refine evs_nil ?_
          refine den_cal [msgsD ([o])] rfl (coll_fn [o] (by simp) (fun x hx => by simp only [List.mem_cons, List.not_mem_nil, or_false] at hx; (first | (subst hx; assumption) | (rcases hx with rfl | rfl <;> assumption)))) rfl rfl ?_
          refine den_t (by simp only [dF, dE]; omega) ?_
          refine den_ret ?_
          have hs : sendR ⟨nx, tm, rt, (q :: r), [o], du, tr, se⟩ now = (⟨nx, tm, rt, (q :: r), [o], now + tm, tr + 1, se⟩, [o], []) := by (unfold sendR; first | (rw [if_pos (by omega)]; done) | (rw [if_neg (by omega)]; simp only [nextQ]; done) | (rw [if_neg (by omega)]; simp only [nextQ]; rw [if_pos (by omega), if_pos (by omega)]; done) | (rw [if_neg (by omega)]; simp only [nextQ]; rw [if_pos (by omega), if_neg (by omega)]; done) | (rw [if_neg (by omega)]; simp only [nextQ]; rw [if_neg (by omega)]; done))
          (first | (have hwa : IntKind.wrap .i64 (now + tm) = now + tm := wrap_i64 (by omega) (by omega); simp only [dF, dE, hwa, hwt]) | simp only [dF, dE, hwt])
          rw [hs]
          (try simp [List.take_of_length_le])
        · simp only [dF, dE] at h4
          refine den_ev ?_
          refine evs_ob (by simp only [dF, dE]; omega) ?_
          refine evs_nil ?_
          refine den_cal [msgsD ([o])] rfl (coll_fn [o] (by simp) (fun x hx => by simp only [List.mem_cons, List.not_mem_nil, or_false] at hx; (first | (subst hx; assumption) | (rcases hx with rfl | rfl <;> assumption)))) rfl rfl ?_
          refine den_t (by simp only [dF, dE]; omega) ?_
          refine den_ev ?_
          refine evs_ob (by simp only [dF, dE]; omega) ?_
          refine evs_nil ?_
          refine den_cal [msgsD ([q])] rfl (coll_fn [q] (by simp) (fun x hx => by simp only [List.mem_cons, List.not_mem_nil, or_false] at hx; (first | (subst hx; assumption) | (rcases hx with rfl | rfl <;> assumption)))) rfl rfl ?_
          refine den_ev ?_
          refine evs_ob (by simp only [dF, dE]; omega) ?_
          refine evs_nil ?_
          refine den_cal [msgsD ([q])] rfl (coll_fn [q] (by simp) (fun x hx => by simp only [List.mem_cons, List.not_mem_nil, or_false] at hx; (first | (subst hx; assumption) | (rcases hx with rfl | rfl <;> assumption)))) rfl rfl ?_
          refine den_ev ?_
          refine evs_ob (by simp only [dF, dE]; omega) ?_
          refine evs_nil ?_
          refine den_cal [msgsD (r)] rfl (coll_fn r (by omega) (fun x hx => hqb x (by simp [hx]))) (by simp only [dF, dE]; simp [List.take_of_length_le]) rfl ?_
          refine den_ret ?_
          have hs : sendR ⟨nx, tm, rt, (q :: r), [o], du, tr, se⟩ now = (⟨nx, tm, rt, r, [q], now + tm, 1, se⟩, [q], [o]) := by (unfold sendR; first | (rw [if_pos (by omega)]; done) | (rw [if_neg (by omega)]; simp only [nextQ]; done) | (rw [if_neg (by omega)]; simp only [nextQ]; rw [if_pos (by omega), if_pos (by omega)]; done) | (rw [if_neg (by omega)]; simp only [nextQ]; rw [if_pos (by omega), if_neg (by omega)]; done) | (rw [if_neg (by omega)]; simp only [nextQ]; rw [if_neg (by omega)]; done))
          (first | (have hwa : IntKind.wrap .i64 (now + tm) = now + tm := wrap_i64 (by omega) (by omega); simp only [dF, dE, hwa, hwt]) | simp only [dF, dE, hwt])
          rw [hs]
          (try simp [List.take_of_length_le])
      · simp only [dF, dE] at h3
        refine den_t (by simp only [dF, dE]; omega) ?_
        refine den_ret ?_
        have hs : sendR ⟨nx, tm, rt, (q :: r), [o], du, tr, se⟩ now = (⟨nx, tm, rt, (q :: r), [o], du, tr, se⟩, [], []) := by (unfold sendR; first | (rw [if_pos (by omega)]; done) | (rw [if_neg (by omega)]; simp only [nextQ]; done) | (rw [if_neg (by omega)]; simp only [nextQ]; rw [if_pos (by omega), if_pos (by omega)]; done) | (rw [if_neg (by omega)]; simp only [nextQ]; rw [if_pos (by omega), if_neg (by omega)]; done) | (rw [if_neg (by omega)]; simp only [nextQ]; rw [if_neg (by omega)]; done))
        (first | (have hwa : IntKind.wrap .i64 (now + tm) = now + tm := wrap_i64 (by omega) (by omega); simp only [dF, dE, hwa, hwt]) | simp only [dF, dE, hwt])
        rw [hs]
        (try simp [List.take_of_length_le])
theorem send_fn (e : Ep) (now : Int) (he : EpB e) (b0 : e.ou.length ≤ 1) (b5 : e.qu.length ≤ 4294967000) (b1 : 0 ≤ e.tm) (b2 : e.tm ≤ 1000000) (b3 : 0 ≤ e.tr) (b4 : e.tr ≤ 1000000) : Fun Try.prog [] 21 [tEp, tI] [epD e, I64d now] [tEp, tMs, tMs] (.ok [epD (sendR e now).1, msgsD (sendR e now).2.1, msgsD (sendR e now).2.2]) := by
  obtain ⟨nx, tm, rt, qu, ou, du, tr, se⟩ := e
  match ou, qu, b0, b5, he with
  | [], [], _, _, he => exact send00 nx tm rt du tr se now he b1 b2 b3 b4
  | [], q :: r, _, b5, he => exact send01 nx tm rt du tr se now q r (he.q q (by simp)) he.q (by simp only [List.length_cons] at b5; omega) he b1 b2 b3 b4
  | [o], [], _, _, he => exact send10 nx tm rt du tr se now o (he.o o (by simp)) he b1 b2 b3 b4
  | [o], q :: r, _, b5, he => exact send11 nx tm rt du tr se now o (he.o o (by simp)) q r (he.q q (by simp)) he.q (by simp only [List.length_cons] at b5; omega) he b1 b2 b3 b4
  | _ :: _ :: _, _, b0, _, _ => simp only [List.length_cons] at b0; omega
set_option maxHeartbeats 1000000 in
theorem rsend00 (nx tm rt du tr : Int) (se : List Msg) (now : Int) (he : EpB ⟨nx, tm, rt, [], [], du, tr, se⟩) (b1 : 0 ≤ tm) (b2 : tm ≤ 1000000) (b3 : 0 ≤ tr) (b4 : tr ≤ 1000000) : Fun Try.prog [] 22 [tEp, tI] [epD ⟨nx, tm, rt, [], [], du, tr, se⟩, I64d now] [tEp, tMs, tMs] (.ok [epD (sendR ⟨nx, tm, rt, [], [], du, tr, se⟩ now).1, msgsD (sendR ⟨nx, tm, rt, [], [], du, tr, se⟩ now).2.1, msgsD (sendR ⟨nx, tm, rt, [], [], du, tr, se⟩ now).2.2]) := by
  have hwt : IntKind.wrap .i64 (tr + 1) = tr + 1 := wrap_i64 (by omega) (by omega)
  refine rsend_ent _ _ ?_
  show vcrsend.den _ _ _ _ _
  unfold vcrsend
  refine den_ite (fun h1 => ?_) (fun h1 => ?_)
  · simp only [dF, dE] at h1
    refine den_ret ?_
    have hs : sendR ⟨nx, tm, rt, [], [], du, tr, se⟩ now = (⟨nx, tm, rt, [], [], du, tr, se⟩, [], []) := by (unfold sendR; first | (rw [if_pos (by omega)]; done) | (rw [if_neg (by omega)]; simp only [nextQ]; done) | (rw [if_neg (by omega)]; simp only [nextQ]; rw [if_pos (by omega), if_pos (by omega)]; done) | (rw [if_neg (by omega)]; simp only [nextQ]; rw [if_pos (by omega), if_neg (by omega)]; done) | (rw [if_neg (by omega)]; simp only [nextQ]; rw [if_neg (by omega)]; done))
    (first | (have hwa : IntKind.wrap .i64 (now + tm) = now + tm := wrap_i64 (by omega) (by omega); simp only [dF, dE, hwa, hwt]) | simp only [dF, dE, hwt])
    rw [hs]
    (try simp [List.take_of_length_le])
  · simp only [dF, dE] at h1
    refine den_ite (fun h2 => ?_) (fun h2 => ?_)
    · simp only [dF, dE] at h2
      refine den_ret ?_
      have hs : sendR ⟨nx, tm, rt, [], [], du, tr, se⟩ now = (⟨nx, tm, rt, [], [], du, tr, se⟩, [], []) := by (unfold sendR; first | (rw [if_pos (by omega)]; done) | (rw [if_neg (by omega)]; simp only [nextQ]; done) | (rw [if_neg (by omega)]; simp only [nextQ]; rw [if_pos (by omega), if_pos (by omega)]; done) | (rw [if_neg (by omega)]; simp only [nextQ]; rw [if_pos (by omega), if_neg (by omega)]; done) | (rw [if_neg (by omega)]; simp only [nextQ]; rw [if_neg (by omega)]; done))
      (first | (have hwa : IntKind.wrap .i64 (now + tm) = now + tm := wrap_i64 (by omega) (by omega); simp only [dF, dE, hwa, hwt]) | simp only [dF, dE, hwt])
      rw [hs]
      (try simp [List.take_of_length_le])
    · simp only [dF, dE] at h2
      refine den_f (by simp only [dF, dE]; omega) ?_
      refine den_f (by simp only [dF, dE]; omega) ?_
      refine den_ret ?_
      have hs : sendR ⟨nx, tm, rt, [], [], du, tr, se⟩ now = (⟨nx, tm, rt, [], [], 0, 0, se⟩, [], []) := by (unfold sendR; first | (rw [if_pos (by omega)]; done) | (rw [if_neg (by omega)]; simp only [nextQ]; done) | (rw [if_neg (by omega)]; simp only [nextQ]; rw [if_pos (by omega), if_pos (by omega)]; done) | (rw [if_neg (by omega)]; simp only [nextQ]; rw [if_pos (by omega), if_neg (by omega)]; done) | (rw [if_neg (by omega)]; simp only [nextQ]; rw [if_neg (by omega)]; done))
      (first | (have hwa : IntKind.wrap .i64 (now + tm) = now + tm := wrap_i64 (by omega) (by omega); simp only [dF, dE, hwa, hwt]) | simp only [dF, dE, hwt])
      rw [hs]
      (try simp [List.take_of_length_le])
set_option maxHeartbeats 1000000 in
theorem rsend01 (nx tm rt du tr : Int) (se : List Msg) (now : Int) (q : Msg) (r : List Msg) (hq : MsB q) (hqb : ∀ x ∈ q :: r, MsB x) (hrl : r.length ≤ 4294967000) (he : EpB ⟨nx, tm, rt, (q :: r), [], du, tr, se⟩) (b1 : 0 ≤ tm) (b2 : tm ≤ 1000000) (b3 : 0 ≤ tr) (b4 : tr ≤ 1000000) : Fun Try.prog [] 22 [tEp, tI] [epD ⟨nx, tm, rt, (q :: r), [], du, tr, se⟩, I64d now] [tEp, tMs, tMs] (.ok [epD (sendR ⟨nx, tm, rt, (q :: r), [], du, tr, se⟩ now).1, msgsD (sendR ⟨nx, tm, rt, (q :: r), [], du, tr, se⟩ now).2.1, msgsD (sendR ⟨nx, tm, rt, (q :: r), [], du, tr, se⟩ now).2.2]) := by
  have hwt : IntKind.wrap .i64 (tr + 1) = tr + 1 := wrap_i64 (by omega) (by omega)
  refine rsend_ent _ _ ?_
  show vcrsend.den _ _ _ _ _
  unfold vcrsend
  refine den_ite (fun h1 => ?_) (fun h1 => ?_)
  · simp only [dF, dE] at h1
    refine den_ret ?_
    have hs : sendR ⟨nx, tm, rt, (q :: r), [], du, tr, se⟩ now = (⟨nx, tm, rt, (q :: r), [], du, tr, se⟩, [], []) := by (unfold sendR; first | (rw [if_pos (by omega)]; done) | (rw [if_neg (by omega)]; simp only [nextQ]; done) | (rw [if_neg (by omega)]; simp only [nextQ]; rw [if_pos (by omega), if_pos (by omega)]; done) | (rw [if_neg (by omega)]; simp only [nextQ]; rw [if_pos (by omega), if_neg (by omega)]; done) | (rw [if_neg (by omega)]; simp only [nextQ]; rw [if_neg (by omega)]; done))
    (first | (have hwa : IntKind.wrap .i64 (now + tm) = now + tm := wrap_i64 (by omega) (by omega); simp only [dF, dE, hwa, hwt]) | simp only [dF, dE, hwt])
    rw [hs]
    (try simp [List.take_of_length_le])
  · simp only [dF, dE] at h1
    refine den_ite (fun h2 => ?_) (fun h2 => ?_)
    · simp only [dF, dE] at h2
      refine den_ret ?_
      have hs : sendR ⟨nx, tm, rt, (q :: r), [], du, tr, se⟩ now = (⟨nx, tm, rt, (q :: r), [], du, tr, se⟩, [], []) := by (unfold sendR; first | (rw [if_pos (by omega)]; done) | (rw [if_neg (by omega)]; simp only [nextQ]; done) | (rw [if_neg (by omega)]; simp only [nextQ]; rw [if_pos (by omega), if_pos (by omega)]; done) | (rw [if_neg (by omega)]; simp only [nextQ]; rw [if_pos (by omega), if_neg (by omega)]; done) | (rw [if_neg (by omega)]; simp only [nextQ]; rw [if_neg (by omega)]; done))
      (first | (have hwa : IntKind.wrap .i64 (now + tm) = now + tm := wrap_i64 (by omega) (by omega); simp only [dF, dE, hwa, hwt]) | simp only [dF, dE, hwt])
      rw [hs]
      (try simp [List.take_of_length_le])
    · simp only [dF, dE] at h2
      refine den_f (by simp only [dF, dE]; omega) ?_
      refine den_t (by simp only [dF, dE]; omega) ?_
      refine den_ev ?_
      refine evs_ob (by simp only [dF, dE]; omega) ?_
      refine evs_nil ?_
      refine den_cal [msgsD ([q])] rfl (with_fn [] q (by simp only [List.length_cons, List.length_nil]; omega)) rfl rfl ?_
      refine den_ev ?_
      refine evs_ob (by simp only [dF, dE]; omega) ?_
      refine evs_nil ?_
      refine den_cal [msgsD ([q])] rfl (with_fn [] q (by simp only [List.length_cons, List.length_nil]; omega)) rfl rfl ?_
      refine den_ev ?_
      refine evs_ob (by simp only [dF, dE]; omega) ?_
      refine evs_nil ?_
      refine den_ret ?_
      have hs : sendR ⟨nx, tm, rt, (q :: r), [], du, tr, se⟩ now = (⟨nx, tm, rt, r, [q], now + tm, 1, se⟩, [q], []) := by (unfold sendR; first | (rw [if_pos (by omega)]; done) | (rw [if_neg (by omega)]; simp only [nextQ]; done) | (rw [if_neg (by omega)]; simp only [nextQ]; rw [if_pos (by omega), if_pos (by omega)]; done) | (rw [if_neg (by omega)]; simp only [nextQ]; rw [if_pos (by omega), if_neg (by omega)]; done) | (rw [if_neg (by omega)]; simp only [nextQ]; rw [if_neg (by omega)]; done))
      (first | (have hwa : IntKind.wrap .i64 (now + tm) = now + tm := wrap_i64 (by omega) (by omega); simp only [dF, dE, hwa, hwt]) | simp only [dF, dE, hwt])
      rw [hs]
      (try simp [List.take_of_length_le])
set_option maxHeartbeats 1000000 in
theorem rsend10 (nx tm rt du tr : Int) (se : List Msg) (now : Int) (o : Msg) (ho : MsB o) (he : EpB ⟨nx, tm, rt, [], [o], du, tr, se⟩) (b1 : 0 ≤ tm) (b2 : tm ≤ 1000000) (b3 : 0 ≤ tr) (b4 : tr ≤ 1000000) : Fun Try.prog [] 22 [tEp, tI] [epD ⟨nx, tm, rt, [], [o], du, tr, se⟩, I64d now] [tEp, tMs, tMs] (.ok [epD (sendR ⟨nx, tm, rt, [], [o], du, tr, se⟩ now).1, msgsD (sendR ⟨nx, tm, rt, [], [o], du, tr, se⟩ now).2.1, msgsD (sendR ⟨nx, tm, rt, [], [o], du, tr, se⟩ now).2.2]) := by
  have hwt : IntKind.wrap .i64 (tr + 1) = tr + 1 := wrap_i64 (by omega) (by omega)
  refine rsend_ent _ _ ?_
  show vcrsend.den _ _ _ _ _
  unfold vcrsend
  refine den_ite (fun h1 => ?_) (fun h1 => ?_)
  · simp only [dF, dE] at h1
    refine den_ret ?_
    have hs : sendR ⟨nx, tm, rt, [], [o], du, tr, se⟩ now = (⟨nx, tm, rt, [], [o], du, tr, se⟩, [], []) := by (unfold sendR; first | (rw [if_pos (by omega)]; done) | (rw [if_neg (by omega)]; simp only [nextQ]; done) | (rw [if_neg (by omega)]; simp only [nextQ]; rw [if_pos (by omega), if_pos (by omega)]; done) | (rw [if_neg (by omega)]; simp only [nextQ]; rw [if_pos (by omega), if_neg (by omega)]; done) | (rw [if_neg (by omega)]; simp only [nextQ]; rw [if_neg (by omega)]; done))
    (first | (have hwa : IntKind.wrap .i64 (now + tm) = now + tm := wrap_i64 (by omega) (by omega); simp only [dF, dE, hwa, hwt]) | simp only [dF, dE, hwt])
    rw [hs]
    (try simp [List.take_of_length_le])
  · simp only [dF, dE] at h1
    refine den_ite (fun h2 => ?_) (fun h2 => ?_)
    · simp only [dF, dE] at h2
      refine den_ret ?_
      have hs : sendR ⟨nx, tm, rt, [], [o], du, tr, se⟩ now = (⟨nx, tm, rt, [], [o], du, tr, se⟩, [], []) := by (unfold sendR; first | (rw [if_pos (by omega)]; done) | (rw [if_neg (by omega)]; simp only [nextQ]; done) | (rw [if_neg (by omega)]; simp only [nextQ]; rw [if_pos (by omega), if_pos (by omega)]; done) | (rw [if_neg (by omega)]; simp only [nextQ]; rw [if_pos (by omega), if_neg (by omega)]; done) | (rw [if_neg (by omega)]; simp only [nextQ]; rw [if_neg (by omega)]; done))
      (first | (have hwa : IntKind.wrap .i64 (now + tm) = now + tm := wrap_i64 (by omega) (by omega); simp only [dF, dE, hwa, hwt]) | simp only [dF, dE, hwt])
      rw [hs]
      (try simp [List.take_of_length_le])
    · simp only [dF, dE] at h2
      refine den_t (by simp only [dF, dE]; omega) ?_
      refine den_ite (fun h3 => ?_) (fun h3 => ?_)
      · simp only [dF, dE] at h3
        refine den_ite (fun h4 => ?_) (fun h4 => ?_)
        · simp only [dF, dE] at h4
          refine den_ev ?_
          refine evs_ob (by simp only [dF, dE]; omega) ?_
          refine evs_nil ?_
          refine den_cal [msgsD ([o])] rfl (with_fn [] o (by simp only [List.length_cons, List.length_nil]; omega)) rfl rfl ?_
          refine den_ret ?_
          have hs : sendR ⟨nx, tm, rt, [], [o], du, tr, se⟩ now = (⟨nx, tm, rt, [], [o], now + tm, tr + 1, se⟩, [o], []) := by (unfold sendR; first | (rw [if_pos (by omega)]; done) | (rw [if_neg (by omega)]; simp only [nextQ]; done) | (rw [if_neg (by omega)]; simp only [nextQ]; rw [if_pos (by omega), if_pos (by omega)]; done) | (rw [if_neg (by omega)]; simp only [nextQ]; rw [if_pos (by omega), if_neg (by omega)]; done) | (rw [if_neg (by omega)]; simp only [nextQ]; rw [if_neg (by omega)]; done))
          (first | (have hwa : IntKind.wrap .i64 (now + tm) = now + tm := wrap_i64 (by omega) (by omega); simp only [dF, dE, hwa, hwt]) | simp only [dF, dE, hwt])
          rw [hs]
          (try simp [List.take_of_length_le])
        · simp only [dF, dE] at h4
          refine den_ev ?_
          refine evs_ob (by simp only [dF, dE]; omega) ?_
          refine evs_nil ?_
          refine den_cal [msgsD ([o])] rfl (with_fn [] o (by simp only [List.length_cons, List.length_nil]; omega)) rfl rfl ?_
          refine den_f (by simp only [dF, dE]; omega) ?_
          refine den_ret ?_
          have hs : sendR ⟨nx, tm, rt, [], [o], du, tr, se⟩ now = (⟨nx, tm, rt, [], [], 0, 0, se⟩, [], [o]) := by (unfold sendR; first | (rw [if_pos (by omega)]; done) | (rw [if_neg (by omega)]; simp only [nextQ]; done) | (rw [if_neg (by omega)]; simp only [nextQ]; rw [if_pos (by omega), if_pos (by omega)]; done) | (rw [if_neg (by omega)]; simp only [nextQ]; rw [if_pos (by omega), if_neg (by omega)]; done) | (rw [if_neg (by omega)]; simp only [nextQ]; rw [if_neg (by omega)]; done))
          (first | (have hwa : IntKind.wrap .i64 (now + tm) = now + tm := wrap_i64 (by omega) (by omega); simp only [dF, dE, hwa, hwt]) | simp only [dF, dE, hwt])
          rw [hs]
          (try simp [List.take_of_length_le])
      · simp only [dF, dE] at h3
        refine den_ret ?_
        have hs : sendR ⟨nx, tm, rt, [], [o], du, tr, se⟩ now = (⟨nx, tm, rt, [], [o], du, tr, se⟩, [], []) := by (unfold sendR; first | (rw [if_pos (by omega)]; done) | (rw [if_neg (by omega)]; simp only [nextQ]; done) | (rw [if_neg (by omega)]; simp only [nextQ]; rw [if_pos (by omega), if_pos (by omega)]; done) | (rw [if_neg (by omega)]; simp only [nextQ]; rw [if_pos (by omega), if_neg (by omega)]; done) | (rw [if_neg (by omega)]; simp only [nextQ]; rw [if_neg (by omega)]; done))
        (first | (have hwa : IntKind.wrap .i64 (now + tm) = now + tm := wrap_i64 (by omega) (by omega); simp only [dF, dE, hwa, hwt]) | simp only [dF, dE, hwt])
        rw [hs]
        (try simp [List.take_of_length_le])
set_option maxHeartbeats 1000000 in
theorem rsend11 (nx tm rt du tr : Int) (se : List Msg) (now : Int) (o : Msg) (ho : MsB o) (q : Msg) (r : List Msg) (hq : MsB q) (hqb : ∀ x ∈ q :: r, MsB x) (hrl : r.length ≤ 4294967000) (he : EpB ⟨nx, tm, rt, (q :: r), [o], du, tr, se⟩) (b1 : 0 ≤ tm) (b2 : tm ≤ 1000000) (b3 : 0 ≤ tr) (b4 : tr ≤ 1000000) : Fun Try.prog [] 22 [tEp, tI] [epD ⟨nx, tm, rt, (q :: r), [o], du, tr, se⟩, I64d now] [tEp, tMs, tMs] (.ok [epD (sendR ⟨nx, tm, rt, (q :: r), [o], du, tr, se⟩ now).1, msgsD (sendR ⟨nx, tm, rt, (q :: r), [o], du, tr, se⟩ now).2.1, msgsD (sendR ⟨nx, tm, rt, (q :: r), [o], du, tr, se⟩ now).2.2]) := by
  have hwt : IntKind.wrap .i64 (tr + 1) = tr + 1 := wrap_i64 (by omega) (by omega)
  refine rsend_ent _ _ ?_
  show vcrsend.den _ _ _ _ _
  unfold vcrsend
  refine den_ite (fun h1 => ?_) (fun h1 => ?_)
  · simp only [dF, dE] at h1
    refine den_ret ?_
    have hs : sendR ⟨nx, tm, rt, (q :: r), [o], du, tr, se⟩ now = (⟨nx, tm, rt, (q :: r), [o], du, tr, se⟩, [], []) := by (unfold sendR; first | (rw [if_pos (by omega)]; done) | (rw [if_neg (by omega)]; simp only [nextQ]; done) | (rw [if_neg (by omega)]; simp only [nextQ]; rw [if_pos (by omega), if_pos (by omega)]; done) | (rw [if_neg (by omega)]; simp only [nextQ]; rw [if_pos (by omega), if_neg (by omega)]; done) | (rw [if_neg (by omega)]; simp only [nextQ]; rw [if_neg (by omega)]; done))
    (first | (have hwa : IntKind.wrap .i64 (now + tm) = now + tm := wrap_i64 (by omega) (by omega); simp only [dF, dE, hwa, hwt]) | simp only [dF, dE, hwt])
    rw [hs]
    (try simp [List.take_of_length_le])
  · simp only [dF, dE] at h1
    refine den_ite (fun h2 => ?_) (fun h2 => ?_)
    · simp only [dF, dE] at h2
      refine den_ret ?_
      have hs : sendR ⟨nx, tm, rt, (q :: r), [o], du, tr, se⟩ now = (⟨nx, tm, rt, (q :: r), [o], du, tr, se⟩, [], []) := by (unfold sendR; first | (rw [if_pos (by omega)]; done) | (rw [if_neg (by omega)]; simp only [nextQ]; done) | (rw [if_neg (by omega)]; simp only [nextQ]; rw [if_pos (by omega), if_pos (by omega)]; done) | (rw [if_neg (by omega)]; simp only [nextQ]; rw [if_pos (by omega), if_neg (by omega)]; done) | (rw [if_neg (by omega)]; simp only [nextQ]; rw [if_neg (by omega)]; done))
      (first | (have hwa : IntKind.wrap .i64 (now + tm) = now + tm := wrap_i64 (by omega) (by omega); simp only [dF, dE, hwa, hwt]) | simp only [dF, dE, hwt])
      rw [hs]
      (try simp [List.take_of_length_le])
    · simp only [dF, dE] at h2
      refine den_t (by simp only [dF, dE]; omega) ?_
      refine den_ite (fun h3 => ?_) (fun h3 => ?_)
      · simp only [dF, dE] at h3
        refine den_ite (fun h4 => ?_) (fun h4 => ?_)
        · simp only [dF, dE] at h4
          refine den_ev ?_
          refine evs_ob (by simp only [dF, dE]; omega) ?_
          refine evs_nil ?_
          refine den_cal [msgsD ([o])] rfl (with_fn [] o (by simp only [List.length_cons, List.length_nil]; omega)) rfl rfl ?_
          refine den_ret ?_
          have hs : sendR ⟨nx, tm, rt, (q :: r), [o], du, tr, se⟩ now = (⟨nx, tm, rt, (q :: r), [o], now + tm, tr + 1, se⟩, [o], []) := by (unfold sendR; first | (rw [if_pos (by omega)]; done) | (rw [if_neg (by omega)]; simp only [nextQ]; done) | (rw [if_neg (by omega)]; simp only [nextQ]; rw [if_pos (by omega), if_pos (by omega)]; done) | (rw [if_neg (by omega)]; simp only [nextQ]; rw [if_pos (by omega), if_neg (by omega)]; done) | (rw [if_neg (by omega)]; simp only [nextQ]; rw [if_neg (by omega)]; done))
          (first | (have hwa : IntKind.wrap .i64 (now + tm) = now + tm := wrap_i64 (by omega) (by omega); simp only [dF, dE, hwa, hwt]) | simp only [dF, dE, hwt])
          rw [hs]
          (try simp [List.take_of_length_le])
        · simp only [dF, dE] at h4
          refine den_ev ?_
          refine evs_ob (by simp only [dF, dE]; omega) ?_
          refine evs_nil ?_
          refine den_cal [msgsD ([o])] rfl (with_fn [] o (by simp only [List.length_cons, List.length_nil]; omega)) rfl rfl ?_
          refine den_t (by simp only [dF, dE]; omega) ?_
          refine den_ev ?_
          refine evs_ob (by simp only [dF, dE]; omega) ?_
          refine evs_nil ?_
          refine den_cal [msgsD ([q])] rfl (with_fn [] q (by simp only [List.length_cons, List.length_nil]; omega)) rfl rfl ?_
          refine den_ev ?_
          refine evs_ob (by simp only [dF, dE]; omega) ?_
          refine evs_nil ?_
          refine den_cal [msgsD ([q])] rfl (with_fn [] q (by simp only [List.length_cons, List.length_nil]; omega)) rfl rfl ?_
          refine den_ev ?_
          refine evs_ob (by simp only [dF, dE]; omega) ?_
          refine evs_nil ?_
          refine den_ret ?_
          have hs : sendR ⟨nx, tm, rt, (q :: r), [o], du, tr, se⟩ now = (⟨nx, tm, rt, r, [q], now + tm, 1, se⟩, [q], [o]) := by (unfold sendR; first | (rw [if_pos (by omega)]; done) | (rw [if_neg (by omega)]; simp only [nextQ]; done) | (rw [if_neg (by omega)]; simp only [nextQ]; rw [if_pos (by omega), if_pos (by omega)]; done) | (rw [if_neg (by omega)]; simp only [nextQ]; rw [if_pos (by omega), if_neg (by omega)]; done) | (rw [if_neg (by omega)]; simp only [nextQ]; rw [if_neg (by omega)]; done))
          (first | (have hwa : IntKind.wrap .i64 (now + tm) = now + tm := wrap_i64 (by omega) (by omega); simp only [dF, dE, hwa, hwt]) | simp only [dF, dE, hwt])
          rw [hs]
          (try simp [List.take_of_length_le])
      · simp only [dF, dE] at h3
        refine den_ret ?_
        have hs : sendR ⟨nx, tm, rt, (q :: r), [o], du, tr, se⟩ now = (⟨nx, tm, rt, (q :: r), [o], du, tr, se⟩, [], []) := by (unfold sendR; first | (rw [if_pos (by omega)]; done) | (rw [if_neg (by omega)]; simp only [nextQ]; done) | (rw [if_neg (by omega)]; simp only [nextQ]; rw [if_pos (by omega), if_pos (by omega)]; done) | (rw [if_neg (by omega)]; simp only [nextQ]; rw [if_pos (by omega), if_neg (by omega)]; done) | (rw [if_neg (by omega)]; simp only [nextQ]; rw [if_neg (by omega)]; done))
        (first | (have hwa : IntKind.wrap .i64 (now + tm) = now + tm := wrap_i64 (by omega) (by omega); simp only [dF, dE, hwa, hwt]) | simp only [dF, dE, hwt])
        rw [hs]
        (try simp [List.take_of_length_le])
theorem rsend_fn (e : Ep) (now : Int) (he : EpB e) (b0 : e.ou.length ≤ 1) (b5 : e.qu.length ≤ 4294967000) (b1 : 0 ≤ e.tm) (b2 : e.tm ≤ 1000000) (b3 : 0 ≤ e.tr) (b4 : e.tr ≤ 1000000) : Fun Try.prog [] 22 [tEp, tI] [epD e, I64d now] [tEp, tMs, tMs] (.ok [epD (sendR e now).1, msgsD (sendR e now).2.1, msgsD (sendR e now).2.2]) := by
  obtain ⟨nx, tm, rt, qu, ou, du, tr, se⟩ := e
  match ou, qu, b0, b5, he with
  | [], [], _, _, he => exact rsend00 nx tm rt du tr se now he b1 b2 b3 b4
  | [], q :: r, _, b5, he => exact rsend01 nx tm rt du tr se now q r (he.q q (by simp)) he.q (by simp only [List.length_cons] at b5; omega) he b1 b2 b3 b4
  | [o], [], _, _, he => exact rsend10 nx tm rt du tr se now o (he.o o (by simp)) he b1 b2 b3 b4
  | [o], q :: r, _, b5, he => exact rsend11 nx tm rt du tr se now o (he.o o (by simp)) q r (he.q q (by simp)) he.q (by simp only [List.length_cons] at b5; omega) he b1 b2 b3 b4
  | _ :: _ :: _, _, b0, _, _ => simp only [List.length_cons] at b0; omega

end Go.Proofs.Ytmplgfkhknhacaa.C27
set_option maxRecDepth 100000
set_option linter.unusedSimpArgs false
set_option linter.unusedVariables false
namespace Go.Proofs.Ytmplgfkhknhacaa.C27
open Go.Proofs.Ytmplgfkhknhacaa Go.Proofs.Ytmplgfkhknhacaa.Sy Go.Proofs.Ytmplgfkhknhacaa.L7 Go.Proofs.Ytmplgfkhknhacaa.Id Go.Proofs.Ytmplgfkhknhacaa.R26 Go.Proofs.Ytmplgfkhknhacaa.V26 Go.Proofs.Ytmplgfkhknhacaa.N27 Go.RowKit Go.WideShapes Go.ChangeShapes Go.ChangeAt
def fndS (k : Int) : List Msg → Option Msg
  | [] => none
  | s :: l => if s.id = k then some s else fndS k l
def lookR (e : Ep) (m : Msg) : Ep × List Msg × List Msg × List Msg :=
  if m.ki ≠ 1 then (e, [], [], []) else match fndS m.id e.se with
  | some s => (e, [], [], [s])
  | none => if newB m.id e.se = true then (e, [], [m], []) else (e, [], [], [])
def recvR (e : Ep) (m : Msg) : Ep × List Msg × List Msg × List Msg :=
  if resB m = true then (match e.ou with
    | [] => (e, [], [], [])
    | o :: _ => if m.id = o.id ∧ m.ac = o.ac then ({ e with ou := [], du := 0, tr := 0 }, [o, m], [], []) else (e, [], [], []))
  else lookR e m
theorem res_ki {m : Msg} (h : resB m = true) : m.ki ≠ 1 := by unfold resB at h; rw [decide_eq_true_eq] at h; omega
theorem fnd_mem {k : Int} {s : Msg} : ∀ {l : List Msg}, fndS k l = some s → s ∈ l
  | [], h => by cases h
  | x :: l, h => by
    rw [fndS] at h
    split at h
    · cases h; simp
    · exact List.mem_cons_of_mem _ (fnd_mem h)
theorem look_no {e : Ep} {m : Msg} (h : m.ki ≠ 1) : lookR e m = (e, [], [], []) := by unfold lookR; rw [if_pos h]
set_option maxHeartbeats 1000000 in
theorem recv_fn (e : Ep) (m : Msg) (he : EpB e) (hm : MsB m) (b0 : e.ou.length ≤ 1) : Fun Try.prog [] 24 [tEp, tM] [epD e, msD m] [tEp, tMs, tMs, tMs] (.ok [epD (recvR e m).1, msgsD (recvR e m).2.1, msgsD (recvR e m).2.2.1, msgsD (recvR e m).2.2.2]) := by
  have hsl := he.sl
  refine recv_ent _ _ ?_
  show vcrecv.den _ _ _ _ _
  unfold vcrecv
  refine den_cal [.bool (resB m)] rfl (isr_fn m) rfl rfl ?_
  (try simp only [List.cons_append, List.nil_append])
  refine den_ite (fun h0 => ?_) (fun h0 => ?_)
  · simp only [dF, dE] at h0
    obtain ⟨nx, tm, rt, qu, ou, du, tr, se⟩ := e
    match ou, b0, he with
    | [], _, he =>
      refine den_ite (fun h => den_ret ?_) (fun h => absurd h (by simp only [dF, dE]; omega))
      simp only [dF, dE]
      rw [show recvR ⟨nx, tm, rt, qu, [], du, tr, se⟩ m = (⟨nx, tm, rt, qu, [], du, tr, se⟩, [], [], []) from by unfold recvR; rw [if_pos h0]]
      (try simp)
    | [o], _, he =>
      have hr : recvR ⟨nx, tm, rt, qu, [o], du, tr, se⟩ m = if m.id = o.id ∧ m.ac = o.ac then (⟨nx, tm, rt, qu, [], 0, 0, se⟩, [o, m], [], []) else (⟨nx, tm, rt, qu, [o], du, tr, se⟩, [], [], []) := by unfold recvR; rw [if_pos h0]
      have ho := he.o o (by simp)
      refine den_f (by simp only [dF, dE]; omega) ?_
      refine den_ev (evs_ob (by simp only [dF, dE]; omega) (evs_nil ?_))
      refine den_ite (fun h1 => den_ret ?_) (fun h1 => ?_)
      · simp only [dF, dE] at h1
        simp only [dF, dE]
        rw [hr, if_neg (fun c => h1 c.1)]
        (try simp)
      simp only [dF, dE] at h1
      refine den_ev (evs_ob (by simp only [dF, dE]; omega) (evs_nil ?_))
      refine den_ite (fun h2 => den_ret ?_) (fun h2 => ?_)
      · simp only [dF, dE] at h2
        simp only [dF, dE]
        rw [hr, if_neg (fun c => h2 c.2)]
        (try simp)
      simp only [dF, dE] at h2
      refine den_cal [I64d nx, I64d tm, I64d rt, msgsD qu, msgsD [o], I64d du, I64d tr, msgsD se] rfl (cop_fn _ he) rfl rfl ?_
      (try simp only [List.cons_append, List.nil_append])
      refine den_ev (evs_ob (by simp only [dF, dE]; omega) (evs_nil ?_))
      refine den_cal [msgsD [o, m]] rfl (coll_fn [o, m] (by simp) (fun x hx => by simp only [List.mem_cons, List.not_mem_nil, or_false] at hx; rcases hx with rfl | rfl <;> assumption)) rfl rfl (den_ret ?_)
      simp only [dF, dE]
      rw [hr, if_pos ⟨h1, h2⟩]
      (try simp)
    | _ :: _ :: _, b0, _ => simp only [List.length_cons] at b0; omega
  simp only [dF, dE] at h0
  have hr : recvR e m = lookR e m := by unfold recvR; rw [if_neg (by rw [h0]; decide)]
  refine den_ite (fun h1 => den_ret ?_) (fun hk => ?_)
  · simp only [dF, dE] at h1
    simp only [dF, dE]
    rw [hr, look_no h1]
    (try simp)
  simp only [dF, dE] at hk
  refine den_loopI (fun xs => ∃ (a b c : List Msg) (i : Nat), xs = [msgsD a, msgsD b, msgsD c, I64d i] ∧ i ≤ e.se.length ∧ fndS m.id e.se = fndS m.id (e.se.drop i)) (fun xs => e.se.length - (xs.getD 3 default).toI.toNat) ⟨[], [], [], 0, rfl, Nat.zero_le _, rfl⟩ ?_
  rintro _ ⟨a, b, c, i, rfl, hi, hv⟩
  (try simp only [List.cons_append, List.nil_append])
  refine den_ite (fun h => ?_) (fun h => ?_)
  · simp only [dF, dE] at h
    have hi' : i < e.se.length := by omega
    have hg := getD_map (g := msD) msgZ hi'
    have hb := he.s _ (EpB.mem hi')
    rw [drop_get msgZ hi', fndS] at hv
    generalize e.se.getD i msgZ = s at hg hb hv
    have hw : IntKind.wrap .i64 ((i : Int) + 1) = ((i + 1 : Nat) : Int) := by rw [wrap_i64 (by omega) (by omega)]; omega
    refine den_ev (evs_ob (by simp only [dF, dE]; omega) (evs_ob (by simp only [dF, dE]; omega) (evs_nil ?_)))
    refine den_ite (fun h1 => ?_) (fun h1 => ?_)
    · simp only [dF, dE, hg] at h1
      rw [if_pos h1] at hv
      refine den_cal [msgsD [s]] rfl (coll_fn [s] (by simp) (fun x hx => by rw [List.mem_singleton.1 hx]; exact hb)) (by simp only [dF, dE, cpM, hg]; first | done | rfl) rfl (den_ret ?_)
      simp only [dF, dE]
      rw [hr, show lookR e m = (e, [], [], [s]) from by unfold lookR; rw [if_neg (fun c => c hk), hv]]
      (try simp)
    · simp only [dF, dE, hg] at h1
      rw [if_neg h1] at hv
      exact den_back rfl ⟨a, b, c, i + 1, (by simp only [dF, dE]; rw [hw]), by omega, hv⟩ (by simp only []; simp only [dF, dE]; rw [hw]; omega)
  simp only [dF, dE] at h
  have hil : i = e.se.length := by omega
  subst hil
  rw [List.drop_length] at hv
  have hv : fndS m.id e.se = none := hv
  refine den_cal [.bool (newB m.id e.se)] rfl (newer_fn m e.se) rfl rfl ?_
  (try simp only [List.cons_append, List.nil_append])
  refine den_ite (fun h2 => ?_) (fun h2 => den_ret ?_)
  · simp only [dF, dE] at h2
    refine den_cal [msgsD [m]] rfl (coll_fn [m] (by simp) (fun x hx => by rw [List.mem_singleton.1 hx]; exact hm)) rfl rfl (den_ret ?_)
    simp only [dF, dE]
    rw [hr, show lookR e m = (e, [], [m], []) from by unfold lookR; rw [if_neg (fun c => c hk), hv]; simp only []; rw [if_pos h2]]
    (try simp)
  · simp only [dF, dE] at h2
    simp only [dF, dE]
    rw [hr, show lookR e m = (e, [], [], []) from by unfold lookR; rw [if_neg (fun c => c hk), hv]; simp only []; rw [if_neg (by rw [h2]; decide)]]
    (try simp)
set_option maxHeartbeats 1000000 in
theorem rrecv_fn (e : Ep) (m : Msg) (he : EpB e) (hm : MsB m) (b0 : e.ou.length ≤ 1) : Fun Try.prog [] 25 [tEp, tM] [epD e, msD m] [tEp, tMs, tMs, tMs] (.ok [epD (recvR e m).1, msgsD (recvR e m).2.1, msgsD (recvR e m).2.2.1, msgsD (recvR e m).2.2.2]) := by
  have hsl := he.sl
  refine rrecv_ent _ _ ?_
  show vcrrecv.den _ _ _ _ _
  unfold vcrrecv
  refine den_join (fun xs => xs = [] ∧ (m.ki = 1 → recvR e m = lookR e m) ∧ (m.ki ≠ 1 → recvR e m = (e, [], [], []))) ?_ ?_
  · refine den_ev ?_
    refine evs_call [.bool (resB m)] rfl (risr_fn m) rfl rfl ?_
    refine evs_nil ?_
    (try simp only [List.cons_append, List.nil_append])
    refine den_ite (fun h0 => ?_) (fun h0 => ?_)
    rotate_left
    · simp only [dF, dE] at h0
      have hr : recvR e m = lookR e m := by unfold recvR; rw [if_neg (by rw [h0]; decide)]
      exact den_back rfl ⟨rfl, fun _ => hr, fun c => by rw [hr, look_no c]⟩ (by simp only []; omega)
    simp only [dF, dE] at h0
    have hk1 := res_ki h0
    obtain ⟨nx, tm, rt, qu, ou, du, tr, se⟩ := e
    match ou, b0, he with
    | [], _, he =>
      have hr : recvR ⟨nx, tm, rt, qu, [], du, tr, se⟩ m = (⟨nx, tm, rt, qu, [], du, tr, se⟩, [], [], []) := by unfold recvR; rw [if_pos h0]
      refine den_f (by simp only [dF, dE]; omega) ?_
      exact den_back rfl ⟨rfl, fun c => absurd c hk1, fun _ => hr⟩ (by simp only []; omega)
    | [o], _, he =>
      have hr : recvR ⟨nx, tm, rt, qu, [o], du, tr, se⟩ m = if m.id = o.id ∧ m.ac = o.ac then (⟨nx, tm, rt, qu, [], 0, 0, se⟩, [o, m], [], []) else (⟨nx, tm, rt, qu, [o], du, tr, se⟩, [], [], []) := by unfold recvR; rw [if_pos h0]
      have ho := he.o o (by simp)
      refine den_t (by simp only [dF, dE]; omega) ?_
      refine den_ev (evs_ob (by simp only [dF, dE]; omega) (evs_nil ?_))
      refine den_ite (fun h1 => ?_) (fun h1 => ?_)
      rotate_left
      · simp only [dF, dE] at h1
        rw [if_neg (fun c => h1 c.1.symm)] at hr
        exact den_back rfl ⟨rfl, fun c => absurd c hk1, fun _ => hr⟩ (by simp only []; omega)
      simp only [dF, dE] at h1
      refine den_ev (evs_ob (by simp only [dF, dE]; omega) (evs_nil ?_))
      refine den_ite (fun h2 => ?_) (fun h2 => ?_)
      rotate_left
      · simp only [dF, dE] at h2
        rw [if_neg (fun c => h2 c.2.symm)] at hr
        exact den_back rfl ⟨rfl, fun c => absurd c hk1, fun _ => hr⟩ (by simp only []; omega)
      simp only [dF, dE] at h2
      refine den_ev (evs_ob (by simp only [dF, dE]; omega) ?_)
      refine evs_call [msgsD [o]] rfl (with_fn [] o (by simp)) rfl rfl ?_
      refine evs_call [msgsD [o, m]] rfl (with_fn [o] m (by simp)) rfl rfl ?_
      refine evs_nil (den_ret ?_)
      simp only [dF, dE]
      rw [hr, if_pos ⟨h1.symm, h2.symm⟩]
      (try simp)
    | _ :: _ :: _, b0, _ => simp only [List.length_cons] at b0; omega
  rintro _ ⟨rfl, j1, j2⟩
  (try simp only [List.cons_append, List.nil_append])
  refine den_ite (fun h1 => den_ret ?_) (fun hk => ?_)
  · simp only [dF, dE] at h1
    simp only [dF, dE]
    rw [j2 h1]
    (try simp)
  simp only [dF, dE] at hk
  have hr := j1 hk
  refine den_loopI (fun xs => ∃ (i : Nat), xs = [.bool (newB m.id (e.se.take i)), I64d i] ∧ i ≤ e.se.length ∧ fndS m.id e.se = fndS m.id (e.se.drop i)) (fun xs => e.se.length - (xs.getD 1 default).toI.toNat) ⟨0, rfl, Nat.zero_le _, rfl⟩ ?_
  rintro _ ⟨i, rfl, hi, hv⟩
  (try simp only [List.cons_append, List.nil_append])
  refine den_ite (fun h => ?_) (fun h => ?_)
  · simp only [dF, dE] at h
    have hi' : i < e.se.length := by omega
    have hg := getD_map (g := msD) msgZ hi'
    have hb := he.s _ (EpB.mem hi')
    have hnt := newB_take (m := m.id) hi'
    rw [drop_get msgZ hi', fndS] at hv
    generalize e.se.getD i msgZ = s at hg hb hv hnt
    have hw : IntKind.wrap .i64 ((i : Int) + 1) = ((i + 1 : Nat) : Int) := by rw [wrap_i64 (by omega) (by omega)]; omega
    refine den_ev (evs_ob (by simp only [dF, dE]; omega) (evs_ob (by simp only [dF, dE]; omega) (evs_nil ?_)))
    refine den_ite (fun h1 => ?_) (fun h1 => ?_)
    · simp only [dF, dE, hg] at h1
      rw [if_pos h1] at hv
      refine den_ev (evs_ob (by simp only [dF, dE]; omega) (evs_ob (by simp only [dF, dE]; omega) (evs_nil ?_)))
      refine den_cal [msgsD [s]] rfl (with_fn [] s (by simp)) (by simp only [dF, dE, cpM, hg]; first | done | rfl) rfl (den_ret ?_)
      simp only [dF, dE]
      rw [hr, show lookR e m = (e, [], [], [s]) from by unfold lookR; rw [if_neg (fun c => c hk), hv]]
      (try simp)
    · simp only [dF, dE, hg] at h1
      rw [if_neg h1] at hv
      refine den_ite (fun h2 => ?_) (fun h2 => ?_)
      · simp only [dF, dE] at h2
        refine den_ev (evs_ob (by simp only [dF, dE]; omega) (evs_ob (by simp only [dF, dE]; omega) (evs_nil ?_)))
        exact den_back rfl ⟨i + 1, (by simp only [dF, dE, hg]; rw [hw, hnt, h2, Bool.true_and]), by omega, hv⟩ (by simp only []; simp only [dF, dE]; rw [hw]; omega)
      · simp only [dF, dE] at h2
        exact den_back rfl ⟨i + 1, (by simp only [dF, dE]; rw [hw, hnt, h2, Bool.false_and]), by omega, hv⟩ (by simp only []; simp only [dF, dE]; rw [hw]; omega)
  simp only [dF, dE] at h
  have hil : i = e.se.length := by omega
  subst hil
  rw [List.drop_length] at hv
  rw [List.take_length]
  have hv : fndS m.id e.se = none := hv
  refine den_ite (fun h2 => ?_) (fun h2 => den_ret ?_)
  · simp only [dF, dE] at h2
    refine den_cal [msgsD [m]] rfl (with_fn [] m (by simp)) rfl rfl (den_ret ?_)
    simp only [dF, dE]
    rw [hr, show lookR e m = (e, [], [m], []) from by unfold lookR; rw [if_neg (fun c => c hk), hv]; simp only []; rw [if_pos h2]]
    (try simp)
  · simp only [dF, dE] at h2
    simp only [dF, dE]
    rw [hr, show lookR e m = (e, [], [], []) from by unfold lookR; rw [if_neg (fun c => c hk), hv]; simp only []; rw [if_neg (by rw [h2]; decide)]]
    (try simp)
def ansV (e : Ep) (m : Msg) : Int := if msgS m ≠ 0 then msgS m else if resB m = false then 1 else if newB m.id e.se = false then 10 else 0
def ansL (e : Ep) (m : Msg) : List Msg := if 16 < ((e.se ++ [m]).length : Int) then (e.se ++ [m]).drop 1 else e.se ++ [m]
def ansO (e : Ep) (m : Msg) : Ep := if ansV e m = 0 then { e with se := ansL e m } else e
theorem ans_no {e : Ep} {m : Msg} {k : Int} (h : ansV e m = k) (hk : k ≠ 0) : ansO e m = e ∧ ansV e m = k := by
  unfold ansO
  rw [if_neg (by omega)]
  exact ⟨rfl, h⟩
theorem ans_yes {e : Ep} {m : Msg} (h : ansV e m = 0) : ansO e m = { e with se := ansL e m } := by unfold ansO; rw [if_pos h]
set_option maxHeartbeats 1000000 in
theorem ans_fn (e : Ep) (m : Msg) (he : EpB e) (hm : MsB m) (hl : e.se.length ≤ 1000) : Fun Try.prog [] 26 [tEp, tM] [epD e, msD m] [tEp, tI] (.ok [epD (ansO e m), I64d (ansV e m)]) := by
  refine ans_ent _ _ ?_
  show vcans.den _ _ _ _ _
  unfold vcans
  refine den_cal [I64d (msgS m)] rfl (mval_b hm) rfl rfl ?_
  (try simp only [List.cons_append, List.nil_append])
  refine den_ite (fun h1 => den_ret ?_) (fun h1 => ?_)
  · simp only [dF, dE] at h1
    obtain ⟨q1, q2⟩ := ans_no (e := e) (m := m) (k := msgS m) (by unfold ansV; rw [if_pos h1]) h1
    simp only [dF, dE]
    rw [q1, q2]
  simp only [dF, dE] at h1
  refine den_cal [.bool (resB m)] rfl (isr_fn m) rfl rfl ?_
  (try simp only [List.cons_append, List.nil_append])
  refine den_ite (fun h2 => ?_) (fun h2 => den_ret ?_)
  rotate_left
  · simp only [dF, dE] at h2
    obtain ⟨q1, q2⟩ := ans_no (e := e) (m := m) (k := 1) (by unfold ansV; rw [if_neg (fun c => c h1), if_pos h2]) (by decide)
    simp only [dF, dE]
    rw [q1, q2]
  simp only [dF, dE] at h2
  refine den_cal [.bool (newB m.id e.se)] rfl (newer_fn m e.se) rfl rfl ?_
  (try simp only [List.cons_append, List.nil_append])
  refine den_ite (fun h3 => ?_) (fun h3 => den_ret ?_)
  rotate_left
  · simp only [dF, dE] at h3
    obtain ⟨q1, q2⟩ := ans_no (e := e) (m := m) (k := 10) (by unfold ansV; rw [if_neg (fun c => c h1), if_neg (by rw [h2]; decide), if_pos h3]) (by decide)
    simp only [dF, dE]
    rw [q1, q2]
  simp only [dF, dE] at h3
  have q0 : ansV e m = 0 := by unfold ansV; rw [if_neg (fun c => c h1), if_neg (by rw [h2]; decide), if_neg (by rw [h3]; decide)]
  have q1 := ans_yes q0
  have hbl : ∀ x ∈ e.se ++ [m], MsB x := fun x hx => (List.mem_append.1 hx).elim (he.s x) (fun hx => by rw [List.mem_singleton.1 hx]; exact hm)
  refine den_cal (epL e) rfl (cop_fn e he) rfl rfl ?_
  (try simp only [List.cons_append, List.nil_append])
  refine den_cal [msgsD [m]] rfl (coll_fn [m] (by simp) (fun x hx => by rw [List.mem_singleton.1 hx]; exact hm)) rfl rfl ?_
  (try simp only [List.cons_append, List.nil_append])
  refine den_ev (evs_ob (by simp only [dF, dE]; omega) (evs_nil ?_))
  refine den_ite (fun h4 => ?_) (fun h4 => den_ret ?_)
  · simp only [dF, dE] at h4
    refine den_ev (evs_ob (by simp only [dF, dE]; omega) (evs_nil ?_))
    refine den_cal [msgsD ((e.se ++ [m]).drop 1)] rfl (coll_fn ((e.se ++ [m]).drop 1) (by simp; omega) (fun x hx => hbl x (List.mem_of_mem_drop hx))) (by simp only [dF, dE]; simp [List.take_of_length_le]) rfl (den_ret ?_)
    simp only [dF, dE]
    rw [q1, q0, show ansL e m = (e.se ++ [m]).drop 1 from by unfold ansL; rw [if_pos (by simp only [List.length_append, List.length_cons, List.length_nil]; omega)]]
  · simp only [dF, dE] at h4
    simp only [dF, dE]
    rw [q1, q0, show ansL e m = e.se ++ [m] from by unfold ansL; rw [if_neg (by simp only [List.length_append, List.length_cons, List.length_nil]; omega)]]
    (try simp)
def lastM (l : List Msg) : Msg := l.getD (l.length - 1) msgZ
set_option maxHeartbeats 1000000 in
theorem rans_fn (e : Ep) (m : Msg) (he : EpB e) (hm : MsB m) (hl : e.se.length ≤ 1000) (hnew : newB m.id e.se = (decide (e.se.length = 0) || decide ((lastM e.se).id < m.id))) : Fun Try.prog [] 27 [tEp, tM] [epD e, msD m] [tEp, tI] (.ok [epD (ansO e m), I64d (ansV e m)]) := by
  refine rans_ent _ _ ?_
  show vcrans.den _ _ _ _ _
  unfold vcrans
  refine den_cal [I64d (msgS m)] rfl (rmval_b hm) rfl rfl ?_
  (try simp only [List.cons_append, List.nil_append])
  refine den_ite (fun h1 => den_ret ?_) (fun h1 => ?_)
  · simp only [dF, dE] at h1
    obtain ⟨q1, q2⟩ := ans_no (e := e) (m := m) (k := msgS m) (by unfold ansV; rw [if_pos h1]) h1
    simp only [dF, dE]
    rw [q1, q2]
  simp only [dF, dE] at h1
  refine den_cal [.bool (resB m)] rfl (risr_fn m) rfl rfl ?_
  (try simp only [List.cons_append, List.nil_append])
  refine den_ite (fun h2 => ?_) (fun h2 => den_ret ?_)
  rotate_left
  · simp only [dF, dE] at h2
    obtain ⟨q1, q2⟩ := ans_no (e := e) (m := m) (k := 1) (by unfold ansV; rw [if_neg (fun c => c h1), if_pos h2]) (by decide)
    simp only [dF, dE]
    rw [q1, q2]
  simp only [dF, dE] at h2
  have q0 : newB m.id e.se = true → ansV e m = 0 := fun h3 => by unfold ansV; rw [if_neg (fun c => c h1), if_neg (by rw [h2]; decide), if_neg (by rw [h3]; decide)]
  refine den_ite (fun h5 => ?_) (fun h5 => ?_)
  · simp only [dF, dE] at h5
    have hw : IntKind.wrap .i64 ((e.se.length : Int) - 1) = ((e.se.length - 1 : Nat) : Int) := by rw [wrap_i64 (by omega) (by omega)]; omega
    have hg := getD_map (g := msD) msgZ (show e.se.length - 1 < e.se.length by omega)
    have hlm : e.se.getD (e.se.length - 1) msgZ = lastM e.se := rfl
    rw [hlm] at hg
    refine den_ev (evs_ob (by simp only [dF, dE, hw]; omega) (evs_ob (by simp only [dF, dE, hw]; omega) (evs_nil ?_)))
    refine den_ite (fun h3 => den_ret ?_) (fun h3 => ?_)
    · simp only [dF, dE, hw, hg] at h3
      have hn : newB m.id e.se = false := by rw [hnew, decide_eq_false (by omega), decide_eq_false (by omega)]; rfl
      obtain ⟨q1, q2⟩ := ans_no (e := e) (m := m) (k := 10) (by unfold ansV; rw [if_neg (fun c => c h1), if_neg (by rw [h2]; decide), if_pos hn]) (by decide)
      simp only [dF, dE]
      rw [q1, q2]
    simp only [dF, dE, hw, hg] at h3
    have hn := q0 (by rw [hnew, decide_eq_true (show (lastM e.se).id < m.id by omega), Bool.or_true])
    have q1 := ans_yes hn
    refine den_cal [msgsD (e.se ++ [m])] rfl (with_fn e.se m (by omega)) rfl rfl ?_
    (try simp only [List.cons_append, List.nil_append])
    refine den_ite (fun h4 => ?_) (fun h4 => den_ret ?_)
    · simp only [dF, dE] at h4
      refine den_ev (evs_ob (by simp only [dF, dE]; omega) (evs_nil (den_ret ?_)))
      simp only [dF, dE]
      rw [q1, hn, show ansL e m = (e.se ++ [m]).drop 1 from by unfold ansL; rw [if_pos (by simp only [List.length_append, List.length_cons, List.length_nil]; omega)]]
      simp [List.take_of_length_le]
    · simp only [dF, dE] at h4
      simp only [dF, dE]
      rw [q1, hn, show ansL e m = e.se ++ [m] from by unfold ansL; rw [if_neg (by simp only [List.length_append, List.length_cons, List.length_nil]; omega)]]
      (try simp)
  · simp only [dF, dE] at h5
    have hn := q0 (by rw [hnew, decide_eq_true (show e.se.length = 0 by omega), Bool.true_or])
    have q1 := ans_yes hn
    refine den_cal [msgsD (e.se ++ [m])] rfl (with_fn e.se m (by omega)) rfl rfl ?_
    (try simp only [List.cons_append, List.nil_append])
    refine den_ite (fun h4 => ?_) (fun h4 => den_ret ?_)
    · simp only [dF, dE] at h4
      refine den_ev (evs_ob (by simp only [dF, dE]; omega) (evs_nil (den_ret ?_)))
      simp only [dF, dE]
      rw [q1, hn, show ansL e m = (e.se ++ [m]).drop 1 from by unfold ansL; rw [if_pos (by simp only [List.length_append, List.length_cons, List.length_nil]; omega)]]
      simp [List.take_of_length_le]
    · simp only [dF, dE] at h4
      simp only [dF, dE]
      rw [q1, hn, show ansL e m = e.se ++ [m] from by unfold ansL; rw [if_neg (by simp only [List.length_append, List.length_cons, List.length_nil]; omega)]]
      (try simp)
def shTk (x : Tok) : Bool := decide (x.id.size ≤ 50 ∧ x.gr.size ≤ 50 ∧ x.co.size ≤ 50)
def shMs (m : Msg) : Bool := decide (m.tx.size ≤ 50 ∧ m.tk.size ≤ 50 ∧ m.te.size ≤ 50 ∧ m.rd.length ≤ 4 ∧ m.tks.length ≤ 4 ∧ m.p.pe.length ≤ 4 ∧ m.p.tx.size ≤ 50) && m.tks.all shTk
def shL (l : List Msg) : Bool := l.all shMs
def smE (e : Ep) : Bool := decide (e.qu.length ≤ 260 ∧ e.ou.length ≤ 3 ∧ e.se.length ≤ 20) && shL e.qu && shL e.ou && shL e.se
set_option maxHeartbeats 1000000 in
theorem short_fn (l : List Msg) (hl : l.length ≤ 4294967296) (hk : ∀ m ∈ l, m.tks.length ≤ maxLen) : Fun Try.prog [] 18 [tMs] [msgsD l] [tB] (.ok [.bool (shL l)]) := by
  have hmx : maxLen ≤ 9223372036854775807 := by decide
  refine short_ent _ _ ?_
  show vcshort.den _ _ _ _ _
  unfold vcshort
  refine den_loopI (fun xs => ∃ (q : Bool) (i : Nat), xs = [.bool q, I64d i] ∧ i ≤ l.length ∧ shL (l.take i) = true) (fun xs => l.length - (xs.getD 1 default).toI.toNat) ⟨false, 0, rfl, Nat.zero_le _, rfl⟩ ?_
  rintro _ ⟨q, i, rfl, hi, hv⟩
  (try simp only [List.cons_append, List.nil_append])
  refine den_ite (fun h => ?_) (fun h => den_ret ?_)
  rotate_left
  · simp only [dF, dE] at h
    have : i = l.length := by omega
    subst this
    rw [List.take_length] at hv
    simp only [dF, dE]
    rw [hv]
  simp only [dF, dE] at h
  have hi' : i < l.length := by omega
  have hg := getD_map (g := msD) msgZ hi'
  have hmem := EpB.mem hi'
  have htk := take_get msgZ hi'
  have hmk := hk _ hmem
  have hbad : shMs (l.getD i msgZ) = false → (FR.ok [D.bool false] : FR) = FR.ok [.bool (shL l)] := fun hb => by
    have : shL l = false := List.all_eq_false.2 ⟨_, hmem, by rw [hb]; decide⟩
    rw [this]
  generalize l.getD i msgZ = m at hg htk hmk hbad
  have hw : IntKind.wrap .i64 ((i : Int) + 1) = ((i + 1 : Nat) : Int) := by rw [wrap_i64 (by omega) (by omega)]; omega
  have hm1 : (¬ (m.tx.size ≤ 50 ∧ m.tk.size ≤ 50 ∧ m.te.size ≤ 50 ∧ m.rd.length ≤ 4 ∧ m.tks.length ≤ 4 ∧ m.p.pe.length ≤ 4 ∧ m.p.tx.size ≤ 50)) → shMs m = false := fun c => by unfold shMs; rw [decide_eq_false c, Bool.false_and]
  refine den_ev (evs_ob (by simp only [dF, dE]; omega) (evs_ob (by simp only [dF, dE]; omega) (evs_nil ?_)))
  refine den_ite (fun k0 => den_ret ?_) (fun k0 => ?_)
  · simp only [dF, dE, hg] at k0
    exact hbad (hm1 (by omega))
  simp only [dF, dE, hg] at k0
  refine den_ite (fun k1 => den_ret ?_) (fun k1 => ?_)
  · simp only [dF, dE, hg] at k1
    exact hbad (hm1 (by omega))
  simp only [dF, dE, hg] at k1
  refine den_ite (fun k2 => den_ret ?_) (fun k2 => ?_)
  · simp only [dF, dE, hg] at k2
    exact hbad (hm1 (by omega))
  simp only [dF, dE, hg] at k2
  refine den_ite (fun k3 => den_ret ?_) (fun k3 => ?_)
  · simp only [dF, dE, hg] at k3
    exact hbad (hm1 (by omega))
  simp only [dF, dE, hg] at k3
  refine den_ite (fun k4 => den_ret ?_) (fun k4 => ?_)
  · simp only [dF, dE, hg] at k4
    exact hbad (hm1 (by omega))
  simp only [dF, dE, hg] at k4
  refine den_ite (fun k5 => den_ret ?_) (fun k5 => ?_)
  · simp only [dF, dE, hg] at k5
    exact hbad (hm1 (by omega))
  simp only [dF, dE, hg] at k5
  refine den_ite (fun k6 => den_ret ?_) (fun k6 => ?_)
  · simp only [dF, dE, hg] at k6
    exact hbad (hm1 (by omega))
  simp only [dF, dE, hg] at k6
  refine den_loopI (fun xs => ∃ (q : Bool) (j : Nat), xs = [.bool q, I64d j] ∧ j ≤ m.tks.length ∧ (m.tks.take j).all shTk = true) (fun xs => m.tks.length - (xs.getD 1 default).toI.toNat) ⟨q, 0, rfl, Nat.zero_le _, rfl⟩ ?_
  rintro _ ⟨q2, j, rfl, hj, hv2⟩
  (try simp only [List.cons_append, List.nil_append])
  refine den_ite (fun h => ?_) (fun h => ?_)
  · simp only [dF, dE, hg] at h
    have hj' : j < m.tks.length := by omega
    have hg2 := getD_map (g := tkD) tok0 hj'
    have htk2 := take_get tok0 hj'
    have hbad2 : shTk (m.tks.getD j tok0) = false → shMs m = false := fun hb => by
      unfold shMs
      rw [List.all_eq_false.2 ⟨m.tks.getD j tok0, by rw [List.getD_eq_getElem?_getD, List.getElem?_eq_getElem hj', Option.getD_some]; exact List.getElem_mem hj', by rw [hb]; decide⟩, Bool.and_false]
    generalize m.tks.getD j tok0 = x at hg2 htk2 hbad2
    have hw2 : IntKind.wrap .i64 ((j : Int) + 1) = ((j + 1 : Nat) : Int) := by rw [wrap_i64 (by omega) (by omega)]; omega
    refine den_ev (evs_ob (by simp only [dF, dE]; omega) (evs_ob (by simp only [dF, dE, hg]; omega) (evs_nil ?_)))
    refine den_ite (fun p0 => den_ret ?_) (fun p0 => ?_)
    · simp only [dF, dE, hg, hg2] at p0
      exact hbad (hbad2 (by unfold shTk; rw [decide_eq_false_iff_not]; omega))
    simp only [dF, dE, hg, hg2] at p0
    refine den_ev (evs_ob (by simp only [dF, dE]; omega) (evs_ob (by simp only [dF, dE, hg]; omega) (evs_nil ?_)))
    refine den_ite (fun p1 => den_ret ?_) (fun p1 => ?_)
    · simp only [dF, dE, hg, hg2] at p1
      exact hbad (hbad2 (by unfold shTk; rw [decide_eq_false_iff_not]; omega))
    simp only [dF, dE, hg, hg2] at p1
    refine den_ev (evs_ob (by simp only [dF, dE]; omega) (evs_ob (by simp only [dF, dE, hg]; omega) (evs_nil ?_)))
    refine den_ite (fun p2 => den_ret ?_) (fun p2 => ?_)
    · simp only [dF, dE, hg, hg2] at p2
      exact hbad (hbad2 (by unfold shTk; rw [decide_eq_false_iff_not]; omega))
    simp only [dF, dE, hg, hg2] at p2
    refine den_back rfl ⟨q2, j + 1, (by simp only [dF, dE]; rw [hw2]), by omega, ?_⟩ (by simp only []; simp only [dF, dE]; rw [hw2]; omega)
    rw [htk2, List.all_append, hv2]
    simp only [List.all_cons, List.all_nil, Bool.and_true, Bool.true_and]
    unfold shTk
    rw [decide_eq_true_eq]
    omega
  · simp only [dF, dE, hg] at h
    have : j = m.tks.length := by omega
    subst this
    rw [List.take_length] at hv2
    refine den_back rfl ⟨q2, i + 1, (by simp only [dF, dE]; rw [hw]), by omega, ?_⟩ (by simp only []; simp only [dF, dE]; rw [hw]; omega)
    unfold shL at *
    rw [htk, List.all_append, hv]
    simp only [List.all_cons, List.all_nil, Bool.and_true, Bool.true_and]
    unfold shMs
    rw [hv2, decide_eq_true (by omega)]
    rfl
theorem small_fn (e : Ep) (h1 : ∀ m ∈ e.qu, m.tks.length ≤ maxLen) (h2 : ∀ m ∈ e.ou, m.tks.length ≤ maxLen) (h3 : ∀ m ∈ e.se, m.tks.length ≤ maxLen) : Fun Try.prog [] 11 [tEp] [epD e] [tB] (.ok [.bool (smE e)]) := by
  refine small_ent _ _ ?_
  show vcsmall.den _ _ _ _ _
  unfold vcsmall
  refine den_ite (fun g1 => ?_) (fun g1 => ?_)
  · simp only [dF, dE] at g1
    refine den_ite (fun g2 => ?_) (fun g2 => ?_)
    · simp only [dF, dE] at g2
      refine den_ite (fun g3 => ?_) (fun g3 => ?_)
      · simp only [dF, dE] at g3
        refine den_cal [.bool (shL e.qu)] rfl (short_fn e.qu (by omega) (by assumption)) rfl rfl ?_
        refine den_ite (fun h4 => ?_) (fun h4 => ?_)
        · simp only [dF, dE] at h4
          refine den_cal [.bool (shL e.ou)] rfl (short_fn e.ou (by omega) (by assumption)) rfl rfl ?_
          refine den_ite (fun h5 => ?_) (fun h5 => ?_)
          · simp only [dF, dE] at h5
            refine den_cal [.bool (shL e.se)] rfl (short_fn e.se (by omega) (by assumption)) rfl rfl ?_
            refine den_ret ?_
            simp only [dF, dE]
            rw [show smE e = shL e.se from by (unfold smE; rw [decide_eq_true (by omega)]; simp [*])]
          · simp only [dF, dE] at h5
            refine den_ret ?_
            simp only [dF, dE]
            rw [show smE e = false from by (unfold smE; first | (rw [decide_eq_false (by omega)]; rfl) | simp [*])]
        · simp only [dF, dE] at h4
          refine den_ret ?_
          simp only [dF, dE]
          rw [show smE e = false from by (unfold smE; first | (rw [decide_eq_false (by omega)]; rfl) | simp [*])]
      · simp only [dF, dE] at g3
        refine den_ret ?_
        simp only [dF, dE]
        rw [show smE e = false from by (unfold smE; first | (rw [decide_eq_false (by omega)]; rfl) | simp [*])]
    · simp only [dF, dE] at g2
      refine den_ret ?_
      simp only [dF, dE]
      rw [show smE e = false from by (unfold smE; first | (rw [decide_eq_false (by omega)]; rfl) | simp [*])]
  · simp only [dF, dE] at g1
    refine den_ret ?_
    simp only [dF, dE]
    rw [show smE e = false from by (unfold smE; first | (rw [decide_eq_false (by omega)]; rfl) | simp [*])]

end Go.Proofs.Ytmplgfkhknhacaa.C27
