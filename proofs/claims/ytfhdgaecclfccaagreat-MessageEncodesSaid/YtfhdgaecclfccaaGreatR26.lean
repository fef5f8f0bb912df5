/-
  chargenetref26's small functions, 22's and 02's: what they do with data. No conditions stand ahead of what is proved.
-/
import Derived.Test.YtfhdgaecclfccaaGreatL7c
import Derived.Test.YtfhdgaecclfccaaGreatId
set_option maxRecDepth 100000
set_option linter.unusedSimpArgs false
set_option linter.unusedVariables false
namespace Go.Proofs.YtfhdgaecclfccaaGreat.R26
open Go.Proofs.YtfhdgaecclfccaaGreat Go.Proofs.YtfhdgaecclfccaaGreat.Sy Go.Proofs.YtfhdgaecclfccaaGreat.L7 Go.Proofs.YtfhdgaecclfccaaGreat.Id Go.RowKit Go.WideShapes Go.ChangeShapes Go.ChangeAt
theorem hP : NoNum Tryz.prog := by unfold NoNum; kernel_rfl
def sgs : Nat → Option (List TS × List TS) := fun f => if Nat.beq f 53 then some ([.r [.int .i64, .lst [.int .u8]], .c (.int .i64), .c .str], [.r [.int .i64, .lst [.int .u8]]]) else if Nat.beq f 51 then some ([.r [.int .i64, .lst [.int .u8]], .c (.int .i64), .c (.int .i64)], [.r [.int .i64, .lst [.int .u8]]]) else if Nat.beq f 52 then some ([.r [.int .i64, .lst [.int .u8]], .c (.int .i64), .c .bool], [.r [.int .i64, .lst [.int .u8]]]) else if Nat.beq f 54 then some ([.r [.int .i64, .lst [.int .u8]], .c (.int .i64), .c (.lst [.lst [.int .u8]])], [.r [.int .i64, .lst [.int .u8]]]) else if Nat.beq f 86 then some ([.c (.int .i64)], [.r [.int .u8]]) else none
def vcright : VC := (.ite (.cmp .geq (.v 0) (.ki .i64 0))
 (.ret [(.cmp .leq (.v 0) (.ki .i64 268435456))])
 (.ret [(.kb false)]))
theorem right_ent : EntOK Tryz.prog [] ⟨79, [(.c (.int .i64))], [(.c .bool)], vcright⟩ :=
  ent_of_gen hP Tryz.func79 rfl (by decide) (sg := sgs) (by kernel_rfl)
def vcin26 : VC := (.ite (.cmp .geq (.v 0) (.v 1))
 (.ret [(.cmp .leq (.v 0) (.v 2))])
 (.ret [(.kb false)]))
theorem in26_ent : EntOK Tryz.prog [] ⟨38, [(.c (.int .i64)), (.c (.int .i64)), (.c (.int .i64))], [(.c .bool)], vcin26⟩ :=
  ent_of_gen hP Tryz.func38 rfl (by decide) (sg := sgs) (by kernel_rfl)
def vcreading : VC := (.cal 79 [(.c (.int .i64))] [(.v 0)] [(.c .bool)] 2
 (.ite (.v 2)
  (.cal 38 [(.c (.int .i64)), (.c (.int .i64)), (.c (.int .i64))] [(.v 1), (.ki .i64 0), (.ki .i64 1099511627775)] [(.c .bool)] 3
   (.ret [(.v 3)]))
  (.ret [(.kb false)])))
theorem reading_ent : EntOK Tryz.prog [] ⟨45, [(.g [(.int .i64), (.int .i64)])], [(.c .bool)], vcreading⟩ :=
  ent_of_gen hP Tryz.func45 rfl (by decide) (sg := sgs) (by kernel_rfl)
def vctext : VC := (.ite (.seq (.v 2) (.ks ⟨List.toArray []⟩))
 (.ret [(.v 0)])
 (.ev [(.ob (.cmp .leq (.len (.app (.v 0) (.cons (.rc (.cons (.v 1) (.cons (.s2b (.v 2)) .nil))) .nil))) (.ki .i64 4294967296)))]
  (.ret [(.app (.v 0) (.cons (.rc (.cons (.v 1) (.cons (.s2b (.v 2)) .nil))) .nil))])))
theorem text_ent : EntOK Tryz.prog [] ⟨53, [(.r [(.int .i64), (.lst [(.int .u8)])]), (.c (.int .i64)), (.c .str)], [(.r [(.int .i64), (.lst [(.int .u8)])])], vctext⟩ :=
  ent_of_gen hP Tryz.func53 rfl (by decide) (sg := sgs) (by kernel_rfl)
def vcnum : VC := (.ite (.cmp .eql (.v 2) (.ki .i64 0))
 (.ret [(.v 0)])
 (.cal 86 [(.c (.int .i64))] [(.v 2)] [(.r [(.int .u8)])] 3
  (.ev [(.ob (.cmp .leq (.len (.app (.v 0) (.cons (.rc (.cons (.v 1) (.cons (.v 3) .nil))) .nil))) (.ki .i64 4294967296)))]
   (.ret [(.app (.v 0) (.cons (.rc (.cons (.v 1) (.cons (.v 3) .nil))) .nil))]))))
theorem num_ent : EntOK Tryz.prog [] ⟨51, [(.r [(.int .i64), (.lst [(.int .u8)])]), (.c (.int .i64)), (.c (.int .i64))], [(.r [(.int .i64), (.lst [(.int .u8)])])], vcnum⟩ :=
  ent_of_gen hP Tryz.func51 rfl (by decide) (sg := sgs) (by kernel_rfl)
def vcflag : VC := (.ite (.v 2)
 (.cal 51 [(.r [(.int .i64), (.lst [(.int .u8)])]), (.c (.int .i64)), (.c (.int .i64))] [(.v 0), (.v 1), (.ki .i64 1)] [(.r [(.int .i64), (.lst [(.int .u8)])])] 3
  (.ret [(.v 3)]))
 (.ret [(.v 0)]))
theorem flag_ent : EntOK Tryz.prog [] ⟨52, [(.r [(.int .i64), (.lst [(.int .u8)])]), (.c (.int .i64)), (.c .bool)], [(.r [(.int .i64), (.lst [(.int .u8)])])], vcflag⟩ :=
  ent_of_gen hP Tryz.func52 rfl (by decide) (sg := sgs) (by kernel_rfl)
def vclistf : VC := (.ite (.cmp .eql (.len (.v 2)) (.ki .i64 0))
 (.ret [(.v 0)])
 (.cal 87 [(.c (.lst [(.lst [(.int .u8)])]))] [(.v 2)] [(.c (.lst [(.int .u8)])), (.c (.int .i64))] 3
  (.ev [(.ob (.cmp .leq (.len (.app (.v 0) (.cons (.rc (.cons (.v 1) (.cons (.v 3) .nil))) .nil))) (.ki .i64 4294967296)))]
   (.ret [(.app (.v 0) (.cons (.rc (.cons (.v 1) (.cons (.v 3) .nil))) .nil))]))))
theorem listf_ent : EntOK Tryz.prog [] ⟨54, [(.r [(.int .i64), (.lst [(.int .u8)])]), (.c (.int .i64)), (.c (.lst [(.lst [(.int .u8)])]))], [(.r [(.int .i64), (.lst [(.int .u8)])])], vclistf⟩ :=
  ent_of_gen hP Tryz.func54 rfl (by decide) (sg := sgs) (by kernel_rfl)
def vcints : VC := (.loop [(.lst [(.lst [(.int .u8)])]), (.int .i64)] [.nil, (.ki .i64 0)]
 (.ite (.cmp .lss (.v 2) (.len (.v 0)))
  (.ev [(.ob (.cmp .geq (.v 2) (.ki .i64 0))), (.ob (.cmp .lss (.v 2) (.len (.v 0))))]
   (.cal 86 [(.c (.int .i64))] [(.get (.v 0) (.v 2))] [(.r [(.int .u8)])] 3
    (.ev [(.ob (.cmp .leq (.len (.app (.v 1) (.cons (.v 3) .nil))) (.ki .i64 4294967296)))]
     (.back 0 [(.app (.v 1) (.cons (.v 3) .nil)), (.ar .add .i64 (.v 2) (.ki .i64 1))]))))
  (.ret [(.v 1)])))
theorem ints_ent : EntOK Tryz.prog [] ⟨55, [(.c (.lst [(.int .i64)]))], [(.c (.lst [(.lst [(.int .u8)])]))], vcints⟩ :=
  ent_of_gen hP Tryz.func55 rfl (by decide) (sg := sgs) (by kernel_rfl)
def vcreadings : VC := (.loop [(.lst [(.int .i64)]), (.int .i64)] [.nil, (.ki .i64 0)]
 (.ite (.cmp .lss (.v 2) (.len (.v 0)))
  (.ev [(.ob (.cmp .geq (.v 2) (.ki .i64 0))), (.ob (.cmp .lss (.v 2) (.len (.v 0)))), (.ob (.cmp .geq (.v 2) (.ki .i64 0))), (.ob (.cmp .lss (.v 2) (.len (.v 0)))), (.ob (.cmp .leq (.len (.app (.v 1) (.cons (.cell (.get (.v 0) (.v 2)) 0) (.cons (.cell (.get (.v 0) (.v 2)) 1) .nil)))) (.ki .i64 4294967296)))]
   (.back 0 [(.app (.v 1) (.cons (.cell (.get (.v 0) (.v 2)) 0) (.cons (.cell (.get (.v 0) (.v 2)) 1) .nil))), (.ar .add .i64 (.v 2) (.ki .i64 1))]))
  (.ret [(.v 1)])))
theorem readings_ent : EntOK Tryz.prog [] ⟨56, [(.c (.lst [(.int .i64), (.int .i64)]))], [(.c (.lst [(.int .i64)]))], vcreadings⟩ :=
  ent_of_gen hP Tryz.func56 rfl (by decide) (sg := sgs) (by kernel_rfl)
def vcnoprof : VC := (.ite (.cmp .eql (.v 0) (.ki .i64 0))
 (.ite (.cmp .eql (.v 1) (.ki .i64 0))
  (.ite (.cmp .eql (.v 2) (.ki .i64 0))
   (.ite (.cmp .eql (.v 3) (.ki .i64 0))
    (.ite (.cmp .eql (.v 4) (.ki .i64 0))
     (.ite (.seq (.v 5) (.ks ⟨List.toArray []⟩))
      (.ite (.and (.cmp .eql (.v 6) (.ki .i64 0)) (.and (.cmp .eql (.v 7) (.ki .i64 0)) (.kb true)))
       (.ite (.cmp .eql (.v 8) (.ki .i64 0))
        (.ite (.cmp .eql (.v 9) (.ki .i64 0))
         (.ret [(.cmp .eql (.len (.v 10)) (.ki .i64 0))])
         (.ret [(.kb false)]))
        (.ret [(.kb false)]))
       (.ret [(.kb false)]))
      (.ret [(.kb false)]))
     (.ret [(.kb false)]))
    (.ret [(.kb false)]))
   (.ret [(.kb false)]))
  (.ret [(.kb false)]))
 (.ret [(.kb false)]))
theorem noprof_ent : EntOK Tryz.prog [] ⟨78, [(.g shP6)], [(.c .bool)], vcnoprof⟩ :=
  ent_of_gen hP Tryz.func78 rfl (by decide) (sg := sgs) (by kernel_rfl)
def vceqrd : VC := (.ite (.cmp .neq (.len (.v 0)) (.len (.v 1)))
 (.ret [(.kb false)])
 (.loop [.bool, (.int .i64)] [(.kb false), (.ki .i64 0)]
  (.ite (.cmp .lss (.v 3) (.len (.v 0)))
   (.ev [(.ob (.cmp .geq (.v 3) (.ki .i64 0))), (.ob (.cmp .lss (.v 3) (.len (.v 0)))), (.ob (.cmp .geq (.v 3) (.ki .i64 0))), (.ob (.cmp .lss (.v 3) (.len (.v 1))))]
    (.ite (.and (.cmp .eql (.cell (.get (.v 0) (.v 3)) 0) (.cell (.get (.v 1) (.v 3)) 0)) (.and (.cmp .eql (.cell (.get (.v 0) (.v 3)) 1) (.cell (.get (.v 1) (.v 3)) 1)) (.kb true)))
     (.back 0 [(.v 2), (.ar .add .i64 (.v 3) (.ki .i64 1))])
     (.ret [(.kb false)])))
   (.ret [(.kb true)]))))
theorem eqrd_ent : EntOK Tryz.prog [] ⟨26, [(.c (.lst [(.int .i64), (.int .i64)])), (.c (.lst [(.int .i64), (.int .i64)]))], [(.c .bool)], vceqrd⟩ :=
  ent_of_gen hP Tryz.func26 rfl (by decide) (sg := sgs) (by kernel_rfl)
abbrev rD (x : Int × Int) : D := .rc [I64d x.1, I64d x.2]
abbrev rdD (l : List (Int × Int)) : D := .lst (l.map rD)
abbrev isD (l : List Int) : D := .lst (l.map I64d)
abbrev tR : TS := .c (.lst [.int .i64, .int .i64])
abbrev tFr : TS := .r [.int .i64, .lst [.int .u8]]
structure Tok where
  id : ByteArray
  gr : ByteArray
  co : ByteArray
  ki : Int
  st : Int
  ex : Int
  deriving DecidableEq
abbrev tkD (t : Tok) : D := .rc [.str t.id, .str t.gr, .str t.co, I64d t.ki, I64d t.st, I64d t.ex]
abbrev tksD (l : List Tok) : D := .lst (l.map tkD)
def tok0 : Tok := ⟨⟨#[]⟩, ⟨#[]⟩, ⟨#[]⟩, 0, 0, 0⟩
structure Prof where
  id : Int
  lv : Int
  pu : Int
  ki : Int
  co : Int
  tx : ByteArray
  fr : Int
  to : Int
  st : Int
  du : Int
  pe : List (Int × Int)
  deriving DecidableEq
abbrev prL (p : Prof) : List D := [I64d p.id, I64d p.lv, I64d p.pu, I64d p.ki, I64d p.co, .str p.tx, I64d p.fr, I64d p.to, I64d p.st, I64d p.du, rdD p.pe]
abbrev tPr : TS := .g [.int .i64, .int .i64, .int .i64, .int .i64, .int .i64, .str, .int .i64, .int .i64, .int .i64, .int .i64, .lst [.int .i64, .int .i64]]
def prof0 : Prof := ⟨0, 0, 0, 0, 0, ⟨#[]⟩, 0, 0, 0, 0, []⟩
structure Msg where
  ki : Int
  id : Int
  ac : Int
  co : Int
  st : Int
  sq : Int
  at' : Int
  va : Int
  tx : ByteArray
  tk : ByteArray
  te : ByteArray
  off : Bool
  rd : List (Int × Int)
  p : Prof
  tks : List Tok
  deriving DecidableEq
abbrev msL (m : Msg) : List D := [I64d m.ki, I64d m.id, I64d m.ac, I64d m.co, I64d m.st, I64d m.sq, I64d m.at', I64d m.va, .str m.tx, .str m.tk, .str m.te, .bool m.off, rdD m.rd, I64d m.p.id, I64d m.p.lv, I64d m.p.pu, I64d m.p.ki, I64d m.p.co, .str m.p.tx, I64d m.p.fr, I64d m.p.to, I64d m.p.st, I64d m.p.du, rdD m.p.pe, tksD m.tks]
abbrev msD (m : Msg) : D := .rc (msL m)
abbrev tM : TS := .g [.int .i64, .int .i64, .int .i64, .int .i64, .int .i64, .int .i64, .int .i64, .int .i64, .str, .str, .str, .bool, .lst [.int .i64, .int .i64], .int .i64, .int .i64, .int .i64, .int .i64, .int .i64, .str, .int .i64, .int .i64, .int .i64, .int .i64, .lst [.int .i64, .int .i64], .lst [.str, .str, .str, .int .i64, .int .i64, .int .i64]]
theorem getD_map {α : Type} {g : α → D} {l : List α} {i : Nat} (a : α) (h : i < l.length) : (l.map g).getD i default = g (l.getD i a) := by simp [List.getD_eq_getElem?_getD, h]
theorem str_eq (a b : ByteArray) : (a.toList == b.toList) = decide (a = b) := by
  rw [ByteArray.toList_eq, ByteArray.toList_eq]
  by_cases h : a = b
  · subst h; simp
  · simp only [h, decide_false, beq_eq_false_iff_ne, ne_eq]
    intro e
    apply h
    obtain ⟨⟨l⟩⟩ := a
    obtain ⟨⟨m⟩⟩ := b
    simp only at e
    rw [e]
theorem emp_iff (s : ByteArray) : s = ⟨#[]⟩ ↔ s.size = 0 := by
  constructor
  · rintro rfl; rfl
  · intro h
    obtain ⟨⟨l⟩⟩ := s
    have : l = [] := List.length_eq_zero_iff.1 h
    rw [this]
theorem bytesD_eq (s : ByteArray) : bytesD s = (sB s).map U8d := by simp [bytesD, sB]
theorem right_fn (a : Int) : Fun Tryz.prog [] 79 [tI] [I64d a] [tB] (.ok [.bool (decide (0 ≤ a ∧ a ≤ 268435456))]) := by
  refine right_ent _ _ ?_
  show vcright.den _ _ _ _ _
  unfold vcright
  refine den_ite (fun h => den_ret ?_) (fun h => den_ret ?_) <;> simp only [dF, dE] at h <;> simp only [dF, dE] <;> simp [h] <;> omega
theorem in26_fn (a b c : Int) : Fun Tryz.prog [] 38 [tI, tI, tI] [I64d a, I64d b, I64d c] [tB] (.ok [.bool (decide (b ≤ a ∧ a ≤ c))]) := by
  refine in26_ent _ _ ?_
  show vcin26.den _ _ _ _ _
  unfold vcin26
  refine den_ite (fun h => den_ret ?_) (fun h => den_ret ?_) <;> simp only [dF, dE] at h <;> simp only [dF, dE] <;> simp [h] <;> omega
def rdgB (x : Int × Int) : Bool := decide (0 ≤ x.1 ∧ x.1 ≤ 268435456 ∧ 0 ≤ x.2 ∧ x.2 ≤ 1099511627775)
theorem reading_fn (x : Int × Int) : Fun Tryz.prog [] 45 [.g [.int .i64, .int .i64]] [rD x] [tB] (.ok [.bool (rdgB x)]) := by
  refine reading_ent _ _ ?_
  show vcreading.den _ _ _ _ _
  unfold vcreading
  refine den_cal [.bool (decide (0 ≤ x.1 ∧ x.1 ≤ 268435456))] rfl (right_fn x.1) rfl rfl ?_
  (try simp only [dN])
  refine den_ite (fun h => ?_) (fun h => den_ret ?_)
  · simp only [dF, dE] at h
    refine den_cal [.bool (decide (0 ≤ x.2 ∧ x.2 ≤ 1099511627775))] rfl (in26_fn x.2 0 1099511627775) rfl rfl (den_ret ?_)
    simp only [dF, dE]
    simp [rdgB, h]
  · simp only [dF, dE] at h
    simp only [dF, dE]
    simp only [FR.ok.injEq, List.cons.injEq, D.bool.injEq, and_true, rdgB]
    simp
    omega
def txtF (t : Int) (s : ByteArray) : List Fld := if s.size = 0 then [] else [(t, sB s)]
def numF (t n : Int) : List Fld := if n = 0 then [] else [(t, putS n)]
def flagF (t : Int) (b : Bool) : List Fld := if b then [(t, putS 1)] else []
def listF (t : Int) (p : List (List Int)) : List Fld := if p = [] then [] else [(t, putL p)]
def pairL (x : Int × Int) : List Int := [x.1, x.2]
theorem text_fn (l : List Fld) (t : Int) (s : ByteArray) (hl : l.length ≤ 1000) : Fun Tryz.prog [] 53 [tFr, tI, tZ] [fsD l, I64d t, .str s] [tFr] (.ok [fsD (l ++ txtF t s)]) := by
  refine text_ent _ _ ?_
  show vctext.den _ _ _ _ _
  unfold vctext
  refine den_ite (fun h => den_ret ?_) (fun h => ?_)
  · simp only [dF, dE, str_eq, emp_iff] at h
    simp only [dF, dE]
    simp [txtF, h]
  · simp only [dF, dE, str_eq, emp_iff] at h
    refine den_ev (evs_ob (by simp only [dF, dE]; omega) (evs_nil (den_ret ?_)))
    simp only [dF, dE, bytesD_eq]
    simp [txtF, h]
theorem num_fn (l : List Fld) (t n : Int) (hn : in64 n) (hl : l.length ≤ 1000) : Fun Tryz.prog [] 51 [tFr, tI, tI] [fsD l, I64d t, I64d n] [tFr] (.ok [fsD (l ++ numF t n)]) := by
  refine num_ent _ _ ?_
  show vcnum.den _ _ _ _ _
  unfold vcnum
  refine den_ite (fun h => den_ret ?_) (fun h => ?_)
  · simp only [dF, dE] at h
    simp only [dF, dE]
    simp [numF, h]
  · simp only [dF, dE] at h
    refine den_cal [bD (putS n)] rfl (rputint_fn n hn) rfl rfl ?_
    refine den_ev (evs_ob (by simp only [dF, dE]; omega) (evs_nil (den_ret ?_)))
    simp only [dF, dE]
    simp [numF, h]
theorem flag_fn (l : List Fld) (t : Int) (b : Bool) (hl : l.length ≤ 1000) : Fun Tryz.prog [] 52 [tFr, tI, tB] [fsD l, I64d t, .bool b] [tFr] (.ok [fsD (l ++ flagF t b)]) := by
  refine flag_ent _ _ ?_
  show vcflag.den _ _ _ _ _
  unfold vcflag
  refine den_ite (fun h => ?_) (fun h => den_ret ?_)
  · have hb : b = true := h
    subst hb
    exact den_cal [fsD (l ++ numF t 1)] rfl (num_fn l t 1 (by unfold in64; omega) hl) rfl rfl (den_ret rfl)
  · have hb : b = false := h
    subst hb
    simp only [dF, dE]
    simp [flagF]
theorem listf_fn (l : List Fld) (t : Int) (p : List (List Int)) (hl : l.length ≤ 1000) (hp : p.length ≤ 256) (hs : ∀ x ∈ p, x.length ≤ 1000000) : Fun Tryz.prog [] 54 [tFr, tI, tYY] [fsD l, I64d t, bbD p] [tFr] (.ok [fsD (l ++ listF t p)]) := by
  refine listf_ent _ _ ?_
  show vclistf.den _ _ _ _ _
  unfold vclistf
  refine den_ite (fun h => den_ret ?_) (fun h => ?_)
  · simp only [dF, dE] at h
    have : p = [] := List.length_eq_zero_iff.1 (by omega)
    simp only [dF, dE]
    simp [listF, this]
  · simp only [dF, dE] at h
    have hne : p ≠ [] := fun e => by subst e; simp at h
    have h7 := rputl_fn p (by omega) hs
    rw [putListS_in hp] at h7
    refine den_cal [bD (putL p), I64d 0] rfl h7 rfl rfl ?_
    refine den_ev (evs_ob (by simp only [dF, dE]; omega) (evs_nil (den_ret ?_)))
    simp only [dF, dE]
    simp [listF, hne]
theorem ints_fn (l : List Int) (hin : ∀ n ∈ l, in64 n) (hl : l.length ≤ 100000) : Fun Tryz.prog [] 55 [tL] [isD l] [tYY] (.ok [bbD (l.map putS)]) := by
  refine ints_ent _ _ ?_
  show vcints.den _ _ _ _ _
  unfold vcints
  refine den_loop (fun xs => ∃ i : Nat, xs = [bbD ((l.take i).map putS), I64d i] ∧ i ≤ l.length) (fun xs => l.length - (xs.getD 1 default).toI.toNat) ⟨0, rfl, by omega⟩ ?_
  simp only [AllSh]
  intro _ _ n _ _ ⟨i, he, hi⟩
  simp only [List.cons.injEq, D.int.injEq, D.lst.injEq, true_and, and_true] at he
  obtain ⟨rfl, rfl⟩ := he
  (try simp only [dN])
  refine den_ite (fun h => ?_) (fun h => den_ret ?_)
  · simp only [dF, dE] at h
    have hi' : i < l.length := by omega
    have hw : IntKind.wrap .i64 ((i : Int) + 1) = ((i + 1 : Nat) : Int) := by rw [wrap_i64 (by omega) (by omega)]; omega
    have hg := getD_map (g := I64d) 0 hi'
    refine den_ev (evs_ob (by simp only [dF, dE]; omega) (evs_ob (by simp only [dF, dE]; omega) (evs_nil ?_)))
    refine den_cal [bD (putS (l.getD i 0))] rfl (rputint_fn (l.getD i 0) (hin _ (mem_getD 0 hi'))) (by simp only [dF, dE, hg]) rfl ?_
    refine den_ev (evs_ob (by simp only [dF, dE]; simp only [List.length_take]; omega) (evs_nil ?_))
    refine den_back rfl ⟨i + 1, ?_, by omega⟩ (by simp only []; simp only [dF, dE]; rw [hw]; omega)
    simp only [dF, dE]
    rw [hw, take_get 0 hi']
    simp
  · simp only [dF, dE] at h
    have : i = l.length := by omega
    subst this
    simp only [dF, dE]
    rw [List.take_length]
theorem readings_fn (l : List (Int × Int)) (hl : l.length ≤ 100000) : Fun Tryz.prog [] 56 [tR] [rdD l] [tL] (.ok [isD (l.flatMap pairL)]) := by
  refine readings_ent _ _ ?_
  show vcreadings.den _ _ _ _ _
  unfold vcreadings
  have hln : ∀ i, i ≤ l.length → ((l.take i).flatMap pairL).length = 2 * i := by
    intro i hi
    induction i with
    | zero => rfl
    | succ i ih => rw [take_get (0, 0) (by omega), List.flatMap_append, List.length_append, ih (by omega)]; simp [pairL]; omega
  refine den_loop (fun xs => ∃ i : Nat, xs = [isD ((l.take i).flatMap pairL), I64d i] ∧ i ≤ l.length) (fun xs => l.length - (xs.getD 1 default).toI.toNat) ⟨0, rfl, by omega⟩ ?_
  simp only [AllSh]
  intro _ _ n _ _ ⟨i, he, hi⟩
  simp only [List.cons.injEq, D.int.injEq, D.lst.injEq, true_and, and_true] at he
  obtain ⟨rfl, rfl⟩ := he
  (try simp only [dN])
  refine den_ite (fun h => ?_) (fun h => den_ret ?_)
  · simp only [dF, dE] at h
    have hi' : i < l.length := by omega
    have hw : IntKind.wrap .i64 ((i : Int) + 1) = ((i + 1 : Nat) : Int) := by rw [wrap_i64 (by omega) (by omega)]; omega
    have hg := getD_map (g := rD) (0, 0) hi'
    have hli := hln i hi
    refine den_ev (evs_ob (by simp only [dF, dE]; omega) (evs_ob (by simp only [dF, dE]; omega) (evs_ob (by simp only [dF, dE]; omega) (evs_ob (by simp only [dF, dE]; omega) (evs_ob (by simp only [dF, dE]; rw [hli]; omega) (evs_nil ?_))))))
    refine den_back rfl ⟨i + 1, ?_, by omega⟩ (by simp only []; simp only [dF, dE]; rw [hw]; omega)
    simp only [dF, dE, hg]
    rw [hw, take_get (0, 0) hi']
    simp [pairL]
  · simp only [dF, dE] at h
    have : i = l.length := by omega
    subst this
    simp only [dF, dE]
    rw [List.take_length]
theorem noprof_fn (p : Prof) : Fun Tryz.prog [] 78 [tPr] [.rc (prL p)] [tB] (.ok [.bool (decide (p = prof0))]) := by
  refine noprof_ent _ _ ?_
  show vcnoprof.den _ _ _ _ _
  unfold vcnoprof
  refine den_ite (fun h1 => ?_) (fun h1 => ?_)
  · simp only [dF, dE, str_eq] at h1
    refine den_ite (fun h2 => ?_) (fun h2 => ?_)
    · simp only [dF, dE, str_eq] at h2
      refine den_ite (fun h3 => ?_) (fun h3 => ?_)
      · simp only [dF, dE, str_eq] at h3
        refine den_ite (fun h4 => ?_) (fun h4 => ?_)
        · simp only [dF, dE, str_eq] at h4
          refine den_ite (fun h5 => ?_) (fun h5 => ?_)
          · simp only [dF, dE, str_eq] at h5
            refine den_ite (fun h6 => ?_) (fun h6 => ?_)
            · simp only [dF, dE, str_eq] at h6
              refine den_ite (fun h7 => ?_) (fun h7 => ?_)
              · simp only [dF, dE, str_eq] at h7
                refine den_ite (fun h8 => ?_) (fun h8 => ?_)
                · simp only [dF, dE, str_eq] at h8
                  refine den_ite (fun h9 => ?_) (fun h9 => ?_)
                  · simp only [dF, dE, str_eq] at h9
                    refine den_ret ?_
                    simp only [dF, dE]
                    have hne : (p = prof0) ↔ (p.pe.length : Int) = 0 := by (cases p; simp_all [prof0])
                    simp only [hne]
                    rfl
                  · simp only [dF, dE, str_eq] at h9
                    refine den_ret ?_
                    have hne : p ≠ prof0 := by (intro e; subst e; simp_all [prof0])
                    simp only [dF, dE]
                    simp [hne]
                · simp only [dF, dE, str_eq] at h8
                  refine den_ret ?_
                  have hne : p ≠ prof0 := by (intro e; subst e; simp_all [prof0])
                  simp only [dF, dE]
                  simp [hne]
              · simp only [dF, dE, str_eq] at h7
                refine den_ret ?_
                have hne : p ≠ prof0 := by (intro e; subst e; simp_all [prof0])
                simp only [dF, dE]
                simp [hne]
            · simp only [dF, dE, str_eq] at h6
              refine den_ret ?_
              have hne : p ≠ prof0 := by (intro e; subst e; simp_all [prof0])
              simp only [dF, dE]
              simp [hne]
          · simp only [dF, dE, str_eq] at h5
            refine den_ret ?_
            have hne : p ≠ prof0 := by (intro e; subst e; simp_all [prof0])
            simp only [dF, dE]
            simp [hne]
        · simp only [dF, dE, str_eq] at h4
          refine den_ret ?_
          have hne : p ≠ prof0 := by (intro e; subst e; simp_all [prof0])
          simp only [dF, dE]
          simp [hne]
      · simp only [dF, dE, str_eq] at h3
        refine den_ret ?_
        have hne : p ≠ prof0 := by (intro e; subst e; simp_all [prof0])
        simp only [dF, dE]
        simp [hne]
    · simp only [dF, dE, str_eq] at h2
      refine den_ret ?_
      have hne : p ≠ prof0 := by (intro e; subst e; simp_all [prof0])
      simp only [dF, dE]
      simp [hne]
  · simp only [dF, dE, str_eq] at h1
    refine den_ret ?_
    have hne : p ≠ prof0 := by (intro e; subst e; simp_all [prof0])
    simp only [dF, dE]
    simp [hne]
def msOK (m : Msg) : Prop := m.rd.length ≤ maxLen ∧ m.p.pe.length ≤ maxLen ∧ m.tks.length ≤ maxLen

end Go.Proofs.YtfhdgaecclfccaaGreat.R26
set_option maxRecDepth 100000
set_option linter.unusedSimpArgs false
set_option linter.unusedVariables false
namespace Go.Proofs.YtfhdgaecclfccaaGreat.R26
open Go.Proofs.YtfhdgaecclfccaaGreat Go.Proofs.YtfhdgaecclfccaaGreat.Sy Go.Proofs.YtfhdgaecclfccaaGreat.L7 Go.Proofs.YtfhdgaecclfccaaGreat.Id Go.RowKit Go.WideShapes Go.ChangeShapes Go.ChangeAt
theorem typ_rds {d : D} (h : Typ (.lst [.int .i64, .int .i64]) d) : ∃ l : List (Int × Int), d = rdD l ∧ l.length ≤ maxLen ∧ ∀ x ∈ l, inI x.1 ∧ inI x.2 := by
  unfold Typ at h
  obtain ⟨l, rfl, hl, hx⟩ := h
  obtain ⟨L, rfl, hL⟩ := list_read (g := rD) (q := fun x => inI x.1 ∧ inI x.2) (p := fun d => Typs [.int .i64, .int .i64] (d.cells [.int .i64, .int .i64])) (fun d hd => by
    cases d with
    | rc ds =>
      simp only [D.cells, List.length_cons, List.length_nil] at hd
      unfold Typs at hd
      obtain ⟨_, _, rfl, h1, hd⟩ := hd
      unfold Typs at hd
      obtain ⟨_, _, rfl, h2, hd⟩ := hd
      unfold Typs at hd
      subst hd
      obtain ⟨a, rfl, ha⟩ := typ_int h1
      obtain ⟨b, rfl, hb⟩ := typ_int h2
      exact ⟨(a, b), rfl, ha, hb⟩
    | _ => simp [D.cells, Typs] at hd) l hx
  exact ⟨L, rfl, by simpa using hl, hL⟩
structure TkT (t : Tok) : Prop where
  id : t.id.size ≤ maxLen
  gr : t.gr.size ≤ maxLen
  co : t.co.size ≤ maxLen
  ki : inI t.ki
  st : inI t.st
  ex : inI t.ex
theorem typ_tks {d : D} (h : Typ (.lst [.str, .str, .str, .int .i64, .int .i64, .int .i64]) d) : ∃ l : List Tok, d = tksD l ∧ l.length ≤ maxLen ∧ ∀ x ∈ l, TkT x := by
  unfold Typ at h
  obtain ⟨l, rfl, hl, hx⟩ := h
  obtain ⟨L, rfl, hL⟩ := list_read (g := tkD) (q := TkT) (p := fun d => Typs [.str, .str, .str, .int .i64, .int .i64, .int .i64] (d.cells [.str, .str, .str, .int .i64, .int .i64, .int .i64])) (fun d hd => by
    cases d with
    | rc ds =>
      simp only [D.cells, List.length_cons, List.length_nil] at hd
      unfold Typs at hd
      obtain ⟨_, _, rfl, h1, hd⟩ := hd
      unfold Typs at hd
      obtain ⟨_, _, rfl, h2, hd⟩ := hd
      unfold Typs at hd
      obtain ⟨_, _, rfl, h3, hd⟩ := hd
      unfold Typs at hd
      obtain ⟨_, _, rfl, h4, hd⟩ := hd
      unfold Typs at hd
      obtain ⟨_, _, rfl, h5, hd⟩ := hd
      unfold Typs at hd
      obtain ⟨_, _, rfl, h6, hd⟩ := hd
      unfold Typs at hd
      subst hd
      obtain ⟨a1, rfl, b1⟩ := typ_str h1
      obtain ⟨a2, rfl, b2⟩ := typ_str h2
      obtain ⟨a3, rfl, b3⟩ := typ_str h3
      obtain ⟨a4, rfl, b4⟩ := typ_int h4
      obtain ⟨a5, rfl, b5⟩ := typ_int h5
      obtain ⟨a6, rfl, b6⟩ := typ_int h6
      exact ⟨⟨a1, a2, a3, a4, a5, a6⟩, rfl, ⟨b1, b2, b3, b4, b5, b6⟩⟩
    | _ => simp [D.cells, Typs] at hd) l hx
  exact ⟨L, rfl, by simpa using hl, hL⟩
structure PrT (p : Prof) : Prop where
  id : inI p.id
  lv : inI p.lv
  pu : inI p.pu
  ki : inI p.ki
  co : inI p.co
  tx : p.tx.size ≤ maxLen
  fr : inI p.fr
  to : inI p.to
  st : inI p.st
  du : inI p.du
  pe : p.pe.length ≤ maxLen ∧ ∀ x ∈ p.pe, inI x.1 ∧ inI x.2
structure MsT (m : Msg) : Prop where
  ki : inI m.ki
  id : inI m.id
  ac : inI m.ac
  co : inI m.co
  st : inI m.st
  sq : inI m.sq
  at' : inI m.at'
  va : inI m.va
  tx : m.tx.size ≤ maxLen
  tk : m.tk.size ≤ maxLen
  te : m.te.size ≤ maxLen
  rd : m.rd.length ≤ maxLen ∧ ∀ x ∈ m.rd, inI x.1 ∧ inI x.2
  p : PrT m.p
  tl : m.tks.length ≤ maxLen
  tks : ∀ t ∈ m.tks, TkT t
theorem typ_msg {d : D} (h : TypT tM d) : ∃ m : Msg, d = msD m ∧ MsT m := by
  obtain ⟨ds, rfl, h⟩ := h
  unfold Typs at h
  obtain ⟨_, _, rfl, h0, h⟩ := h
  unfold Typs at h
  obtain ⟨_, _, rfl, h1, h⟩ := h
  unfold Typs at h
  obtain ⟨_, _, rfl, h2, h⟩ := h
  unfold Typs at h
  obtain ⟨_, _, rfl, h3, h⟩ := h
  unfold Typs at h
  obtain ⟨_, _, rfl, h4, h⟩ := h
  unfold Typs at h
  obtain ⟨_, _, rfl, h5, h⟩ := h
  unfold Typs at h
  obtain ⟨_, _, rfl, h6, h⟩ := h
  unfold Typs at h
  obtain ⟨_, _, rfl, h7, h⟩ := h
  unfold Typs at h
  obtain ⟨_, _, rfl, h8, h⟩ := h
  unfold Typs at h
  obtain ⟨_, _, rfl, h9, h⟩ := h
  unfold Typs at h
  obtain ⟨_, _, rfl, h10, h⟩ := h
  unfold Typs at h
  obtain ⟨_, _, rfl, h11, h⟩ := h
  unfold Typs at h
  obtain ⟨_, _, rfl, h12, h⟩ := h
  unfold Typs at h
  obtain ⟨_, _, rfl, h13, h⟩ := h
  unfold Typs at h
  obtain ⟨_, _, rfl, h14, h⟩ := h
  unfold Typs at h
  obtain ⟨_, _, rfl, h15, h⟩ := h
  unfold Typs at h
  obtain ⟨_, _, rfl, h16, h⟩ := h
  unfold Typs at h
  obtain ⟨_, _, rfl, h17, h⟩ := h
  unfold Typs at h
  obtain ⟨_, _, rfl, h18, h⟩ := h
  unfold Typs at h
  obtain ⟨_, _, rfl, h19, h⟩ := h
  unfold Typs at h
  obtain ⟨_, _, rfl, h20, h⟩ := h
  unfold Typs at h
  obtain ⟨_, _, rfl, h21, h⟩ := h
  unfold Typs at h
  obtain ⟨_, _, rfl, h22, h⟩ := h
  unfold Typs at h
  obtain ⟨_, _, rfl, h23, h⟩ := h
  unfold Typs at h
  obtain ⟨_, _, rfl, h24, h⟩ := h
  unfold Typs at h
  subst h
  obtain ⟨a0, rfl, b0⟩ := typ_int h0
  obtain ⟨a1, rfl, b1⟩ := typ_int h1
  obtain ⟨a2, rfl, b2⟩ := typ_int h2
  obtain ⟨a3, rfl, b3⟩ := typ_int h3
  obtain ⟨a4, rfl, b4⟩ := typ_int h4
  obtain ⟨a5, rfl, b5⟩ := typ_int h5
  obtain ⟨a6, rfl, b6⟩ := typ_int h6
  obtain ⟨a7, rfl, b7⟩ := typ_int h7
  obtain ⟨a8, rfl, b8⟩ := typ_str h8
  obtain ⟨a9, rfl, b9⟩ := typ_str h9
  obtain ⟨a10, rfl, b10⟩ := typ_str h10
  obtain ⟨a11, rfl⟩ := typ_bool h11
  obtain ⟨a12, rfl, b12⟩ := typ_rds h12
  obtain ⟨a13, rfl, b13⟩ := typ_int h13
  obtain ⟨a14, rfl, b14⟩ := typ_int h14
  obtain ⟨a15, rfl, b15⟩ := typ_int h15
  obtain ⟨a16, rfl, b16⟩ := typ_int h16
  obtain ⟨a17, rfl, b17⟩ := typ_int h17
  obtain ⟨a18, rfl, b18⟩ := typ_str h18
  obtain ⟨a19, rfl, b19⟩ := typ_int h19
  obtain ⟨a20, rfl, b20⟩ := typ_int h20
  obtain ⟨a21, rfl, b21⟩ := typ_int h21
  obtain ⟨a22, rfl, b22⟩ := typ_int h22
  obtain ⟨a23, rfl, b23⟩ := typ_rds h23
  obtain ⟨a24, rfl, b24, c24⟩ := typ_tks h24
  exact ⟨⟨a0, a1, a2, a3, a4, a5, a6, a7, a8, a9, a10, a11, a12, ⟨a13, a14, a15, a16, a17, a18, a19, a20, a21, a22, a23⟩, a24⟩, rfl, ⟨b0, b1, b2, b3, b4, b5, b6, b7, b8, b9, b10, b12, ⟨b13, b14, b15, b16, b17, b18, b19, b20, b21, b22, b23⟩, b24, c24⟩⟩
theorem MsT.ok {m : Msg} (h : MsT m) : msOK m := ⟨h.rd.1, h.p.pe.1, h.tl⟩
end Go.Proofs.YtfhdgaecclfccaaGreat.R26
