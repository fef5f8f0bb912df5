/-
  chargenetref26's small functions, 22's and 02's: what they do with data. No conditions stand ahead of what is proved.
-/
import Derived.Test.YtfhdgaecclfccaaL7c
import Derived.Test.YtfhdgaecclfccaaId
set_option maxRecDepth 100000
set_option linter.unusedSimpArgs false
set_option linter.unusedVariables false
namespace Go.Proofs.Ytfhdgaecclfccaa.R26
open Go.Proofs.Ytfhdgaecclfccaa Go.Proofs.Ytfhdgaecclfccaa.Sy Go.Proofs.Ytfhdgaecclfccaa.L7 Go.Proofs.Ytfhdgaecclfccaa.Id Go.RowKit Go.WideShapes Go.ChangeShapes Go.ChangeAt
theorem hP : NoNum Try.prog := by unfold NoNum; kernel_rfl
def sgs : Nat → Option (List TS × List TS) := fun _ => none
def vceqrd : VC := (.ite (.cmp .neq (.len (.v 0)) (.len (.v 1)))
 (.ret [(.kb false)])
 (.loop [.bool, (.int .i64)] [(.kb false), (.ki .i64 0)]
  (.ite (.cmp .lss (.v 3) (.len (.v 0)))
   (.ev [(.ob (.cmp .geq (.v 3) (.ki .i64 0))), (.ob (.cmp .lss (.v 3) (.len (.v 0)))), (.ob (.cmp .geq (.v 3) (.ki .i64 0))), (.ob (.cmp .lss (.v 3) (.len (.v 1))))]
    (.ite (.and (.cmp .eql (.cell (.get (.v 0) (.v 3)) 0) (.cell (.get (.v 1) (.v 3)) 0)) (.and (.cmp .eql (.cell (.get (.v 0) (.v 3)) 1) (.cell (.get (.v 1) (.v 3)) 1)) (.kb true)))
     (.back 0 [(.v 2), (.ar .add .i64 (.v 3) (.ki .i64 1))])
     (.ret [(.kb false)])))
   (.ret [(.kb true)]))))
theorem eqrd_ent : EntOK Try.prog [] ⟨37, [(.c (.lst [(.int .i64), (.int .i64)])), (.c (.lst [(.int .i64), (.int .i64)]))], [(.c .bool)], vceqrd⟩ :=
  ent_of_gen hP Try.func37 rfl (by decide) (sg := sgs) (by kernel_rfl)
abbrev rD (x : Int × Int) : D := .rc [I64d x.1, I64d x.2]
abbrev rdD (l : List (Int × Int)) : D := .lst (l.map rD)
abbrev tR : TS := .c (.lst [.int .i64, .int .i64])
structure Tok where
  id : ByteArray
  gr : ByteArray
  co : ByteArray
  ki : Int
  st : Int
  ex : Int
  deriving DecidableEq
abbrev tkD (t : Tok) : D := .rc [.str t.id, .str t.gr, .str t.co, I64d t.ki, I64d t.st, I64d t.ex]
abbrev tksD (l : List Tok) : D := .lst (l.map tkD)
abbrev tTk : TS := .c (.lst [.str, .str, .str, .int .i64, .int .i64, .int .i64])
def tok0 : Tok := ⟨⟨#[]⟩, ⟨#[]⟩, ⟨#[]⟩, 0, 0, 0⟩
structure Prof where
  id : Int
  lv : Int
  pu : Int
  ki : Int
  co : Int
  tx : ByteArray
  fr : Int
  to : Int
  st : Int
  du : Int
  pe : List (Int × Int)
  deriving DecidableEq
abbrev prL (p : Prof) : List D := [I64d p.id, I64d p.lv, I64d p.pu, I64d p.ki, I64d p.co, .str p.tx, I64d p.fr, I64d p.to, I64d p.st, I64d p.du, rdD p.pe]
abbrev tPr : TS := .g [.int .i64, .int .i64, .int .i64, .int .i64, .int .i64, .str, .int .i64, .int .i64, .int .i64, .int .i64, .lst [.int .i64, .int .i64]]
def prof0 : Prof := ⟨0, 0, 0, 0, 0, ⟨#[]⟩, 0, 0, 0, 0, []⟩
structure Msg where
  ki : Int
  id : Int
  ac : Int
  co : Int
  st : Int
  sq : Int
  at' : Int
  va : Int
  tx : ByteArray
  tk : ByteArray
  te : ByteArray
  off : Bool
  rd : List (Int × Int)
  p : Prof
  tks : List Tok
  deriving DecidableEq
abbrev msL (m : Msg) : List D := [I64d m.ki, I64d m.id, I64d m.ac, I64d m.co, I64d m.st, I64d m.sq, I64d m.at', I64d m.va, .str m.tx, .str m.tk, .str m.te, .bool m.off, rdD m.rd, I64d m.p.id, I64d m.p.lv, I64d m.p.pu, I64d m.p.ki, I64d m.p.co, .str m.p.tx, I64d m.p.fr, I64d m.p.to, I64d m.p.st, I64d m.p.du, rdD m.p.pe, tksD m.tks]
abbrev msD (m : Msg) : D := .rc (msL m)
abbrev tM : TS := .g [.int .i64, .int .i64, .int .i64, .int .i64, .int .i64, .int .i64, .int .i64, .int .i64, .str, .str, .str, .bool, .lst [.int .i64, .int .i64], .int .i64, .int .i64, .int .i64, .int .i64, .int .i64, .str, .int .i64, .int .i64, .int .i64, .int .i64, .lst [.int .i64, .int .i64], .lst [.str, .str, .str, .int .i64, .int .i64, .int .i64]]
theorem getD_map {α : Type} {g : α → D} {l : List α} {i : Nat} (a : α) (h : i < l.length) : (l.map g).getD i default = g (l.getD i a) := by simp [List.getD_eq_getElem?_getD, h]
theorem str_eq (a b : ByteArray) : (a.toList == b.toList) = decide (a = b) := by
  rw [ByteArray.toList_eq, ByteArray.toList_eq]
  by_cases h : a = b
  · subst h; simp
  · simp only [h, decide_false, beq_eq_false_iff_ne, ne_eq]
    intro e
    apply h
    obtain ⟨⟨l⟩⟩ := a
    obtain ⟨⟨m⟩⟩ := b
    simp only at e
    rw [e]
theorem emp_iff (s : ByteArray) : s = ⟨#[]⟩ ↔ s.size = 0 := by
  constructor
  · rintro rfl; rfl
  · intro h
    obtain ⟨⟨l⟩⟩ := s
    have : l = [] := List.length_eq_zero_iff.1 h
    rw [this]
theorem bytesD_eq (s : ByteArray) : bytesD s = (sB s).map U8d := by simp [bytesD, sB]
theorem take_step {α : Type} {a b : List α} {i : Nat} (d : α) (ha : i < a.length) (hb : i < b.length) (h : a.take i = b.take i) (he : a.getD i d = b.getD i d) : a.take (i + 1) = b.take (i + 1) := by rw [take_get d ha, take_get d hb, h, he]
theorem take_all {α : Type} {a b : List α} (hl : a.length = b.length) (h : a.take a.length = b.take a.length) : a = b := by
  rw [List.take_length] at h
  rw [h, List.take_of_length_le (by omega)]

def rdgB (x : Int × Int) : Bool := decide (0 ≤ x.1 ∧ x.1 ≤ 268435456 ∧ 0 ≤ x.2 ∧ x.2 ≤ 1099511627775)
def txtF (t : Int) (s : ByteArray) : List Fld := if s.size = 0 then [] else [(t, sB s)]
def numF (t n : Int) : List Fld := if n = 0 then [] else [(t, putS n)]
def flagF (t : Int) (b : Bool) : List Fld := if b then [(t, putS 1)] else []
def listF (t : Int) (p : List (List Int)) : List Fld := if p = [] then [] else [(t, putL p)]
def pairL (x : Int × Int) : List Int := [x.1, x.2]
theorem eqrd_fn (a b : List (Int × Int)) (ha : a.length ≤ maxLen) (hb : b.length ≤ maxLen) : Fun Try.prog [] 37 [tR, tR] [rdD a, rdD b] [tB] (.ok [.bool (decide (a = b))]) := by
  refine eqrd_ent _ _ ?_
  show vceqrd.den _ _ _ _ _
  unfold vceqrd
  have hmx : maxLen ≤ 9223372036854775807 := by decide
  refine den_ite (fun h => den_ret ?_) (fun h => ?_)
  · simp only [E.den, D.toI, D.toB, D.toL, D.toS, D.len, D.mapL, flatD, dE] at h
    have hne : a ≠ b := fun e => h (by rw [e])
    simp only [E.den, D.toI, D.toB, D.toL, D.toS, D.len, D.mapL, flatD, dE]
    simp [hne]
  simp only [E.den, D.toI, D.toB, D.toL, D.toS, D.len, D.mapL, flatD, dE] at h
  refine den_loop (fun xs => ∃ (q : Bool) (i : Nat), xs = [.bool q, I64d i] ∧ i ≤ a.length ∧ a.take i = b.take i) (fun xs => a.length - (xs.getD 1 default).toI.toNat) ⟨false, 0, rfl, by omega, rfl⟩ ?_
  simp only [AllSh]
  intro q n _ _ ⟨_, i, he, hi, htk⟩
  simp only [List.cons.injEq, D.int.injEq, D.bool.injEq, true_and, and_true] at he
  obtain ⟨rfl, rfl⟩ := he
  (try simp only [List.cons_append, List.nil_append])
  refine den_ite (fun h2 => ?_) (fun h2 => ?_)
  · simp only [E.den, D.toI, D.toB, D.toL, D.toS, D.len, D.mapL, flatD, dE] at h2
    have hia : i < a.length := by omega
    have hib : i < b.length := by omega
    have ga := getD_map (g := rD) (0, 0) hia
    have gb := getD_map (g := rD) (0, 0) hib
    have hw : IntKind.wrap .i64 ((i : Int) + 1) = ((i + 1 : Nat) : Int) := by rw [wrap_i64 (by omega) (by omega)]; omega
    refine den_ev (evs_ob (by simp only [E.den, D.toI, D.toB, D.toL, D.toS, D.len, D.mapL, flatD, dE]; omega) (evs_ob (by simp only [E.den, D.toI, D.toB, D.toL, D.toS, D.len, D.mapL, flatD, dE]; omega) (evs_ob (by simp only [E.den, D.toI, D.toB, D.toL, D.toS, D.len, D.mapL, flatD, dE]; omega) (evs_ob (by simp only [E.den, D.toI, D.toB, D.toL, D.toS, D.len, D.mapL, flatD, dE]; omega) (evs_nil ?_)))))
    refine den_ite (fun h3 => ?_) (fun h3 => ?_)
    · simp only [E.den, D.toI, D.toB, D.toL, D.toS, D.len, D.mapL, flatD, dE, ga, gb, str_eq] at h3
      refine den_back rfl ⟨q, i + 1, (by simp only [E.den, D.toI, D.toB, D.toL, D.toS, D.len, D.mapL, flatD, dE]; rw [hw]), by omega, take_step (0, 0) hia hib htk ?_⟩ (by simp only []; simp only [E.den, D.toI, D.toB, D.toL, D.toS, D.len, D.mapL, flatD, dE]; rw [hw]; omega)
      generalize a.getD i (0, 0) = x at *
      generalize b.getD i (0, 0) = y at *
      cases x
      cases y
      simp_all
    · simp only [E.den, D.toI, D.toB, D.toL, D.toS, D.len, D.mapL, flatD, dE, ga, gb, str_eq] at h3
      refine den_ret ?_
      have hne : a ≠ b := fun e => by rw [e] at h3; simp at h3
      simp only [E.den, D.toI, D.toB, D.toL, D.toS, D.len, D.mapL, flatD, dE]
      simp [hne]
  · simp only [E.den, D.toI, D.toB, D.toL, D.toS, D.len, D.mapL, flatD, dE] at h2
    have hia : i = a.length := by omega
    subst hia
    have heq : a = b := take_all (by omega) htk
    refine den_ret ?_
    simp only [E.den, D.toI, D.toB, D.toL, D.toS, D.len, D.mapL, flatD, dE]
    simp [heq]
def msOK (m : Msg) : Prop := m.rd.length ≤ maxLen ∧ m.p.pe.length ≤ maxLen ∧ m.tks.length ≤ maxLen
end Go.Proofs.Ytfhdgaecclfccaa.R26
set_option maxRecDepth 100000
set_option linter.unusedSimpArgs false
set_option linter.unusedVariables false
namespace Go.Proofs.Ytfhdgaecclfccaa.R26
open Go.Proofs.Ytfhdgaecclfccaa Go.Proofs.Ytfhdgaecclfccaa.Sy Go.Proofs.Ytfhdgaecclfccaa.L7 Go.Proofs.Ytfhdgaecclfccaa.Id Go.RowKit Go.WideShapes Go.ChangeShapes Go.ChangeAt
theorem typ_rds {d : D} (h : Typ (.lst [.int .i64, .int .i64]) d) : ∃ l : List (Int × Int), d = rdD l ∧ l.length ≤ maxLen ∧ ∀ x ∈ l, inI x.1 ∧ inI x.2 := by
  unfold Typ at h
  obtain ⟨l, rfl, hl, hx⟩ := h
  obtain ⟨L, rfl, hL⟩ := list_read (g := rD) (q := fun x => inI x.1 ∧ inI x.2) (p := fun d => Typs [.int .i64, .int .i64] (d.cells [.int .i64, .int .i64])) (fun d hd => by
    cases d with
    | rc ds =>
      simp only [D.cells, List.length_cons, List.length_nil] at hd
      unfold Typs at hd
      obtain ⟨_, _, rfl, h1, hd⟩ := hd
      unfold Typs at hd
      obtain ⟨_, _, rfl, h2, hd⟩ := hd
      unfold Typs at hd
      subst hd
      obtain ⟨a, rfl, ha⟩ := typ_int h1
      obtain ⟨b, rfl, hb⟩ := typ_int h2
      exact ⟨(a, b), rfl, ha, hb⟩
    | _ => simp [D.cells, Typs] at hd) l hx
  exact ⟨L, rfl, by simpa using hl, hL⟩
structure TkT (t : Tok) : Prop where
  id : t.id.size ≤ maxLen
  gr : t.gr.size ≤ maxLen
  co : t.co.size ≤ maxLen
  ki : inI t.ki
  st : inI t.st
  ex : inI t.ex
theorem typ_tks {d : D} (h : Typ (.lst [.str, .str, .str, .int .i64, .int .i64, .int .i64]) d) : ∃ l : List Tok, d = tksD l ∧ l.length ≤ maxLen ∧ ∀ x ∈ l, TkT x := by
  unfold Typ at h
  obtain ⟨l, rfl, hl, hx⟩ := h
  obtain ⟨L, rfl, hL⟩ := list_read (g := tkD) (q := TkT) (p := fun d => Typs [.str, .str, .str, .int .i64, .int .i64, .int .i64] (d.cells [.str, .str, .str, .int .i64, .int .i64, .int .i64])) (fun d hd => by
    cases d with
    | rc ds =>
      simp only [D.cells, List.length_cons, List.length_nil] at hd
      unfold Typs at hd
      obtain ⟨_, _, rfl, h1, hd⟩ := hd
      unfold Typs at hd
      obtain ⟨_, _, rfl, h2, hd⟩ := hd
      unfold Typs at hd
      obtain ⟨_, _, rfl, h3, hd⟩ := hd
      unfold Typs at hd
      obtain ⟨_, _, rfl, h4, hd⟩ := hd
      unfold Typs at hd
      obtain ⟨_, _, rfl, h5, hd⟩ := hd
      unfold Typs at hd
      obtain ⟨_, _, rfl, h6, hd⟩ := hd
      unfold Typs at hd
      subst hd
      obtain ⟨a1, rfl, b1⟩ := typ_str h1
      obtain ⟨a2, rfl, b2⟩ := typ_str h2
      obtain ⟨a3, rfl, b3⟩ := typ_str h3
      obtain ⟨a4, rfl, b4⟩ := typ_int h4
      obtain ⟨a5, rfl, b5⟩ := typ_int h5
      obtain ⟨a6, rfl, b6⟩ := typ_int h6
      exact ⟨⟨a1, a2, a3, a4, a5, a6⟩, rfl, ⟨b1, b2, b3, b4, b5, b6⟩⟩
    | _ => simp [D.cells, Typs] at hd) l hx
  exact ⟨L, rfl, by simpa using hl, hL⟩
structure PrT (p : Prof) : Prop where
  id : inI p.id
  lv : inI p.lv
  pu : inI p.pu
  ki : inI p.ki
  co : inI p.co
  tx : p.tx.size ≤ maxLen
  fr : inI p.fr
  to : inI p.to
  st : inI p.st
  du : inI p.du
  pe : p.pe.length ≤ maxLen ∧ ∀ x ∈ p.pe, inI x.1 ∧ inI x.2
structure MsT (m : Msg) : Prop where
  ki : inI m.ki
  id : inI m.id
  ac : inI m.ac
  co : inI m.co
  st : inI m.st
  sq : inI m.sq
  at' : inI m.at'
  va : inI m.va
  tx : m.tx.size ≤ maxLen
  tk : m.tk.size ≤ maxLen
  te : m.te.size ≤ maxLen
  rd : m.rd.length ≤ maxLen ∧ ∀ x ∈ m.rd, inI x.1 ∧ inI x.2
  p : PrT m.p
  tl : m.tks.length ≤ maxLen
  tks : ∀ t ∈ m.tks, TkT t
theorem typ_msg {d : D} (h : TypT tM d) : ∃ m : Msg, d = msD m ∧ MsT m := by
  obtain ⟨ds, rfl, h⟩ := h
  unfold Typs at h
  obtain ⟨_, _, rfl, h0, h⟩ := h
  unfold Typs at h
  obtain ⟨_, _, rfl, h1, h⟩ := h
  unfold Typs at h
  obtain ⟨_, _, rfl, h2, h⟩ := h
  unfold Typs at h
  obtain ⟨_, _, rfl, h3, h⟩ := h
  unfold Typs at h
  obtain ⟨_, _, rfl, h4, h⟩ := h
  unfold Typs at h
  obtain ⟨_, _, rfl, h5, h⟩ := h
  unfold Typs at h
  obtain ⟨_, _, rfl, h6, h⟩ := h
  unfold Typs at h
  obtain ⟨_, _, rfl, h7, h⟩ := h
  unfold Typs at h
  obtain ⟨_, _, rfl, h8, h⟩ := h
  unfold Typs at h
  obtain ⟨_, _, rfl, h9, h⟩ := h
  unfold Typs at h
  obtain ⟨_, _, rfl, h10, h⟩ := h
  unfold Typs at h
  obtain ⟨_, _, rfl, h11, h⟩ := h
  unfold Typs at h
  obtain ⟨_, _, rfl, h12, h⟩ := h
  unfold Typs at h
  obtain ⟨_, _, rfl, h13, h⟩ := h
  unfold Typs at h
  obtain ⟨_, _, rfl, h14, h⟩ := h
  unfold Typs at h
  obtain ⟨_, _, rfl, h15, h⟩ := h
  unfold Typs at h
  obtain ⟨_, _, rfl, h16, h⟩ := h
  unfold Typs at h
  obtain ⟨_, _, rfl, h17, h⟩ := h
  unfold Typs at h
  obtain ⟨_, _, rfl, h18, h⟩ := h
  unfold Typs at h
  obtain ⟨_, _, rfl, h19, h⟩ := h
  unfold Typs at h
  obtain ⟨_, _, rfl, h20, h⟩ := h
  unfold Typs at h
  obtain ⟨_, _, rfl, h21, h⟩ := h
  unfold Typs at h
  obtain ⟨_, _, rfl, h22, h⟩ := h
  unfold Typs at h
  obtain ⟨_, _, rfl, h23, h⟩ := h
  unfold Typs at h
  obtain ⟨_, _, rfl, h24, h⟩ := h
  unfold Typs at h
  subst h
  obtain ⟨a0, rfl, b0⟩ := typ_int h0
  obtain ⟨a1, rfl, b1⟩ := typ_int h1
  obtain ⟨a2, rfl, b2⟩ := typ_int h2
  obtain ⟨a3, rfl, b3⟩ := typ_int h3
  obtain ⟨a4, rfl, b4⟩ := typ_int h4
  obtain ⟨a5, rfl, b5⟩ := typ_int h5
  obtain ⟨a6, rfl, b6⟩ := typ_int h6
  obtain ⟨a7, rfl, b7⟩ := typ_int h7
  obtain ⟨a8, rfl, b8⟩ := typ_str h8
  obtain ⟨a9, rfl, b9⟩ := typ_str h9
  obtain ⟨a10, rfl, b10⟩ := typ_str h10
  obtain ⟨a11, rfl⟩ := typ_bool h11
  obtain ⟨a12, rfl, b12⟩ := typ_rds h12
  obtain ⟨a13, rfl, b13⟩ := typ_int h13
  obtain ⟨a14, rfl, b14⟩ := typ_int h14
  obtain ⟨a15, rfl, b15⟩ := typ_int h15
  obtain ⟨a16, rfl, b16⟩ := typ_int h16
  obtain ⟨a17, rfl, b17⟩ := typ_int h17
  obtain ⟨a18, rfl, b18⟩ := typ_str h18
  obtain ⟨a19, rfl, b19⟩ := typ_int h19
  obtain ⟨a20, rfl, b20⟩ := typ_int h20
  obtain ⟨a21, rfl, b21⟩ := typ_int h21
  obtain ⟨a22, rfl, b22⟩ := typ_int h22
  obtain ⟨a23, rfl, b23⟩ := typ_rds h23
  obtain ⟨a24, rfl, b24, c24⟩ := typ_tks h24
  exact ⟨⟨a0, a1, a2, a3, a4, a5, a6, a7, a8, a9, a10, a11, a12, ⟨a13, a14, a15, a16, a17, a18, a19, a20, a21, a22, a23⟩, a24⟩, rfl, ⟨b0, b1, b2, b3, b4, b5, b6, b7, b8, b9, b10, b12, ⟨b13, b14, b15, b16, b17, b18, b19, b20, b21, b22, b23⟩, b24, c24⟩⟩
theorem MsT.ok {m : Msg} (h : MsT m) : msOK m := ⟨h.rd.1, h.p.pe.1, h.tl⟩
end Go.Proofs.Ytfhdgaecclfccaa.R26
