/-
  chargenetref26's small functions, 22's and 02's: what they do with data. No conditions stand ahead of what is proved.
-/
import Derived.Test.YtindphofgojfbaaL7c
import Derived.Test.YtindphofgojfbaaId
set_option maxRecDepth 100000
set_option linter.unusedSimpArgs false
set_option linter.unusedVariables false
namespace Go.Proofs.Ytindphofgojfbaa.R26
open Go.Proofs.Ytindphofgojfbaa Go.Proofs.Ytindphofgojfbaa.Sy Go.Proofs.Ytindphofgojfbaa.L7 Go.Proofs.Ytindphofgojfbaa.Id Go.RowKit Go.WideShapes Go.ChangeShapes Go.ChangeAt
theorem hP : NoNum Try.prog := by unfold NoNum; kernel_rfl
def sgs : Nat → Option (List TS × List TS) := fun _ => none
def vcclonerd : VC := (.nilq (.v 0)
 (.ret [.nil])
 (.ev [(.ob (.cmp .leq (.len (.app .nil (.v 0))) (.ki .i64 4294967296)))]
  (.ret [(.app .nil (.v 0))])))
theorem clonerd_ent : EntOK Try.prog [] ⟨35, [(.c (.lst [(.int .i64), (.int .i64)]))], [(.c (.lst [(.int .i64), (.int .i64)]))], vcclonerd⟩ :=
  ent_of_gen hP Try.func35 rfl (by decide) (sg := sgs) (by kernel_rfl)

abbrev rD (x : Int × Int) : D := .rc [I64d x.1, I64d x.2]
abbrev rdD (l : List (Int × Int)) : D := .lst (l.map rD)
abbrev isD (l : List Int) : D := .lst (l.map I64d)
abbrev tR : TS := .c (.lst [.int .i64, .int .i64])
structure Tok where
  id : ByteArray
  gr : ByteArray
  co : ByteArray
  ki : Int
  st : Int
  ex : Int
  deriving DecidableEq
abbrev tkD (t : Tok) : D := .rc [.str t.id, .str t.gr, .str t.co, I64d t.ki, I64d t.st, I64d t.ex]
abbrev tksD (l : List Tok) : D := .lst (l.map tkD)
abbrev tTk : TS := .c (.lst [.str, .str, .str, .int .i64, .int .i64, .int .i64])
def tok0 : Tok := ⟨⟨#[]⟩, ⟨#[]⟩, ⟨#[]⟩, 0, 0, 0⟩
structure Prof where
  id : Int
  lv : Int
  pu : Int
  ki : Int
  co : Int
  tx : ByteArray
  fr : Int
  to : Int
  st : Int
  du : Int
  pe : List (Int × Int)
  deriving DecidableEq
abbrev prL (p : Prof) : List D := [I64d p.id, I64d p.lv, I64d p.pu, I64d p.ki, I64d p.co, .str p.tx, I64d p.fr, I64d p.to, I64d p.st, I64d p.du, rdD p.pe]
abbrev tPr : TS := .g [.int .i64, .int .i64, .int .i64, .int .i64, .int .i64, .str, .int .i64, .int .i64, .int .i64, .int .i64, .lst [.int .i64, .int .i64]]
def prof0 : Prof := ⟨0, 0, 0, 0, 0, ⟨#[]⟩, 0, 0, 0, 0, []⟩
structure Msg where
  ki : Int
  id : Int
  ac : Int
  co : Int
  st : Int
  sq : Int
  at' : Int
  va : Int
  tx : ByteArray
  tk : ByteArray
  te : ByteArray
  off : Bool
  rd : List (Int × Int)
  p : Prof
  tks : List Tok
  deriving DecidableEq
abbrev msL (m : Msg) : List D := [I64d m.ki, I64d m.id, I64d m.ac, I64d m.co, I64d m.st, I64d m.sq, I64d m.at', I64d m.va, .str m.tx, .str m.tk, .str m.te, .bool m.off, rdD m.rd, I64d m.p.id, I64d m.p.lv, I64d m.p.pu, I64d m.p.ki, I64d m.p.co, .str m.p.tx, I64d m.p.fr, I64d m.p.to, I64d m.p.st, I64d m.p.du, rdD m.p.pe, tksD m.tks]
abbrev msD (m : Msg) : D := .rc (msL m)
abbrev tM : TS := .g [.int .i64, .int .i64, .int .i64, .int .i64, .int .i64, .int .i64, .int .i64, .int .i64, .str, .str, .str, .bool, .lst [.int .i64, .int .i64], .int .i64, .int .i64, .int .i64, .int .i64, .int .i64, .str, .int .i64, .int .i64, .int .i64, .int .i64, .lst [.int .i64, .int .i64], .lst [.str, .str, .str, .int .i64, .int .i64, .int .i64]]
theorem getD_map {α : Type} {g : α → D} {l : List α} {i : Nat} (a : α) (h : i < l.length) : (l.map g).getD i default = g (l.getD i a) := by simp [List.getD_eq_getElem?_getD, h]
theorem str_eq (a b : ByteArray) : (a.toList == b.toList) = decide (a = b) := by
  rw [ByteArray.toList_eq, ByteArray.toList_eq]
  by_cases h : a = b
  · subst h; simp
  · simp only [h, decide_false, beq_eq_false_iff_ne, ne_eq]
    intro e
    apply h
    obtain ⟨⟨l⟩⟩ := a
    obtain ⟨⟨m⟩⟩ := b
    simp only at e
    rw [e]
theorem emp_iff (s : ByteArray) : s = ⟨#[]⟩ ↔ s.size = 0 := by
  constructor
  · rintro rfl; rfl
  · intro h
    obtain ⟨⟨l⟩⟩ := s
    have : l = [] := List.length_eq_zero_iff.1 h
    rw [this]
def rdgB (x : Int × Int) : Bool := decide (0 ≤ x.1 ∧ x.1 ≤ 268435456 ∧ 0 ≤ x.2 ∧ x.2 ≤ 1099511627775)
def msOK (m : Msg) : Prop := m.rd.length ≤ maxLen ∧ m.p.pe.length ≤ maxLen ∧ m.tks.length ≤ maxLen
theorem clonerd_fn (l : List (Int × Int)) (hl : l.length ≤ 4294967296) : Fun Try.prog [] 35 [tR] [rdD l] [tR] (.ok [rdD l]) := by
  refine clonerd_ent _ _ ?_
  show vcclonerd.den _ _ _ _ _
  unfold vcclonerd
  simp only [E.den, D.toI, D.toB, D.toL, D.toS, D.len, D.mapL, flatD, dE]
  refine ⟨fun h => den_ret ?_, ?_⟩
  · simp only [E.den, D.toI, D.toB, D.toL, D.toS, D.len, D.mapL, flatD, dE] at h
    have : l = [] := by simpa using h
    subst this
    rfl
  · refine den_ev (evs_ob (by simp only [E.den, D.toI, D.toB, D.toL, D.toS, D.len, D.mapL, flatD, dE]; omega) (evs_nil (den_ret ?_)))
    simp only [E.den, D.toI, D.toB, D.toL, D.toS, D.len, D.mapL, flatD, dE]


end Go.Proofs.Ytindphofgojfbaa.R26
set_option maxRecDepth 100000
set_option linter.unusedSimpArgs false
set_option linter.unusedVariables false
namespace Go.Proofs.Ytindphofgojfbaa.R26
open Go.Proofs.Ytindphofgojfbaa Go.Proofs.Ytindphofgojfbaa.Sy Go.Proofs.Ytindphofgojfbaa.L7 Go.Proofs.Ytindphofgojfbaa.Id Go.RowKit Go.WideShapes Go.ChangeShapes Go.ChangeAt
structure TkT (t : Tok) : Prop where
  id : t.id.size ≤ maxLen
  gr : t.gr.size ≤ maxLen
  co : t.co.size ≤ maxLen
  ki : inI t.ki
  st : inI t.st
  ex : inI t.ex
structure PrT (p : Prof) : Prop where
  id : inI p.id
  lv : inI p.lv
  pu : inI p.pu
  ki : inI p.ki
  co : inI p.co
  tx : p.tx.size ≤ maxLen
  fr : inI p.fr
  to : inI p.to
  st : inI p.st
  du : inI p.du
  pe : p.pe.length ≤ maxLen ∧ ∀ x ∈ p.pe, inI x.1 ∧ inI x.2
structure MsT (m : Msg) : Prop where
  ki : inI m.ki
  id : inI m.id
  ac : inI m.ac
  co : inI m.co
  st : inI m.st
  sq : inI m.sq
  at' : inI m.at'
  va : inI m.va
  tx : m.tx.size ≤ maxLen
  tk : m.tk.size ≤ maxLen
  te : m.te.size ≤ maxLen
  rd : m.rd.length ≤ maxLen ∧ ∀ x ∈ m.rd, inI x.1 ∧ inI x.2
  p : PrT m.p
  tl : m.tks.length ≤ maxLen
  tks : ∀ t ∈ m.tks, TkT t
theorem MsT.ok {m : Msg} (h : MsT m) : msOK m := ⟨h.rd.1, h.p.pe.1, h.tl⟩
end Go.Proofs.Ytindphofgojfbaa.R26
