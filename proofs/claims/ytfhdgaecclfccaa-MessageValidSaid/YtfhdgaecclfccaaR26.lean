/-
  chargenetref26's small functions, 22's and 02's: what they do with data. No conditions stand ahead of what is proved.
-/
import Derived.Test.YtfhdgaecclfccaaL7c
import Derived.Test.YtfhdgaecclfccaaId
set_option maxRecDepth 100000
set_option linter.unusedSimpArgs false
set_option linter.unusedVariables false
namespace Go.Proofs.Ytfhdgaecclfccaa.R26
open Go.Proofs.Ytfhdgaecclfccaa Go.Proofs.Ytfhdgaecclfccaa.Sy Go.Proofs.Ytfhdgaecclfccaa.L7 Go.Proofs.Ytfhdgaecclfccaa.Id Go.RowKit Go.WideShapes Go.ChangeShapes Go.ChangeAt
theorem hP : NoNum Try.prog := by unfold NoNum; kernel_rfl
def sgs : Nat → Option (List TS × List TS) := fun _ => none
def vcright : VC := (.ite (.cmp .geq (.v 0) (.ki .i64 0))
 (.ret [(.cmp .leq (.v 0) (.ki .i64 268435456))])
 (.ret [(.kb false)]))
theorem right_ent : EntOK Try.prog [] ⟨50, [(.c (.int .i64))], [(.c .bool)], vcright⟩ :=
  ent_of_gen hP Try.func50 rfl (by decide) (sg := sgs) (by kernel_rfl)
def vcin26 : VC := (.ite (.cmp .geq (.v 0) (.v 1))
 (.ret [(.cmp .leq (.v 0) (.v 2))])
 (.ret [(.kb false)]))
theorem in26_ent : EntOK Try.prog [] ⟨24, [(.c (.int .i64)), (.c (.int .i64)), (.c (.int .i64))], [(.c .bool)], vcin26⟩ :=
  ent_of_gen hP Try.func24 rfl (by decide) (sg := sgs) (by kernel_rfl)
def vcreading : VC := (.cal 50 [(.c (.int .i64))] [(.v 0)] [(.c .bool)] 2
 (.ite (.v 2)
  (.cal 24 [(.c (.int .i64)), (.c (.int .i64)), (.c (.int .i64))] [(.v 1), (.ki .i64 0), (.ki .i64 1099511627775)] [(.c .bool)] 3
   (.ret [(.v 3)]))
  (.ret [(.kb false)])))
theorem reading_ent : EntOK Try.prog [] ⟨31, [(.g [(.int .i64), (.int .i64)])], [(.c .bool)], vcreading⟩ :=
  ent_of_gen hP Try.func31 rfl (by decide) (sg := sgs) (by kernel_rfl)
def vcnoprof : VC := (.ite (.cmp .eql (.v 0) (.ki .i64 0))
 (.ite (.cmp .eql (.v 1) (.ki .i64 0))
  (.ite (.cmp .eql (.v 2) (.ki .i64 0))
   (.ite (.cmp .eql (.v 3) (.ki .i64 0))
    (.ite (.cmp .eql (.v 4) (.ki .i64 0))
     (.ite (.seq (.v 5) (.ks ⟨List.toArray []⟩))
      (.ite (.and (.cmp .eql (.v 6) (.ki .i64 0)) (.and (.cmp .eql (.v 7) (.ki .i64 0)) (.kb true)))
       (.ite (.cmp .eql (.v 8) (.ki .i64 0))
        (.ite (.cmp .eql (.v 9) (.ki .i64 0))
         (.ret [(.cmp .eql (.len (.v 10)) (.ki .i64 0))])
         (.ret [(.kb false)]))
        (.ret [(.kb false)]))
       (.ret [(.kb false)]))
      (.ret [(.kb false)]))
     (.ret [(.kb false)]))
    (.ret [(.kb false)]))
   (.ret [(.kb false)]))
  (.ret [(.kb false)]))
 (.ret [(.kb false)]))
theorem noprof_ent : EntOK Try.prog [] ⟨49, [(.g [(.int .i64), (.int .i64), (.int .i64), (.int .i64), (.int .i64), .str, (.int .i64), (.int .i64), (.int .i64), (.int .i64), (.lst [(.int .i64), (.int .i64)])])], [(.c .bool)], vcnoprof⟩ :=
  ent_of_gen hP Try.func49 rfl (by decide) (sg := sgs) (by kernel_rfl)
def vceqrd : VC := (.ite (.cmp .neq (.len (.v 0)) (.len (.v 1)))
 (.ret [(.kb false)])
 (.loop [.bool, (.int .i64)] [(.kb false), (.ki .i64 0)]
  (.ite (.cmp .lss (.v 3) (.len (.v 0)))
   (.ev [(.ob (.cmp .geq (.v 3) (.ki .i64 0))), (.ob (.cmp .lss (.v 3) (.len (.v 0)))), (.ob (.cmp .geq (.v 3) (.ki .i64 0))), (.ob (.cmp .lss (.v 3) (.len (.v 1))))]
    (.ite (.and (.cmp .eql (.cell (.get (.v 0) (.v 3)) 0) (.cell (.get (.v 1) (.v 3)) 0)) (.and (.cmp .eql (.cell (.get (.v 0) (.v 3)) 1) (.cell (.get (.v 1) (.v 3)) 1)) (.kb true)))
     (.back 0 [(.v 2), (.ar .add .i64 (.v 3) (.ki .i64 1))])
     (.ret [(.kb false)])))
   (.ret [(.kb true)]))))
theorem eqrd_ent : EntOK Try.prog [] ⟨37, [(.c (.lst [(.int .i64), (.int .i64)])), (.c (.lst [(.int .i64), (.int .i64)]))], [(.c .bool)], vceqrd⟩ :=
  ent_of_gen hP Try.func37 rfl (by decide) (sg := sgs) (by kernel_rfl)
abbrev rD (x : Int × Int) : D := .rc [I64d x.1, I64d x.2]
abbrev rdD (l : List (Int × Int)) : D := .lst (l.map rD)
abbrev isD (l : List Int) : D := .lst (l.map I64d)
structure Tok where
  id : ByteArray
  gr : ByteArray
  co : ByteArray
  ki : Int
  st : Int
  ex : Int
  deriving DecidableEq
abbrev tkD (t : Tok) : D := .rc [.str t.id, .str t.gr, .str t.co, I64d t.ki, I64d t.st, I64d t.ex]
abbrev tksD (l : List Tok) : D := .lst (l.map tkD)
def tok0 : Tok := ⟨⟨#[]⟩, ⟨#[]⟩, ⟨#[]⟩, 0, 0, 0⟩
structure Prof where
  id : Int
  lv : Int
  pu : Int
  ki : Int
  co : Int
  tx : ByteArray
  fr : Int
  to : Int
  st : Int
  du : Int
  pe : List (Int × Int)
  deriving DecidableEq
abbrev prL (p : Prof) : List D := [I64d p.id, I64d p.lv, I64d p.pu, I64d p.ki, I64d p.co, .str p.tx, I64d p.fr, I64d p.to, I64d p.st, I64d p.du, rdD p.pe]
abbrev tPr : TS := .g [.int .i64, .int .i64, .int .i64, .int .i64, .int .i64, .str, .int .i64, .int .i64, .int .i64, .int .i64, .lst [.int .i64, .int .i64]]
def prof0 : Prof := ⟨0, 0, 0, 0, 0, ⟨#[]⟩, 0, 0, 0, 0, []⟩
structure Msg where
  ki : Int
  id : Int
  ac : Int
  co : Int
  st : Int
  sq : Int
  at' : Int
  va : Int
  tx : ByteArray
  tk : ByteArray
  te : ByteArray
  off : Bool
  rd : List (Int × Int)
  p : Prof
  tks : List Tok
  deriving DecidableEq
abbrev msL (m : Msg) : List D := [I64d m.ki, I64d m.id, I64d m.ac, I64d m.co, I64d m.st, I64d m.sq, I64d m.at', I64d m.va, .str m.tx, .str m.tk, .str m.te, .bool m.off, rdD m.rd, I64d m.p.id, I64d m.p.lv, I64d m.p.pu, I64d m.p.ki, I64d m.p.co, .str m.p.tx, I64d m.p.fr, I64d m.p.to, I64d m.p.st, I64d m.p.du, rdD m.p.pe, tksD m.tks]
abbrev msD (m : Msg) : D := .rc (msL m)
abbrev tM : TS := .g [.int .i64, .int .i64, .int .i64, .int .i64, .int .i64, .int .i64, .int .i64, .int .i64, .str, .str, .str, .bool, .lst [.int .i64, .int .i64], .int .i64, .int .i64, .int .i64, .int .i64, .int .i64, .str, .int .i64, .int .i64, .int .i64, .int .i64, .lst [.int .i64, .int .i64], .lst [.str, .str, .str, .int .i64, .int .i64, .int .i64]]
theorem getD_map {α : Type} {g : α → D} {l : List α} {i : Nat} (a : α) (h : i < l.length) : (l.map g).getD i default = g (l.getD i a) := by simp [List.getD_eq_getElem?_getD, h]
theorem str_eq (a b : ByteArray) : (a.toList == b.toList) = decide (a = b) := by
  rw [ByteArray.toList_eq, ByteArray.toList_eq]
  by_cases h : a = b
  · subst h; simp
  · simp only [h, decide_false, beq_eq_false_iff_ne, ne_eq]
    intro e
    apply h
    obtain ⟨⟨l⟩⟩ := a
    obtain ⟨⟨m⟩⟩ := b
    simp only at e
    rw [e]
theorem emp_iff (s : ByteArray) : s = ⟨#[]⟩ ↔ s.size = 0 := by
  constructor
  · rintro rfl; rfl
  · intro h
    obtain ⟨⟨l⟩⟩ := s
    have : l = [] := List.length_eq_zero_iff.1 h
    rw [this]
theorem right_fn (a : Int) : Fun Try.prog [] 50 [tI] [I64d a] [tB] (.ok [.bool (decide (0 ≤ a ∧ a ≤ 268435456))]) := by
  refine right_ent _ _ ?_
  show vcright.den _ _ _ _ _
  unfold vcright
  refine den_ite (fun h => den_ret ?_) (fun h => den_ret ?_) <;> simp only [E.den, D.toI, D.toB, D.toL, D.toS, D.len, D.mapL, flatD, dE] at h <;> simp only [E.den, D.toI, D.toB, D.toL, D.toS, D.len, D.mapL, flatD, dE] <;> simp [h] <;> omega
theorem in26_fn (a b c : Int) : Fun Try.prog [] 24 [tI, tI, tI] [I64d a, I64d b, I64d c] [tB] (.ok [.bool (decide (b ≤ a ∧ a ≤ c))]) := by
  refine in26_ent _ _ ?_
  show vcin26.den _ _ _ _ _
  unfold vcin26
  refine den_ite (fun h => den_ret ?_) (fun h => den_ret ?_) <;> simp only [E.den, D.toI, D.toB, D.toL, D.toS, D.len, D.mapL, flatD, dE] at h <;> simp only [E.den, D.toI, D.toB, D.toL, D.toS, D.len, D.mapL, flatD, dE] <;> simp [h] <;> omega
def rdgB (x : Int × Int) : Bool := decide (0 ≤ x.1 ∧ x.1 ≤ 268435456 ∧ 0 ≤ x.2 ∧ x.2 ≤ 1099511627775)
theorem reading_fn (x : Int × Int) : Fun Try.prog [] 31 [.g [.int .i64, .int .i64]] [rD x] [tB] (.ok [.bool (rdgB x)]) := by
  refine reading_ent _ _ ?_
  show vcreading.den _ _ _ _ _
  unfold vcreading
  refine den_cal [.bool (decide (0 ≤ x.1 ∧ x.1 ≤ 268435456))] rfl (right_fn x.1) rfl rfl ?_
  (try simp only [List.cons_append, List.nil_append])
  refine den_ite (fun h => ?_) (fun h => den_ret ?_)
  · simp only [E.den, D.toI, D.toB, D.toL, D.toS, D.len, D.mapL, flatD, dE] at h
    refine den_cal [.bool (decide (0 ≤ x.2 ∧ x.2 ≤ 1099511627775))] rfl (in26_fn x.2 0 1099511627775) rfl rfl (den_ret ?_)
    simp only [E.den, D.toI, D.toB, D.toL, D.toS, D.len, D.mapL, flatD, dE]
    simp [rdgB, h]
  · simp only [E.den, D.toI, D.toB, D.toL, D.toS, D.len, D.mapL, flatD, dE] at h
    simp only [E.den, D.toI, D.toB, D.toL, D.toS, D.len, D.mapL, flatD, dE]
    simp only [FR.ok.injEq, List.cons.injEq, D.bool.injEq, and_true, rdgB]
    simp
    omega
theorem noprof_fn (p : Prof) : Fun Try.prog [] 49 [tPr] [.rc (prL p)] [tB] (.ok [.bool (decide (p = prof0))]) := by
  refine noprof_ent _ _ ?_
  show vcnoprof.den _ _ _ _ _
  unfold vcnoprof
  refine den_ite (fun h1 => ?_) (fun h1 => ?_)
  · simp only [E.den, D.toI, D.toB, D.toL, D.toS, D.len, D.mapL, flatD, dE, str_eq] at h1
    refine den_ite (fun h2 => ?_) (fun h2 => ?_)
    · simp only [E.den, D.toI, D.toB, D.toL, D.toS, D.len, D.mapL, flatD, dE, str_eq] at h2
      refine den_ite (fun h3 => ?_) (fun h3 => ?_)
      · simp only [E.den, D.toI, D.toB, D.toL, D.toS, D.len, D.mapL, flatD, dE, str_eq] at h3
        refine den_ite (fun h4 => ?_) (fun h4 => ?_)
        · simp only [E.den, D.toI, D.toB, D.toL, D.toS, D.len, D.mapL, flatD, dE, str_eq] at h4
          refine den_ite (fun h5 => ?_) (fun h5 => ?_)
          · simp only [E.den, D.toI, D.toB, D.toL, D.toS, D.len, D.mapL, flatD, dE, str_eq] at h5
            refine den_ite (fun h6 => ?_) (fun h6 => ?_)
            · simp only [E.den, D.toI, D.toB, D.toL, D.toS, D.len, D.mapL, flatD, dE, str_eq] at h6
              refine den_ite (fun h7 => ?_) (fun h7 => ?_)
              · simp only [E.den, D.toI, D.toB, D.toL, D.toS, D.len, D.mapL, flatD, dE, str_eq] at h7
                refine den_ite (fun h8 => ?_) (fun h8 => ?_)
                · simp only [E.den, D.toI, D.toB, D.toL, D.toS, D.len, D.mapL, flatD, dE, str_eq] at h8
                  refine den_ite (fun h9 => ?_) (fun h9 => ?_)
                  · simp only [E.den, D.toI, D.toB, D.toL, D.toS, D.len, D.mapL, flatD, dE, str_eq] at h9
                    refine den_ret ?_
                    simp only [E.den, D.toI, D.toB, D.toL, D.toS, D.len, D.mapL, flatD, dE]
                    have hne : (p = prof0) ↔ (p.pe.length : Int) = 0 := by (cases p; simp_all [prof0])
                    simp only [hne]
                    rfl
                  · simp only [E.den, D.toI, D.toB, D.toL, D.toS, D.len, D.mapL, flatD, dE, str_eq] at h9
                    refine den_ret ?_
                    have hne : p ≠ prof0 := by (intro e; subst e; simp_all [prof0])
                    simp only [E.den, D.toI, D.toB, D.toL, D.toS, D.len, D.mapL, flatD, dE]
                    simp [hne]
                · simp only [E.den, D.toI, D.toB, D.toL, D.toS, D.len, D.mapL, flatD, dE, str_eq] at h8
                  refine den_ret ?_
                  have hne : p ≠ prof0 := by (intro e; subst e; simp_all [prof0])
                  simp only [E.den, D.toI, D.toB, D.toL, D.toS, D.len, D.mapL, flatD, dE]
                  simp [hne]
              · simp only [E.den, D.toI, D.toB, D.toL, D.toS, D.len, D.mapL, flatD, dE, str_eq] at h7
                refine den_ret ?_
                have hne : p ≠ prof0 := by (intro e; subst e; simp_all [prof0])
                simp only [E.den, D.toI, D.toB, D.toL, D.toS, D.len, D.mapL, flatD, dE]
                simp [hne]
            · simp only [E.den, D.toI, D.toB, D.toL, D.toS, D.len, D.mapL, flatD, dE, str_eq] at h6
              refine den_ret ?_
              have hne : p ≠ prof0 := by (intro e; subst e; simp_all [prof0])
              simp only [E.den, D.toI, D.toB, D.toL, D.toS, D.len, D.mapL, flatD, dE]
              simp [hne]
          · simp only [E.den, D.toI, D.toB, D.toL, D.toS, D.len, D.mapL, flatD, dE, str_eq] at h5
            refine den_ret ?_
            have hne : p ≠ prof0 := by (intro e; subst e; simp_all [prof0])
            simp only [E.den, D.toI, D.toB, D.toL, D.toS, D.len, D.mapL, flatD, dE]
            simp [hne]
        · simp only [E.den, D.toI, D.toB, D.toL, D.toS, D.len, D.mapL, flatD, dE, str_eq] at h4
          refine den_ret ?_
          have hne : p ≠ prof0 := by (intro e; subst e; simp_all [prof0])
          simp only [E.den, D.toI, D.toB, D.toL, D.toS, D.len, D.mapL, flatD, dE]
          simp [hne]
      · simp only [E.den, D.toI, D.toB, D.toL, D.toS, D.len, D.mapL, flatD, dE, str_eq] at h3
        refine den_ret ?_
        have hne : p ≠ prof0 := by (intro e; subst e; simp_all [prof0])
        simp only [E.den, D.toI, D.toB, D.toL, D.toS, D.len, D.mapL, flatD, dE]
        simp [hne]
    · simp only [E.den, D.toI, D.toB, D.toL, D.toS, D.len, D.mapL, flatD, dE, str_eq] at h2
      refine den_ret ?_
      have hne : p ≠ prof0 := by (intro e; subst e; simp_all [prof0])
      simp only [E.den, D.toI, D.toB, D.toL, D.toS, D.len, D.mapL, flatD, dE]
      simp [hne]
  · simp only [E.den, D.toI, D.toB, D.toL, D.toS, D.len, D.mapL, flatD, dE, str_eq] at h1
    refine den_ret ?_
    have hne : p ≠ prof0 := by (intro e; subst e; simp_all [prof0])
    simp only [E.den, D.toI, D.toB, D.toL, D.toS, D.len, D.mapL, flatD, dE]
    simp [hne]
def msOK (m : Msg) : Prop := m.rd.length ≤ maxLen ∧ m.p.pe.length ≤ maxLen ∧ m.tks.length ≤ maxLen
end Go.Proofs.Ytfhdgaecclfccaa.R26
set_option maxRecDepth 100000
set_option linter.unusedSimpArgs false
set_option linter.unusedVariables false
namespace Go.Proofs.Ytfhdgaecclfccaa.R26
open Go.Proofs.Ytfhdgaecclfccaa Go.Proofs.Ytfhdgaecclfccaa.Sy Go.Proofs.Ytfhdgaecclfccaa.L7 Go.Proofs.Ytfhdgaecclfccaa.Id Go.RowKit Go.WideShapes Go.ChangeShapes Go.ChangeAt
theorem typ_rds {d : D} (h : Typ (.lst [.int .i64, .int .i64]) d) : ∃ l : List (Int × Int), d = rdD l ∧ l.length ≤ maxLen ∧ ∀ x ∈ l, inI x.1 ∧ inI x.2 := by
  unfold Typ at h
  obtain ⟨l, rfl, hl, hx⟩ := h
  obtain ⟨L, rfl, hL⟩ := list_read (g := rD) (q := fun x => inI x.1 ∧ inI x.2) (p := fun d => Typs [.int .i64, .int .i64] (d.cells [.int .i64, .int .i64])) (fun d hd => by
    cases d with
    | rc ds =>
      simp only [D.cells, List.length_cons, List.length_nil] at hd
      unfold Typs at hd
      obtain ⟨_, _, rfl, h1, hd⟩ := hd
      unfold Typs at hd
      obtain ⟨_, _, rfl, h2, hd⟩ := hd
      unfold Typs at hd
      subst hd
      obtain ⟨a, rfl, ha⟩ := typ_int h1
      obtain ⟨b, rfl, hb⟩ := typ_int h2
      exact ⟨(a, b), rfl, ha, hb⟩
    | _ => simp [D.cells, Typs] at hd) l hx
  exact ⟨L, rfl, by simpa using hl, hL⟩
structure TkT (t : Tok) : Prop where
  id : t.id.size ≤ maxLen
  gr : t.gr.size ≤ maxLen
  co : t.co.size ≤ maxLen
  ki : inI t.ki
  st : inI t.st
  ex : inI t.ex
theorem typ_tks {d : D} (h : Typ (.lst [.str, .str, .str, .int .i64, .int .i64, .int .i64]) d) : ∃ l : List Tok, d = tksD l ∧ l.length ≤ maxLen ∧ ∀ x ∈ l, TkT x := by
  unfold Typ at h
  obtain ⟨l, rfl, hl, hx⟩ := h
  obtain ⟨L, rfl, hL⟩ := list_read (g := tkD) (q := TkT) (p := fun d => Typs [.str, .str, .str, .int .i64, .int .i64, .int .i64] (d.cells [.str, .str, .str, .int .i64, .int .i64, .int .i64])) (fun d hd => by
    cases d with
    | rc ds =>
      simp only [D.cells, List.length_cons, List.length_nil] at hd
      unfold Typs at hd
      obtain ⟨_, _, rfl, h1, hd⟩ := hd
      unfold Typs at hd
      obtain ⟨_, _, rfl, h2, hd⟩ := hd
      unfold Typs at hd
      obtain ⟨_, _, rfl, h3, hd⟩ := hd
      unfold Typs at hd
      obtain ⟨_, _, rfl, h4, hd⟩ := hd
      unfold Typs at hd
      obtain ⟨_, _, rfl, h5, hd⟩ := hd
      unfold Typs at hd
      obtain ⟨_, _, rfl, h6, hd⟩ := hd
      unfold Typs at hd
      subst hd
      obtain ⟨a1, rfl, b1⟩ := typ_str h1
      obtain ⟨a2, rfl, b2⟩ := typ_str h2
      obtain ⟨a3, rfl, b3⟩ := typ_str h3
      obtain ⟨a4, rfl, b4⟩ := typ_int h4
      obtain ⟨a5, rfl, b5⟩ := typ_int h5
      obtain ⟨a6, rfl, b6⟩ := typ_int h6
      exact ⟨⟨a1, a2, a3, a4, a5, a6⟩, rfl, ⟨b1, b2, b3, b4, b5, b6⟩⟩
    | _ => simp [D.cells, Typs] at hd) l hx
  exact ⟨L, rfl, by simpa using hl, hL⟩
structure PrT (p : Prof) : Prop where
  id : inI p.id
  lv : inI p.lv
  pu : inI p.pu
  ki : inI p.ki
  co : inI p.co
  tx : p.tx.size ≤ maxLen
  fr : inI p.fr
  to : inI p.to
  st : inI p.st
  du : inI p.du
  pe : p.pe.length ≤ maxLen ∧ ∀ x ∈ p.pe, inI x.1 ∧ inI x.2
structure MsT (m : Msg) : Prop where
  ki : inI m.ki
  id : inI m.id
  ac : inI m.ac
  co : inI m.co
  st : inI m.st
  sq : inI m.sq
  at' : inI m.at'
  va : inI m.va
  tx : m.tx.size ≤ maxLen
  tk : m.tk.size ≤ maxLen
  te : m.te.size ≤ maxLen
  rd : m.rd.length ≤ maxLen ∧ ∀ x ∈ m.rd, inI x.1 ∧ inI x.2
  p : PrT m.p
  tl : m.tks.length ≤ maxLen
  tks : ∀ t ∈ m.tks, TkT t
theorem typ_msg {d : D} (h : TypT tM d) : ∃ m : Msg, d = msD m ∧ MsT m := by
  obtain ⟨ds, rfl, h⟩ := h
  unfold Typs at h
  obtain ⟨_, _, rfl, h0, h⟩ := h
  unfold Typs at h
  obtain ⟨_, _, rfl, h1, h⟩ := h
  unfold Typs at h
  obtain ⟨_, _, rfl, h2, h⟩ := h
  unfold Typs at h
  obtain ⟨_, _, rfl, h3, h⟩ := h
  unfold Typs at h
  obtain ⟨_, _, rfl, h4, h⟩ := h
  unfold Typs at h
  obtain ⟨_, _, rfl, h5, h⟩ := h
  unfold Typs at h
  obtain ⟨_, _, rfl, h6, h⟩ := h
  unfold Typs at h
  obtain ⟨_, _, rfl, h7, h⟩ := h
  unfold Typs at h
  obtain ⟨_, _, rfl, h8, h⟩ := h
  unfold Typs at h
  obtain ⟨_, _, rfl, h9, h⟩ := h
  unfold Typs at h
  obtain ⟨_, _, rfl, h10, h⟩ := h
  unfold Typs at h
  obtain ⟨_, _, rfl, h11, h⟩ := h
  unfold Typs at h
  obtain ⟨_, _, rfl, h12, h⟩ := h
  unfold Typs at h
  obtain ⟨_, _, rfl, h13, h⟩ := h
  unfold Typs at h
  obtain ⟨_, _, rfl, h14, h⟩ := h
  unfold Typs at h
  obtain ⟨_, _, rfl, h15, h⟩ := h
  unfold Typs at h
  obtain ⟨_, _, rfl, h16, h⟩ := h
  unfold Typs at h
  obtain ⟨_, _, rfl, h17, h⟩ := h
  unfold Typs at h
  obtain ⟨_, _, rfl, h18, h⟩ := h
  unfold Typs at h
  obtain ⟨_, _, rfl, h19, h⟩ := h
  unfold Typs at h
  obtain ⟨_, _, rfl, h20, h⟩ := h
  unfold Typs at h
  obtain ⟨_, _, rfl, h21, h⟩ := h
  unfold Typs at h
  obtain ⟨_, _, rfl, h22, h⟩ := h
  unfold Typs at h
  obtain ⟨_, _, rfl, h23, h⟩ := h
  unfold Typs at h
  obtain ⟨_, _, rfl, h24, h⟩ := h
  unfold Typs at h
  subst h
  obtain ⟨a0, rfl, b0⟩ := typ_int h0
  obtain ⟨a1, rfl, b1⟩ := typ_int h1
  obtain ⟨a2, rfl, b2⟩ := typ_int h2
  obtain ⟨a3, rfl, b3⟩ := typ_int h3
  obtain ⟨a4, rfl, b4⟩ := typ_int h4
  obtain ⟨a5, rfl, b5⟩ := typ_int h5
  obtain ⟨a6, rfl, b6⟩ := typ_int h6
  obtain ⟨a7, rfl, b7⟩ := typ_int h7
  obtain ⟨a8, rfl, b8⟩ := typ_str h8
  obtain ⟨a9, rfl, b9⟩ := typ_str h9
  obtain ⟨a10, rfl, b10⟩ := typ_str h10
  obtain ⟨a11, rfl⟩ := typ_bool h11
  obtain ⟨a12, rfl, b12⟩ := typ_rds h12
  obtain ⟨a13, rfl, b13⟩ := typ_int h13
  obtain ⟨a14, rfl, b14⟩ := typ_int h14
  obtain ⟨a15, rfl, b15⟩ := typ_int h15
  obtain ⟨a16, rfl, b16⟩ := typ_int h16
  obtain ⟨a17, rfl, b17⟩ := typ_int h17
  obtain ⟨a18, rfl, b18⟩ := typ_str h18
  obtain ⟨a19, rfl, b19⟩ := typ_int h19
  obtain ⟨a20, rfl, b20⟩ := typ_int h20
  obtain ⟨a21, rfl, b21⟩ := typ_int h21
  obtain ⟨a22, rfl, b22⟩ := typ_int h22
  obtain ⟨a23, rfl, b23⟩ := typ_rds h23
  obtain ⟨a24, rfl, b24, c24⟩ := typ_tks h24
  exact ⟨⟨a0, a1, a2, a3, a4, a5, a6, a7, a8, a9, a10, a11, a12, ⟨a13, a14, a15, a16, a17, a18, a19, a20, a21, a22, a23⟩, a24⟩, rfl, ⟨b0, b1, b2, b3, b4, b5, b6, b7, b8, b9, b10, b12, ⟨b13, b14, b15, b16, b17, b18, b19, b20, b21, b22, b23⟩, b24, c24⟩⟩
theorem MsT.ok {m : Msg} (h : MsT m) : msOK m := ⟨h.rd.1, h.p.pe.1, h.tl⟩
end Go.Proofs.Ytfhdgaecclfccaa.R26
