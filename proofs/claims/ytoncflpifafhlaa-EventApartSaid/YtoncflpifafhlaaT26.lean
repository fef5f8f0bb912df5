/-
  Data of the types of layer 26, read. No conditions stand ahead of what is proved.
-/
import Derived.Test.YtoncflpifafhlaaR26
set_option maxRecDepth 100000
set_option linter.unusedSimpArgs false
set_option linter.unusedVariables false
namespace Go.Proofs.Ytoncflpifafhlaa.R26
open Go.Proofs.Ytoncflpifafhlaa Go.Proofs.Ytoncflpifafhlaa.Sy Go.Proofs.Ytoncflpifafhlaa.L7 Go.Proofs.Ytoncflpifafhlaa.Id Go.RowKit Go.WideShapes Go.ChangeShapes Go.ChangeAt

theorem typ_rds {d : D} (h : Typ (.lst [.int .i64, .int .i64]) d) : ∃ l : List (Int × Int), d = rdD l ∧ l.length ≤ maxLen ∧ ∀ x ∈ l, inI x.1 ∧ inI x.2 := by
  unfold Typ at h
  obtain ⟨l, rfl, hl, hx⟩ := h
  obtain ⟨L, rfl, hL⟩ := list_read (g := rD) (q := fun x => inI x.1 ∧ inI x.2) (p := fun d => Typs [.int .i64, .int .i64] (d.cells [.int .i64, .int .i64])) (fun d hd => by
    cases d with
    | rc ds =>
      simp only [D.cells, List.length_cons, List.length_nil] at hd
      unfold Typs at hd
      obtain ⟨_, _, rfl, h1, hd⟩ := hd
      unfold Typs at hd
      obtain ⟨_, _, rfl, h2, hd⟩ := hd
      unfold Typs at hd
      subst hd
      obtain ⟨a, rfl, ha⟩ := typ_int h1
      obtain ⟨b, rfl, hb⟩ := typ_int h2
      exact ⟨(a, b), rfl, ha, hb⟩
    | _ => simp [D.cells, Typs] at hd) l hx
  exact ⟨L, rfl, by simpa using hl, hL⟩
structure TkT (t : Tok) : Prop where
  id : t.id.size ≤ maxLen
  gr : t.gr.size ≤ maxLen
  co : t.co.size ≤ maxLen
  ki : inI t.ki
  st : inI t.st
  ex : inI t.ex
theorem typ_tks {d : D} (h : Typ (.lst [.str, .str, .str, .int .i64, .int .i64, .int .i64]) d) : ∃ l : List Tok, d = tksD l ∧ l.length ≤ maxLen ∧ ∀ x ∈ l, TkT x := by
  unfold Typ at h
  obtain ⟨l, rfl, hl, hx⟩ := h
  obtain ⟨L, rfl, hL⟩ := list_read (g := tkD) (q := TkT) (p := fun d => Typs [.str, .str, .str, .int .i64, .int .i64, .int .i64] (d.cells [.str, .str, .str, .int .i64, .int .i64, .int .i64])) (fun d hd => by
    cases d with
    | rc ds =>
      simp only [D.cells, List.length_cons, List.length_nil] at hd
      unfold Typs at hd
      obtain ⟨_, _, rfl, h1, hd⟩ := hd
      unfold Typs at hd
      obtain ⟨_, _, rfl, h2, hd⟩ := hd
      unfold Typs at hd
      obtain ⟨_, _, rfl, h3, hd⟩ := hd
      unfold Typs at hd
      obtain ⟨_, _, rfl, h4, hd⟩ := hd
      unfold Typs at hd
      obtain ⟨_, _, rfl, h5, hd⟩ := hd
      unfold Typs at hd
      obtain ⟨_, _, rfl, h6, hd⟩ := hd
      unfold Typs at hd
      subst hd
      obtain ⟨a1, rfl, b1⟩ := typ_str h1
      obtain ⟨a2, rfl, b2⟩ := typ_str h2
      obtain ⟨a3, rfl, b3⟩ := typ_str h3
      obtain ⟨a4, rfl, b4⟩ := typ_int h4
      obtain ⟨a5, rfl, b5⟩ := typ_int h5
      obtain ⟨a6, rfl, b6⟩ := typ_int h6
      exact ⟨⟨a1, a2, a3, a4, a5, a6⟩, rfl, ⟨b1, b2, b3, b4, b5, b6⟩⟩
    | _ => simp [D.cells, Typs] at hd) l hx
  exact ⟨L, rfl, by simpa using hl, hL⟩
structure PrT (p : Prof) : Prop where
  id : inI p.id
  lv : inI p.lv
  pu : inI p.pu
  ki : inI p.ki
  co : inI p.co
  tx : p.tx.size ≤ maxLen
  fr : inI p.fr
  to : inI p.to
  st : inI p.st
  du : inI p.du
  pe : p.pe.length ≤ maxLen ∧ ∀ x ∈ p.pe, inI x.1 ∧ inI x.2
structure MsT (m : Msg) : Prop where
  ki : inI m.ki
  id : inI m.id
  ac : inI m.ac
  co : inI m.co
  st : inI m.st
  sq : inI m.sq
  at' : inI m.at'
  va : inI m.va
  tx : m.tx.size ≤ maxLen
  tk : m.tk.size ≤ maxLen
  te : m.te.size ≤ maxLen
  rd : m.rd.length ≤ maxLen ∧ ∀ x ∈ m.rd, inI x.1 ∧ inI x.2
  p : PrT m.p
  tl : m.tks.length ≤ maxLen
  tks : ∀ t ∈ m.tks, TkT t
theorem typ_msg {d : D} (h : TypT tM d) : ∃ m : Msg, d = msD m ∧ MsT m := by
  obtain ⟨ds, rfl, h⟩ := h
  unfold Typs at h
  obtain ⟨_, _, rfl, h0, h⟩ := h
  unfold Typs at h
  obtain ⟨_, _, rfl, h1, h⟩ := h
  unfold Typs at h
  obtain ⟨_, _, rfl, h2, h⟩ := h
  unfold Typs at h
  obtain ⟨_, _, rfl, h3, h⟩ := h
  unfold Typs at h
  obtain ⟨_, _, rfl, h4, h⟩ := h
  unfold Typs at h
  obtain ⟨_, _, rfl, h5, h⟩ := h
  unfold Typs at h
  obtain ⟨_, _, rfl, h6, h⟩ := h
  unfold Typs at h
  obtain ⟨_, _, rfl, h7, h⟩ := h
  unfold Typs at h
  obtain ⟨_, _, rfl, h8, h⟩ := h
  unfold Typs at h
  obtain ⟨_, _, rfl, h9, h⟩ := h
  unfold Typs at h
  obtain ⟨_, _, rfl, h10, h⟩ := h
  unfold Typs at h
  obtain ⟨_, _, rfl, h11, h⟩ := h
  unfold Typs at h
  obtain ⟨_, _, rfl, h12, h⟩ := h
  unfold Typs at h
  obtain ⟨_, _, rfl, h13, h⟩ := h
  unfold Typs at h
  obtain ⟨_, _, rfl, h14, h⟩ := h
  unfold Typs at h
  obtain ⟨_, _, rfl, h15, h⟩ := h
  unfold Typs at h
  obtain ⟨_, _, rfl, h16, h⟩ := h
  unfold Typs at h
  obtain ⟨_, _, rfl, h17, h⟩ := h
  unfold Typs at h
  obtain ⟨_, _, rfl, h18, h⟩ := h
  unfold Typs at h
  obtain ⟨_, _, rfl, h19, h⟩ := h
  unfold Typs at h
  obtain ⟨_, _, rfl, h20, h⟩ := h
  unfold Typs at h
  obtain ⟨_, _, rfl, h21, h⟩ := h
  unfold Typs at h
  obtain ⟨_, _, rfl, h22, h⟩ := h
  unfold Typs at h
  obtain ⟨_, _, rfl, h23, h⟩ := h
  unfold Typs at h
  obtain ⟨_, _, rfl, h24, h⟩ := h
  unfold Typs at h
  subst h
  obtain ⟨a0, rfl, b0⟩ := typ_int h0
  obtain ⟨a1, rfl, b1⟩ := typ_int h1
  obtain ⟨a2, rfl, b2⟩ := typ_int h2
  obtain ⟨a3, rfl, b3⟩ := typ_int h3
  obtain ⟨a4, rfl, b4⟩ := typ_int h4
  obtain ⟨a5, rfl, b5⟩ := typ_int h5
  obtain ⟨a6, rfl, b6⟩ := typ_int h6
  obtain ⟨a7, rfl, b7⟩ := typ_int h7
  obtain ⟨a8, rfl, b8⟩ := typ_str h8
  obtain ⟨a9, rfl, b9⟩ := typ_str h9
  obtain ⟨a10, rfl, b10⟩ := typ_str h10
  obtain ⟨a11, rfl⟩ := typ_bool h11
  obtain ⟨a12, rfl, b12⟩ := typ_rds h12
  obtain ⟨a13, rfl, b13⟩ := typ_int h13
  obtain ⟨a14, rfl, b14⟩ := typ_int h14
  obtain ⟨a15, rfl, b15⟩ := typ_int h15
  obtain ⟨a16, rfl, b16⟩ := typ_int h16
  obtain ⟨a17, rfl, b17⟩ := typ_int h17
  obtain ⟨a18, rfl, b18⟩ := typ_str h18
  obtain ⟨a19, rfl, b19⟩ := typ_int h19
  obtain ⟨a20, rfl, b20⟩ := typ_int h20
  obtain ⟨a21, rfl, b21⟩ := typ_int h21
  obtain ⟨a22, rfl, b22⟩ := typ_int h22
  obtain ⟨a23, rfl, b23⟩ := typ_rds h23
  obtain ⟨a24, rfl, b24, c24⟩ := typ_tks h24
  exact ⟨⟨a0, a1, a2, a3, a4, a5, a6, a7, a8, a9, a10, a11, a12, ⟨a13, a14, a15, a16, a17, a18, a19, a20, a21, a22, a23⟩, a24⟩, rfl, ⟨b0, b1, b2, b3, b4, b5, b6, b7, b8, b9, b10, b12, ⟨b13, b14, b15, b16, b17, b18, b19, b20, b21, b22, b23⟩, b24, c24⟩⟩
theorem MsT.ok {m : Msg} (h : MsT m) : msOK m := ⟨h.rd.1, h.p.pe.1, h.tl⟩
theorem dec_comm {α : Type} [DecidableEq α] (a b : α) : decide (b = a) = decide (a = b) := by
  by_cases h : a = b
  · subst h; rfl
  · rw [decide_eq_false h, decide_eq_false (fun e => h e.symm)]
end Go.Proofs.Ytoncflpifafhlaa.R26
