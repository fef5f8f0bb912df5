/-
  Updates as arguments, opened.
-/
import Derived.Test.YtokjokbbegcceaaOpen
import Derived.WalkLawsBesides
namespace Go.Proofs.Ytokjokbbegcceaa
open Go.RowKit Go.WideShapes Go.ChangeShapes Go.ChangeAt


theorem open_fw {H : Type} {enc : TypeId × Value → H} {w : World} {base : Nat} {spare : Nat → Bool} {held : Bool} {r0 : Reach} {b0 : Nat} {vv : Value} {dt : DataW H} {ps : List MemPlace}
    (hvv : Value.okWide Try.prog w r0 b0 23 vv) (hh : DataW.Trod enc Try.prog w base spare held 23 vv dt ps) :
    ∃ (s : Int) (v : Int) (t : Int) (d : Int) (tr : Int), vv = .agg #[.int .i64 s, .int .i64 v, .int .i64 t, .int .i64 d, .int .i64 tr] ∧ I64 s ∧ I64 v ∧ I64 t ∧ I64 d ∧ I64 tr := by
  obtain ⟨cs, nn, rfl, hl, hf⟩ := open_struct Try.underlying23 (by kernel_rfl) (by kernel_rfl) hvv hh
  obtain ⟨c0, y0, e0, h0⟩ := hf 0 _ rfl
  obtain ⟨c1, y1, e1, h1⟩ := hf 1 _ rfl
  obtain ⟨c2, y2, e2, h2⟩ := hf 2 _ rfl
  obtain ⟨c3, y3, e3, h3⟩ := hf 3 _ rfl
  obtain ⟨c4, y4, e4, h4⟩ := hf 4 _ rfl
  obtain ⟨s, rfl, w0⟩ := cell_int Try.underlying3 h0
  obtain ⟨v, rfl, w1⟩ := cell_int Try.underlying3 h1
  obtain ⟨t, rfl, w2⟩ := cell_int Try.underlying3 h2
  obtain ⟨d, rfl, w3⟩ := cell_int Try.underlying3 h3
  obtain ⟨tr, rfl, w4⟩ := cell_int Try.underlying3 h4
  refine ⟨s, v, t, d, tr, ?_, i64_of_wf w0, i64_of_wf w1, i64_of_wf w2, i64_of_wf w3, i64_of_wf w4⟩
  have hl' : cs.length = 5 := hl
  match cs, hl', e0, e1, e2, e3, e4 with
  | [_, _, _, _, _], _, e0, e1, e2, e3, e4 =>
    simp at e0 e1 e2 e3 e4
    simp [e0, e1, e2, e3, e4]

theorem open_op {H : Type} {enc : TypeId × Value → H} {w : World} {base : Nat} {spare : Nat → Bool} {held : Bool} {r0 : Reach} {b0 : Nat} {vv : Value} {dt : DataW H} {ps : List MemPlace}
    (hvv : Value.okWide Try.prog w r0 b0 29 vv) (hh : DataW.Trod enc Try.prog w base spare held 29 vv dt ps) :
    ∃ (k : Int) (ver : Int) (due : Int) (otr : Int) (now : Int) (idle : Bool) (good : Bool), vv = .agg #[.int .i64 k, .int .i64 ver, .int .i64 due, .int .i64 otr, .int .i64 now, .bool idle, .bool good] ∧ I64 k ∧ I64 ver ∧ I64 due ∧ I64 otr ∧ I64 now := by
  obtain ⟨cs, nn, rfl, hl, hf⟩ := open_struct Try.underlying29 (by kernel_rfl) (by kernel_rfl) hvv hh
  obtain ⟨c0, y0, e0, h0⟩ := hf 0 _ rfl
  obtain ⟨c1, y1, e1, h1⟩ := hf 1 _ rfl
  obtain ⟨c2, y2, e2, h2⟩ := hf 2 _ rfl
  obtain ⟨c3, y3, e3, h3⟩ := hf 3 _ rfl
  obtain ⟨c4, y4, e4, h4⟩ := hf 4 _ rfl
  obtain ⟨c5, y5, e5, h5⟩ := hf 5 _ rfl
  obtain ⟨c6, y6, e6, h6⟩ := hf 6 _ rfl
  obtain ⟨k, rfl, w0⟩ := cell_int Try.underlying3 h0
  obtain ⟨ver, rfl, w1⟩ := cell_int Try.underlying3 h1
  obtain ⟨due, rfl, w2⟩ := cell_int Try.underlying3 h2
  obtain ⟨otr, rfl, w3⟩ := cell_int Try.underlying3 h3
  obtain ⟨now, rfl, w4⟩ := cell_int Try.underlying3 h4
  obtain ⟨idle, rfl⟩ := cell_bool Try.underlying4 h5
  obtain ⟨good, rfl⟩ := cell_bool Try.underlying4 h6
  refine ⟨k, ver, due, otr, now, idle, good, ?_, i64_of_wf w0, i64_of_wf w1, i64_of_wf w2, i64_of_wf w3, i64_of_wf w4⟩
  have hl' : cs.length = 7 := hl
  match cs, hl', e0, e1, e2, e3, e4, e5, e6 with
  | [_, _, _, _, _, _, _], _, e0, e1, e2, e3, e4, e5, e6 =>
    simp at e0 e1 e2 e3 e4 e5 e6
    simp [e0, e1, e2, e3, e4, e5, e6]
end Go.Proofs.Ytokjokbbegcceaa
