/-
  Meters as arguments, opened.
-/
import Derived.Test.YtmkeigpbjdmghaaOpen
import Derived.WalkLawsBesides
namespace Go.Proofs.Ytmkeigpbjdmghaa
open Go.RowKit Go.WideShapes Go.ChangeShapes Go.ChangeAt


theorem open_meter {H : Type} {enc : TypeId × Value → H} {w : World} {base : Nat} {spare : Nat → Bool} {held : Bool} {r0 : Reach} {b0 : Nat} {v : Value} {dt : DataW H} {ps : List MemPlace}
    (hv : Value.okWide Try.prog w r0 b0 23 v) (h : DataW.Trod enc Try.prog w base spare held 23 v dt ps) :
    ∃ (R : Int) (M : Int) (T : Int) (G : Int), v = .agg #[.int .i64 R, .int .i64 M, .int .i64 T, .int .i64 G] ∧ I64 R ∧ I64 M ∧ I64 T ∧ I64 G := by
  obtain ⟨cs, n, rfl, hl, hf⟩ := open_struct Try.underlying23 (by kernel_rfl) (by kernel_rfl) hv h
  obtain ⟨c0, y0, e0, h0⟩ := hf 0 _ rfl
  obtain ⟨c1, y1, e1, h1⟩ := hf 1 _ rfl
  obtain ⟨c2, y2, e2, h2⟩ := hf 2 _ rfl
  obtain ⟨c3, y3, e3, h3⟩ := hf 3 _ rfl
  obtain ⟨R, rfl, w0⟩ := cell_int Try.underlying3 h0
  obtain ⟨M, rfl, w1⟩ := cell_int Try.underlying3 h1
  obtain ⟨T, rfl, w2⟩ := cell_int Try.underlying3 h2
  obtain ⟨G, rfl, w3⟩ := cell_int Try.underlying3 h3
  refine ⟨R, M, T, G, ?_, i64_of_wf w0, i64_of_wf w1, i64_of_wf w2, i64_of_wf w3⟩
  have hl' : cs.length = 4 := hl
  match cs, hl', e0, e1, e2, e3 with
  | [_, _, _, _], _, e0, e1, e2, e3 =>
    simp at e0 e1 e2 e3
    simp [e0, e1, e2, e3]
end Go.Proofs.Ytmkeigpbjdmghaa
