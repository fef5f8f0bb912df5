/-
  ConnectorValids: the connector package's Valid, Charges and Free return what the reference returns, for any connector. No conditions.
-/
import Derived.Test.YtajphmclobadfaaWalks28
import Derived.Test.YtajphmclobadfaaOpen
namespace Go.Proofs.Ytajphmclobadfaa
open Go.RowKit Go.WideShapes Go.ChangeShapes Go.ChangeAt

set_option maxHeartbeats 1000000 in
theorem valids_walk (s : Int) (p r d : Bool) (f : Int) (w : World) : Calls Try.prog 3 #[.agg #[.int .i64 s, .bool p, .bool r, .bool d, .int .i64 f]] w fun e w' => e = .returned (.bool true) ∧ Below w.heap.size w w' := by
  go_enter Try.func3, Try.ntmps3
  go_wp2_with fail
  go_region_held3 (fun w' => (∀ b o, b < w.heap.size + 1 → w'.cell? ⟨b, o, none⟩ = (w.alloc (.cells #[.int .i64 s, .bool p, .bool r, .bool d, .int .i64 f] 23)).cell? ⟨b, o, none⟩) ∧ Below (w.heap.size + 1) (w.alloc (.cells #[.int .i64 s, .bool p, .bool r, .bool d, .int .i64 f] 23)) w')
    (first | exact s_start | exact s_keep (by simp) (by assumption) (by assumption))
    (first
      | (go_at_call 4; refine (valid_any s p r d f _).mono ?_; rintro e w2 ⟨rfl, hb2⟩)
      | (go_at_call 5; refine (rvalid_any s p r d f _).mono ?_; rintro e w3 ⟨rfl, hb3⟩)
      | (go_at_call 6; refine (charges_any s p r d f _).mono ?_; rintro e w4 ⟨rfl, hb4⟩)
      | (go_at_call 7; refine (rcharges_any s p r d f _).mono ?_; rintro e w5 ⟨rfl, hb5⟩)
      | (go_at_call 8; refine (free_any s p r d f _).mono ?_; rintro e w6 ⟨rfl, hb6⟩)
      | (go_at_call 9; refine (rfree_any s p r d f _).mono ?_; rintro e w7 ⟨rfl, hb7⟩))
  all_goals go_wp2
  all_goals go_ret
  all_goals exact ⟨by simp, below_out (W := w.alloc (.cells #[.int .i64 s, .bool p, .bool r, .bool d, .int .i64 f] 23)) (by assumption) (by simp) (by go_grown)⟩

theorem open_conn {H : Type} {enc : TypeId × Value → H} {w : World} {base : Nat} {spare : Nat → Bool} {held : Bool} {r : Reach} {b0 : Nat} {v : Value} {dt : DataW H} {ps : List MemPlace}
    (hv : Value.okWide Try.prog w r b0 23 v) (h : DataW.Trod enc Try.prog w base spare held 23 v dt ps) :
    ∃ (s : Int) (p r d : Bool) (f : Int), v = .agg #[.int .i64 s, .bool p, .bool r, .bool d, .int .i64 f] ∧ I64 s ∧ I64 f := by
  obtain ⟨cs, n, rfl, hl, hf⟩ := open_struct Try.underlying23 (by kernel_rfl) (by kernel_rfl) hv h
  obtain ⟨c0, y0, e0, h0⟩ := hf 0 _ rfl
  obtain ⟨c1, y1, e1, h1⟩ := hf 1 _ rfl
  obtain ⟨c2, y2, e2, h2⟩ := hf 2 _ rfl
  obtain ⟨c3, y3, e3, h3⟩ := hf 3 _ rfl
  obtain ⟨c4, y4, e4, h4⟩ := hf 4 _ rfl
  obtain ⟨s, rfl, w0⟩ := cell_int Try.underlying3 h0
  obtain ⟨p, rfl⟩ := cell_bool Try.underlying4 h1
  obtain ⟨r, rfl⟩ := cell_bool Try.underlying4 h2
  obtain ⟨d, rfl⟩ := cell_bool Try.underlying4 h3
  obtain ⟨f, rfl, w4⟩ := cell_int Try.underlying3 h4
  refine ⟨s, p, r, d, f, ?_, i64_of_wf w0, i64_of_wf w4⟩
  have hl' : cs.length = 5 := hl
  match cs, hl', e0, e1, e2, e3, e4 with
  | [_, _, _, _, _], _, e0, e1, e2, e3, e4 =>
    simp at e0 e1 e2 e3 e4
    simp [e0, e1, e2, e3, e4]

set_option maxRecDepth 100000 in
theorem valids_lifted (os : Os) (started : os.Started) (H : Type) (enc : TypeId × Value → H) :
    ReturnsInHanded {} Try.checked os 3 .any (Rows.connectorValidsSpec.pre6 enc Try.prog Try.f3 Rows.connectorValidsRow.domain false) (Rows.connectorValidsSpec.post enc Try.prog Try.f3 false true false false) := by
  refine returnsInHanded_of_change (C := Try.checked) own started (by kernel_rfl) Try.func3
    (ChangeSpec.witness6 (enc := enc) (C := Try.checked) false ⟨#[], #[.agg #[.int .i64 0, .bool false, .bool false, .bool false, .int .i64 0]], []⟩ 8 (by kernel_rfl) (by kernel_rfl) (by kernel_rfl) (by kernel_rfl)) ?_
  intro W base args ds gs before hval0 hW hcnd _
  have hval : ∀ (j : Nat) t v, Try.f3.params[j]? = some t → args[j]? = some v → Value.okWide Try.prog W .any base t v := hval0
  obtain ⟨q, q', hA0, _, _, _, _⟩ := id hW
  have hA : DataW.TrodAll enc Try.prog W 0 (fun _ => true) true Try.f3.params.toList args.toList ds q := hA0
  rw [Try.params3] at hA hval
  obtain ⟨v0, vs0, d0, ds0, p0, q0, hargs, rfl, rfl, h0, r0⟩ := trodAll_cons hA
  obtain ⟨rfl, rfl, rfl⟩ := trodAll_nil r0
  obtain rfl : args = #[v0] := by cases args; simp_all
  obtain ⟨s, p, r, d, f, rfl, _, _⟩ := open_conn (hval 0 _ v0 rfl rfl) h0
  refine (valids_walk s p r d f W).mono fun e W' ⟨he, hb⟩ => ?_
  subst he
  exact ⟨_, rfl, law_post (tb := 4) laidOut rfl (by kernel_rfl) rfl Try.underlying4 hW rfl hb⟩

theorem connectorValids_holds : Rows.ConnectorValidsSaid :=
  OpenClaim.holds_of_wide 3 Try.f3 rfl rfl rfl rfl rfl rfl rfl ⟨rfl, rfl, rfl, rfl, rfl⟩ rfl rfl rfl rfl rfl (by kernel_rfl) Try.func3 (by kernel_rfl)
    (of_decide_eq_true (by kernel_rfl)) (by unfold Func.isWrapper; first | (rw [if_pos (by decide +kernel)]; kernel_rfl) | (rw [if_neg (by decide +kernel)]; exact ⟨rfl, rfl⟩))
    (fun os started H enc _ => valids_lifted os started H enc)
#print axioms connectorValids_holds
end Go.Proofs.Ytajphmclobadfaa
