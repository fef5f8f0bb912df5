/-
  CallNews: its walk and its row.
-/
import Derived.Test.YtmplgfkhknhacaaC27x
set_option maxRecDepth 100000
set_option linter.unusedSimpArgs false
set_option linter.unusedVariables false
namespace Go.Proofs.Ytmplgfkhknhacaa
open Go.Proofs.Ytmplgfkhknhacaa.Sy Go.Proofs.Ytmplgfkhknhacaa.L7 Go.Proofs.Ytmplgfkhknhacaa.Id Go.Proofs.Ytmplgfkhknhacaa.R26 Go.Proofs.Ytmplgfkhknhacaa.V26 Go.Proofs.Ytmplgfkhknhacaa.N27 Go.Proofs.Ytmplgfkhknhacaa.C27 Go.RowKit Go.WideShapes Go.ChangeShapes Go.ChangeAt

set_option maxHeartbeats 4000000 in
theorem law_all (xs : List D) (h : TypTs [tI, tI, tI] xs) : Fun Try.prog [] 4 [tI, tI, tI] xs [.c .bool] (.ok [.bool true]) := by
  obtain ⟨d, _, rfl, h0, _, _, rfl, h1, _, _, rfl, h2, rfl⟩ := h
  obtain ⟨a, rfl, _⟩ := typ_int h0
  obtain ⟨b, rfl, _⟩ := typ_int h1
  obtain ⟨c, rfl, _⟩ := typ_int h2
  refine lCallNews_ent _ _ ?_
  show vclCallNews.den _ _ _ _ _
  unfold vclCallNews
  have hnb := new_b a b c
  refine den_cal [I64d (newO a b c).nx, I64d (newO a b c).tm, I64d (newO a b c).rt, msgsD (newO a b c).qu, msgsD (newO a b c).ou, I64d (newO a b c).du, I64d (newO a b c).tr, msgsD (newO a b c).se, I64d (newV a b c)] rfl (new_fn a b c) rfl rfl ?_
  (try simp only [List.cons_append, List.nil_append])
  refine den_cal [I64d (newO a b c).nx, I64d (newO a b c).tm, I64d (newO a b c).rt, msgsD (newO a b c).qu, msgsD (newO a b c).ou, I64d (newO a b c).du, I64d (newO a b c).tr, msgsD (newO a b c).se, I64d (newV a b c)] rfl (rnew_fn a b c) rfl rfl ?_
  (try simp only [List.cons_append, List.nil_append])
  refine den_cal [.bool true] rfl (fun_as (same_fn (newO a b c) (newO a b c) hnb hnb) (by rw [decide_eq_true rfl] <;> rfl)) rfl rfl ?_
  (try simp only [List.cons_append, List.nil_append])
  refine den_t rfl ?_
  refine den_t (by simp only [dF, dE]) ?_
  exact den_cal [.bool true] rfl ex_fn rfl rfl (den_ret rfl)

set_option maxRecDepth 100000 in
theorem callNews_lifted (os : Os) (started : os.Started) (H : Type) (enc : TypeId × Value → H) :
    ReturnsInHanded {} Try.checked os 4 .any (Rows.callNewsSpec.pre6 enc Try.prog Try.f4 Rows.callNewsRow.domain false) (Rows.callNewsSpec.post enc Try.prog Try.f4 false true false false) := by
  refine returnsInHanded_of_change (C := Try.checked) own started (by kernel_rfl) Try.func4
    (ChangeSpec.witness6 (enc := enc) (C := Try.checked) false ⟨#[], #[.int .i64 0, .int .i64 0, .int .i64 0], []⟩ 8 (by kernel_rfl) (by kernel_rfl) (by kernel_rfl) (by kernel_rfl)) ?_
  intro W base args ds gs before hval0 hW hcnd _
  have hval : ∀ (j : Nat) t v, Try.f4.params[j]? = some t → args[j]? = some v → Value.okWide Try.prog W .any base t v := hval0
  obtain ⟨q, q', hA0, _, _, _, _⟩ := id hW
  have hA : DataW.TrodAll enc Try.prog W 0 (fun _ => true) true Try.f4.params.toList args.toList ds q := hA0
  have walk := law_walk (P := Try.prog) (f := 4) (fn := Try.f4) (fun p hp => by cases hp) (Ts := [tI, tI, tI]) (by kernel_rfl) law_all hval hA
  rw [Try.params4] at hA
  obtain ⟨v0, vs0, d0, ds0, p0, q0, hargs0, rfl, rfl, h0, r0⟩ := trodAll_cons hA
  obtain ⟨v1, vs1, d1, ds1, p1, q1, hargs1, rfl, rfl, h1, r1⟩ := trodAll_cons r0
  subst hargs1
  obtain ⟨v2, vs2, d2, ds2, p2, q2, hargs2, rfl, rfl, h2, r2⟩ := trodAll_cons r1
  subst hargs2
  obtain ⟨rfl, rfl, rfl⟩ := trodAll_nil r2
  refine walk.mono fun e W' ⟨he, hb⟩ => ?_
  subst he
  exact ⟨_, rfl, law_post (tb := 4) laidOut rfl (by kernel_rfl) rfl Try.underlying4 hW rfl hb⟩

theorem callNews_holds : Rows.CallNewsSaid :=
  OpenClaim.holds_of_wide 4 Try.f4 rfl rfl rfl rfl rfl rfl rfl ⟨rfl, rfl, rfl, rfl, rfl⟩ rfl rfl rfl rfl rfl (by kernel_rfl) Try.func4 (by kernel_rfl)
    (of_decide_eq_true (by kernel_rfl)) (by unfold Func.isWrapper; first | (rw [if_pos (by decide +kernel)]; kernel_rfl) | (rw [if_neg (by decide +kernel)]; exact ⟨rfl, rfl⟩))
    (fun os started H enc _ => callNews_lifted os started H enc)
#print axioms callNews_holds
end Go.Proofs.Ytmplgfkhknhacaa
