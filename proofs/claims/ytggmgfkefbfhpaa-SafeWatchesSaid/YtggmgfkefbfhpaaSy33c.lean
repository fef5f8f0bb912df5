/-
  The states as data; the end of a law.
-/
import Derived.Test.YtggmgfkefbfhpaaSy33b
set_option maxRecDepth 100000
set_option linter.unusedSimpArgs false
set_option linter.unusedVariables false
namespace Go.Proofs.Ytggmgfkefbfhpaa
open Go.Proofs.Ytggmgfkefbfhpaa.Sy Go.RowKit Go.WideShapes Go.ChangeShapes Go.ChangeAt
theorem typ_sf {d : D} (h : TypT tSf d) : ∃ c t f L, d = sf c t f L ∧ inI c ∧ inI t ∧ inI f ∧ ∀ n ∈ L, inI n := by
  obtain ⟨ds, rfl, h⟩ := h
  unfold Typs at h
  obtain ⟨_, _, rfl, h1, h⟩ := h
  unfold Typs at h
  obtain ⟨_, _, rfl, h2, h⟩ := h
  unfold Typs at h
  obtain ⟨_, _, rfl, h3, h⟩ := h
  unfold Typs at h
  obtain ⟨_, _, rfl, h4, h⟩ := h
  unfold Typs at h
  subst h
  obtain ⟨c, rfl, hc⟩ := typ_int h1
  obtain ⟨t, rfl, ht⟩ := typ_int h2
  obtain ⟨f, rfl, hf⟩ := typ_int h3
  obtain ⟨L, rfl, hL, hx⟩ := typ_ints h4
  exact ⟨c, t, f, L, rfl, hc, ht, hf, hx⟩
theorem ex_end {n : Nat} {k : VC} {Λ : List Lp} {ρ : List D} {K : FR → Prop} (hk : k.den Try.prog [] K Λ (ρ ++ [.bool true])) : (VC.cal 10 [] [] [.c .bool] n k).den Try.prog [] K Λ ρ :=
  den_cal [.bool true] rfl ex_ok rfl rfl hk
theorem ex_evs {n : Nat} {k : List D → Prop} {l : List Ev} {ρ : List D} (hk : evsP Try.prog [] l (ρ ++ [.bool true]) k) : evsP Try.prog [] (.call 10 [] [] [.c .bool] n :: l) ρ k :=
  evs_call [.bool true] rfl ex_ok rfl rfl hk
abbrev tMn : TS := .g [.int .i64, .int .i64, .int .i64]
theorem typ_mn {d : D} (h : TypT tMn d) : ∃ a b c, d = .rc [I64d a, I64d b, I64d c] ∧ inI a ∧ inI b ∧ inI c := by
  obtain ⟨ds, rfl, h⟩ := h
  unfold Typs at h
  obtain ⟨_, _, rfl, h1, h⟩ := h
  unfold Typs at h
  obtain ⟨_, _, rfl, h2, h⟩ := h
  unfold Typs at h
  obtain ⟨_, _, rfl, h3, h⟩ := h
  unfold Typs at h
  subst h
  obtain ⟨a, rfl, ha⟩ := typ_int h1
  obtain ⟨b, rfl, hb⟩ := typ_int h2
  obtain ⟨c, rfl, hc⟩ := typ_int h3
  exact ⟨a, b, c, rfl, ha, hb, hc⟩
end Go.Proofs.Ytggmgfkefbfhpaa
