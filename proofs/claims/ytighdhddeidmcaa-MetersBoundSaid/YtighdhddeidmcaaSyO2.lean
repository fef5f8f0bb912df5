/-
  A part of a symbolic walk that is proved sound: what the functions of a program do with data. No conditions.
-/
import Derived.Test.YtighdhddeidmcaaSyO1
set_option linter.unusedSimpArgs false
set_option linter.unusedVariables false
namespace Go.Proofs.Ytighdhddeidmcaa.Sy
open Go.RowKit

/-! Conditions, taken apart step by step. -/
section
variable {P : Program} {G : Globs} {K : FR → Prop} {Λ : List Lp} {ρ : List D}
theorem den_ite {e : E} {a b : VC} (h1 : (e.den ρ).toB = true → a.den P G K Λ ρ) (h2 : (e.den ρ).toB = false → b.den P G K Λ ρ) : (VC.ite e a b).den P G K Λ ρ := ⟨h1, h2⟩
theorem den_ret {rs : List E} (h : K (.ok (rs.map (·.den ρ)))) : (VC.ret rs).den P G K Λ ρ := h
theorem den_ev {l : List Ev} {k : VC} (h : evsP P G l ρ fun ρ' => k.den P G K Λ ρ') : (VC.ev l k).den P G K Λ ρ := h
theorem evs_nil {k : List D → Prop} (h : k ρ) : evsP P G [] ρ k := h
theorem evs_ob {e : E} {l : List Ev} {k : List D → Prop} (h : (e.den ρ).toB = true) (hk : evsP P G l ρ k) : evsP P G (.ob e :: l) ρ k := ⟨h, hk⟩
def shB : List Sh → List D → Bool
  | [], [] => true
  | .int k :: r, .int j _ :: l => decide (k = j) && shB r l
  | .bool :: r, .bool _ :: l => shB r l
  | .str :: r, .str _ :: l => shB r l
  | .lst _ :: r, .lst _ :: l => shB r l
  | _, _ => false
theorem exSh_of : ∀ {shs : List Sh} {xs : List D} {f : List D → Prop}, shB shs xs = true → f xs → ExSh shs f
  | [], [], f, _, h => h
  | .int k :: r, .int j n :: l, f, hb, h => by
    simp only [shB, Bool.and_eq_true, decide_eq_true_eq] at hb
    obtain ⟨e, hb⟩ := hb
    subst e
    exact ⟨n, exSh_of hb h⟩
  | .bool :: r, .bool b :: l, f, hb, h => ⟨b, exSh_of hb h⟩
  | .str :: r, .str b :: l, f, hb, h => ⟨b, exSh_of hb h⟩
  | .lst _ :: r, .lst b :: l, f, hb, h => ⟨b, exSh_of hb h⟩
  | [], _ :: _, f, hb, h => by simp [shB] at hb
  | .int _ :: _, [], f, hb, h | .bool :: _, [], f, hb, h | .str :: _, [], f, hb, h | .lst _ :: _, [], f, hb, h => by simp [shB] at hb
  | .int _ :: _, .bool _ :: _, f, hb, h | .int _ :: _, .str _ :: _, f, hb, h | .int _ :: _, .lst _ :: _, f, hb, h | .int _ :: _, .rc _ :: _, f, hb, h => by simp [shB] at hb
  | .bool :: _, .int _ _ :: _, f, hb, h | .bool :: _, .str _ :: _, f, hb, h | .bool :: _, .lst _ :: _, f, hb, h | .bool :: _, .rc _ :: _, f, hb, h => by simp [shB] at hb
  | .str :: _, .int _ _ :: _, f, hb, h | .str :: _, .bool _ :: _, f, hb, h | .str :: _, .lst _ :: _, f, hb, h | .str :: _, .rc _ :: _, f, hb, h => by simp [shB] at hb
  | .lst _ :: _, .int _ _ :: _, f, hb, h | .lst _ :: _, .bool _ :: _, f, hb, h | .lst _ :: _, .str _ :: _, f, hb, h | .lst _ :: _, .rc _ :: _, f, hb, h => by simp [shB] at hb
/-- A call that is known. -/
theorem evs_call {f : FuncId} {ts : List TS} {as : List E} {us : List TS} {n : Nat} {l : List Ev} {k : List D → Prop} {ds rs : List D} (xs : List D) (hx : shB ((us ++ outsT ts).flatMap TS.flat) xs = true) (h : Fun P G f ts ds us (.ok rs)) (ha : as.map (·.den ρ) = ds) (hr : datas (us ++ outsT ts) xs = rs) (hk : evsP P G l (ρ ++ xs) k) : evsP P G (.call f ts as us n :: l) ρ k := by
  subst ha hr
  exact exSh_of hx ⟨h, hk⟩
theorem den_cal {f : FuncId} {ts : List TS} {as : List E} {us : List TS} {n : Nat} {k : VC} {ds rs : List D} (xs : List D) (hx : shB ((us ++ outsT ts).flatMap TS.flat) xs = true) (h : Fun P G f ts ds us (.ok rs)) (ha : as.map (·.den ρ) = ds) (hr : datas (us ++ outsT ts) xs = rs) (hk : k.den P G K Λ (ρ ++ xs)) : (VC.cal f ts as us n k).den P G K Λ ρ := by
  subst ha hr
  exact .inl (exSh_of hx ⟨h, hk⟩)
theorem den_calP {f : FuncId} {ts : List TS} {as : List E} {us : List TS} {n : Nat} {k : VC} {ds : List D} {T : TypeId} {x : D} (h : Fun P G f ts ds us (.pan T x)) (ha : as.map (·.den ρ) = ds) (hk : K (.pan T x)) : (VC.cal f ts as us n k).den P G K Λ ρ := by
  subst ha
  exact .inr ⟨T, x, h, hk⟩
theorem den_pan {T : TypeId} {e : E} (h : K (.pan T (e.den ρ))) : (VC.pan T e).den P G K Λ ρ := h
theorem den_loop {shs : List Sh} {init : List E} {body : VC} (I : List D → Prop) (μ : List D → Nat) (h0 : I (init.map (·.den ρ))) (h : AllSh shs fun xs => I xs → body.den P G K (Λ ++ [⟨I, μ, μ xs⟩]) (ρ ++ xs)) : (VC.loop shs init body).den P G K Λ ρ := ⟨I, μ, h0, h⟩
theorem AllSh.of : ∀ {shs : List Sh} {f : List D → Prop}, (∀ xs, f xs) → AllSh shs f
  | [], _, h => h []
  | .int _ :: _, _, h => fun _ _ _ => AllSh.of fun xs => h (_ :: xs)
  | .bool :: _, _, h => fun _ => AllSh.of fun xs => h (_ :: xs)
  | .str :: _, _, h => fun _ _ => AllSh.of fun xs => h (_ :: xs)
  | .lst _ :: _, _, h => fun _ _ => AllSh.of fun xs => h (_ :: xs)
/-- Where ways meet: what holds there. -/
theorem den_join {shs : List Sh} {a b : VC} (I : List D → Prop) (ha : a.den P G K (Λ ++ [⟨I, fun _ => 0, 1⟩]) ρ) (h : ∀ xs, I xs → b.den P G K (Λ ++ [⟨I, fun _ => 0, 0⟩]) (ρ ++ xs)) : (VC.join shs a b).den P G K Λ ρ := ⟨I, fun _ => 0, 1, ha, AllSh.of h⟩
theorem den_loopI {shs : List Sh} {init : List E} {body : VC} (I : List D → Prop) (μ : List D → Nat) (h0 : I (init.map (·.den ρ))) (h : ∀ xs, I xs → body.den P G K (Λ ++ [⟨I, μ, μ xs⟩]) (ρ ++ xs)) : (VC.loop shs init body).den P G K Λ ρ := ⟨I, μ, h0, AllSh.of h⟩
theorem den_back {n : Nat} {xs : List E} {L : Lp} (hL : Λ[n]? = some L) (h : L.I (xs.map (·.den ρ))) (hm : L.μ (xs.map (·.den ρ)) < L.m) : (VC.back n xs).den P G K Λ ρ := by
  simp only [VC.den, hL]; exact ⟨h, hm⟩
end
abbrev I64d (n : Int) : D := .int .i64 n
abbrev tI : TS := .c (.int .i64)
abbrev tB : TS := .c .bool
end Go.Proofs.Ytighdhddeidmcaa.Sy
