/-
  A part of a symbolic walk that is proved sound: conditions reckoned out on closed data, over functions whose answers are known. No conditions.
-/
import Derived.Test.YtindphofgojfbaaSyE1
set_option linter.unusedSimpArgs false
set_option linter.unusedVariables false
namespace Go.Proofs.Ytindphofgojfbaa.Sy
open Go.RowKit
structure NEnt where
  f : FuncId
  ts : List TS
  us : List TS
  run : List D → Option FR
def NEntOK (P : Program) (G : Globs) (e : NEnt) : Prop := ∀ ds r, e.run ds = some r → Fun P G e.f e.ts ds e.us r
def natPhi : List NEnt → Phi
  | [], _, _, _, _ => none
  | e :: l, f, ts, ds, us =>
    if Nat.beq e.f f then
      if tssSame e.ts ts && tssSame e.us us then
        match e.run ds with
        | some (.ok rs) => if okTs (us ++ outsT ts) rs then some (.ok rs) else none
        | r => r
      else none
    else natPhi l f ts ds us
theorem natPhi_sound {P : Program} {G : Globs} : ∀ {l : List NEnt}, (∀ e ∈ l, NEntOK P G e) → PhiOK P G (natPhi l)
  | [], _ => fun f ts ds us r h => by simp [natPhi] at h
  | e :: l, hl => fun f ts ds us r h => by
    have ih := natPhi_sound (P := P) (G := G) (l := l) fun x hx => hl x (by simp [hx])
    simp only [natPhi] at h
    split at h
    · rename_i hf
      have hf' := Nat.eq_of_beq_eq_true hf
      subst hf'
      split at h
      · rename_i hs
        simp only [Bool.and_eq_true] at hs
        have e1 := tssSame_eq hs.1
        have e2 := tssSame_eq hs.2
        subst e1 e2
        split at h
        · rename_i rs hr
          split at h
          · rename_i hok
            cases h
            exact ⟨hl e (by simp) _ _ hr, fun rs' e => by cases e; exact hok⟩
          · cases h
        · rename_i hne
          refine ⟨hl e (by simp) _ _ h, fun rs e => ?_⟩
          subst e
          exact absurd h (hne rs)
      · cases h
    · exact ih f ts ds us r h
def evalG (Φ0 : Phi) (fuel : Nat) : List Ent → Phi
  | [], f, ts, ds, us => Φ0 f ts ds us
  | e :: l, f, ts, ds, us =>
    if Nat.beq e.f f then
      if tssSame e.ts ts && tssSame e.us us then
        match e.v.evalS (evalG Φ0 fuel l) (evalN (evalG Φ0 fuel l) fuel) [] (flatD ts ds) with
        | some (.ok rs) => if okTs (us ++ outsT ts) rs then some (.ok rs) else none
        | r => r
      else none
    else evalG Φ0 fuel l f ts ds us
theorem evalG_sound {P : Program} {G : Globs} {Φ0 : Phi} (h0 : PhiOK P G Φ0) {fuel : Nat} : ∀ {l : List Ent}, (∀ e ∈ l, EntOK P G e) → PhiOK P G (evalG Φ0 fuel l)
  | [], _ => fun f ts ds us r h => h0 f ts ds us r h
  | e :: l, hl => fun f ts ds us r h => by
    have ih := evalG_sound (P := P) (G := G) h0 (fuel := fuel) (l := l) fun x hx => hl x (by simp [hx])
    simp only [evalG] at h
    split at h
    · rename_i hf
      have hf' := Nat.eq_of_beq_eq_true hf
      subst hf'
      split at h
      · rename_i hs
        simp only [Bool.and_eq_true] at hs
        have e1 := tssSame_eq hs.1
        have e2 := tssSame_eq hs.2
        subst e1 e2
        have key : ∀ r, e.v.evalS (evalG Φ0 fuel l) (evalN (evalG Φ0 fuel l) fuel) [] (flatD e.ts ds) = some r → Fun P G e.f e.ts ds e.us r := fun r hr =>
          hl e (by simp) ds r (evalS_sound ih e.v fuel [] [] _ hr rfl (fun k l hk => by simp at hk))
        split at h
        · rename_i rs hr
          split at h
          · rename_i hok
            cases h
            exact ⟨key _ hr, fun rs' e => by cases e; exact hok⟩
          · cases h
        · rename_i hne
          refine ⟨key r h, fun rs e => ?_⟩
          subst e
          exact absurd h (hne rs)
      · cases h
    · exact ih f ts ds us r h
theorem fun_of_evalG {P : Program} {G : Globs} {ns : List NEnt} (hn : ∀ e ∈ ns, NEntOK P G e) {l : List Ent} (hl : ∀ e ∈ l, EntOK P G e) (fuel : Nat) {f : FuncId} {ts : List TS} {ds : List D} {us : List TS} {r : FR} (h : evalG (natPhi ns) fuel l f ts ds us = some r) : Fun P G f ts ds us r := (evalG_sound (natPhi_sound hn) hl f ts ds us r h).1
def bOf : List D → Option (List Int)
  | [] => some []
  | .int .u8 n :: l => if decide (0 ≤ n) && decide (n ≤ 255) then (match bOf l with | some m => some (n :: m) | none => none) else none
  | _ :: _ => none
theorem bOf_eq : ∀ {l : List D} {m : List Int}, bOf l = some m → l = m.map (fun n => .int .u8 n) ∧ ∀ x ∈ m, 0 ≤ x ∧ x ≤ 255
  | [], m, h => by simp only [bOf, Option.some.injEq] at h; subst h; exact ⟨rfl, fun x hx => by cases hx⟩
  | d :: l, m, h => by
    cases d with
    | int k n =>
      cases k <;> simp only [bOf, reduceCtorEq] at h
      split at h
      · rename_i hr
        split at h
        · rename_i m' hm
          cases h
          obtain ⟨h1, h2⟩ := bOf_eq hm
          simp only [Bool.and_eq_true, decide_eq_true_eq] at hr
          refine ⟨by rw [h1]; rfl, fun x hx => ?_⟩
          rcases List.mem_cons.1 hx with rfl | hx
          · exact hr
          · exact h2 x hx
        · cases h
      · cases h
    | _ => simp [bOf] at h
def bbOf : List D → Option (List (List Int))
  | [] => some []
  | .lst d :: l => match bOf d, bbOf l with | some b, some m => some (b :: m) | _, _ => none
  | _ :: _ => none
theorem bbOf_eq : ∀ {l : List D} {m : List (List Int)}, bbOf l = some m → l = m.map (fun b => .lst (b.map (fun n => .int .u8 n))) ∧ ∀ b ∈ m, ∀ x ∈ b, 0 ≤ x ∧ x ≤ 255
  | [], m, h => by simp only [bbOf, Option.some.injEq] at h; subst h; exact ⟨rfl, fun x hx => by cases hx⟩
  | d :: l, m, h => by
    cases d with
    | lst d =>
      simp only [bbOf] at h
      split at h
      · rename_i b m' hb hm
        cases h
        obtain ⟨h1, h2⟩ := bbOf_eq hm
        obtain ⟨h3, h4⟩ := bOf_eq hb
        refine ⟨by rw [h1, h3]; rfl, fun x hx => ?_⟩
        rcases List.mem_cons.1 hx with rfl | hx
        · exact h4
        · exact h2 x hx
      · cases h
    | _ => simp [bbOf] at h
def fOf : List D → Option (List (Int × List Int))
  | [] => some []
  | .rc [.int .i64 t, .lst d] :: l => match bOf d, fOf l with | some b, some m => some ((t, b) :: m) | _, _ => none
  | _ :: _ => none
theorem fOf_eq : ∀ {l : List D} {m : List (Int × List Int)}, fOf l = some m → l = m.map (fun x => .rc [.int .i64 x.1, .lst (x.2.map (fun n => .int .u8 n))]) ∧ ∀ b ∈ m, ∀ x ∈ b.2, 0 ≤ x ∧ x ≤ 255
  | [], m, h => by simp only [fOf, Option.some.injEq] at h; subst h; exact ⟨rfl, fun x hx => by cases hx⟩
  | d :: l, m, h => by
    unfold fOf at h
    split at h
    · cases ‹_ :: _ = []›
    · rename_i t dd l' e
      cases e
      split at h
      · rename_i b m' hb hm
        cases h
        obtain ⟨h1, h2⟩ := fOf_eq hm
        obtain ⟨h3, h4⟩ := bOf_eq hb
        refine ⟨by rw [h1, h3]; rfl, fun x hx => ?_⟩
        rcases List.mem_cons.1 hx with rfl | hx
        · exact h4
        · exact h2 x hx
      · cases h
    · cases h
def shortB {α : Type} (l : List (List α)) (n : Nat) : Bool := l.all fun x => Nat.ble x.length n
theorem shortB_le {α : Type} {l : List (List α)} {n : Nat} (h : shortB l n = true) : ∀ x ∈ l, x.length ≤ n := fun x hx => Nat.le_of_ble_eq_true (List.all_eq_true.1 h x hx)

end Go.Proofs.Ytindphofgojfbaa.Sy
