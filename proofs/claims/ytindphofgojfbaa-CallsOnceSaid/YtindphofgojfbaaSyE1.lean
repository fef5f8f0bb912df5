/-
  A part of a symbolic walk that is proved sound: what the functions of a program do with data. No conditions.
-/
import Derived.Test.YtindphofgojfbaaSyO1
set_option linter.unusedSimpArgs false
set_option linter.unusedVariables false
namespace Go.Proofs.Ytindphofgojfbaa.Sy
open Go.RowKit
abbrev Phi := FuncId → List TS → List D → List TS → Option FR
def evalEvs (Φ : Phi) : List Ev → List D → Option (List D)
  | [], ρ => some ρ
  | .ob e :: l, ρ => if (e.den ρ).toB then evalEvs Φ l ρ else none
  | .call f ts as us _ :: l, ρ => match Φ f ts (as.map (·.den ρ)) us with
    | some (.ok rs) => let xs := flatD (us ++ outsT ts) rs
      if shB ((us ++ outsT ts).flatMap TS.flat) xs then evalEvs Φ l (ρ ++ xs) else none
    | _ => none
def VC.evalS (Φ : Phi) (jump : List (VC × List D) → Nat → List D → Option FR) : VC → List (VC × List D) → List D → Option FR
  | .ret rs, _, ρ => some (.ok (rs.map (·.den ρ)))
  | .pan T e, _, ρ => some (.pan T (e.den ρ))
  | .ev l k, Λ, ρ => match evalEvs Φ l ρ with | some ρ' => k.evalS Φ jump Λ ρ' | none => none
  | .cal f ts as us _ k, Λ, ρ => match Φ f ts (as.map (·.den ρ)) us with
    | some (.ok rs) => let xs := flatD (us ++ outsT ts) rs
      if shB ((us ++ outsT ts).flatMap TS.flat) xs then k.evalS Φ jump Λ (ρ ++ xs) else none
    | some (.pan T d) => some (.pan T d)
    | none => none
  | .ite e a b, Λ, ρ => match (e.den ρ).toB with | true => a.evalS Φ jump Λ ρ | false => b.evalS Φ jump Λ ρ
  | .loop _ init body, Λ, ρ => body.evalS Φ jump (Λ ++ [(body, ρ)]) (ρ ++ init.map (·.den ρ))
  | .back n xs, Λ, ρ => jump Λ n (xs.map (·.den ρ))
  | .nilq _ _ _, _, _ => none
  | .bad _, _, _ => none
  | .probe _ _ _, _, _ => none
  | .join _ a b, Λ, ρ => a.evalS Φ jump (Λ ++ [(b, ρ)]) ρ
  | .fin _, _, _ => none
def evalN (Φ : Phi) : Nat → List (VC × List D) → Nat → List D → Option FR
  | 0, _, _, _ => none
  | n + 1, Λ, k, xs => match Λ[k]? with
    | some (body, ρ) => body.evalS Φ (evalN Φ n) (Λ.take (k + 1)) (ρ ++ xs)
    | none => none

def okTs : List TS → List D → Bool
  | [], [] => true
  | t :: ts, d :: ds => (match t with | .c _ | .r _ | .i _ _ => true | _ => (match d with | .rc l => Nat.beq l.length t.flat.length | _ => false)) && okTs ts ds
  | _, _ => false
theorem datas_flat : ∀ {ts : List TS} {ds : List D}, okTs ts ds = true → (flatD ts ds).length = flatLen ts ∧ datas ts (flatD ts ds) = ds
  | [], [], _ => ⟨rfl, rfl⟩
  | t :: ts, d :: ds, h => by
    simp only [okTs, Bool.and_eq_true] at h
    obtain ⟨b1, b2⟩ := datas_flat h.2
    have h1 : (flatD [t] [d]).length = t.flat.length ∧ t.data (flatD [t] [d]) = d := by
      have h0 := h.1
      cases t with
      | c s => simp [flatD, TS.flat, TS.data]
      | r s => simp [flatD, TS.flat, TS.data]
      | i _ _ => simp [flatD, TS.flat, TS.data]
      | _ =>
        cases d <;> simp at h0
        simp [flatD, TS.data, h0]
    rw [flatD_cons]
    refine ⟨by simp only [List.length_append, h1.1, b1, flatLen, List.map_cons, List.sum_cons], ?_⟩
    simp only [datas]
    rw [← h1.1, List.take_left, List.drop_left, h1.2, b2]
  | [], _ :: _, h => by simp [okTs] at h
  | _ :: _, [], h => by simp [okTs] at h

def PhiOK (P : Program) (G : Globs) (Φ : Phi) : Prop := ∀ f ts ds us r, Φ f ts ds us = some r → Fun P G f ts ds us r ∧ ∀ rs, r = .ok rs → okTs (us ++ outsT ts) rs = true

theorem evalEvs_sound {P : Program} {G : Globs} {Φ : Phi} (hΦ : PhiOK P G Φ) : ∀ (l : List Ev) {ρ ρ' : List D} {k : List D → Prop}, evalEvs Φ l ρ = some ρ' → k ρ' → evsP P G l ρ k
  | [], ρ, ρ', k, h, hk => by simp only [evalEvs, Option.some.injEq] at h; subst h; exact hk
  | .ob e :: l, ρ, ρ', k, h, hk => by
    simp only [evalEvs] at h
    split at h
    · rename_i hb; exact ⟨hb, evalEvs_sound hΦ l h hk⟩
    · cases h
  | .call f ts as us n :: l, ρ, ρ', k, h, hk => by
    simp only [evalEvs] at h
    split at h
    · rename_i rs hr
      split at h
      · rename_i hs
        obtain ⟨h1, h2⟩ := hΦ _ _ _ _ _ hr
        exact evs_call _ hs h1 rfl (datas_flat (h2 rs rfl)).2 (evalEvs_sound hΦ l h hk)
      · cases h
    · cases h

theorem least_of {p : Nat → Prop} (h : ∃ n, p n) : ∃ n, p n ∧ ∀ m, p m → n ≤ m := by
  obtain ⟨n, hn⟩ := h
  induction n using Nat.strongRecOn with
  | ind n ih =>
    by_cases hm : ∃ m, m < n ∧ p m
    · obtain ⟨m, h1, h2⟩ := hm; exact ih m h1 h2
    · exact ⟨n, hn, fun m h => (Nat.lt_or_ge m n).elim (fun hl => absurd ⟨m, hl, h⟩ hm) id⟩
def Rounds (Φ : Phi) (r : FR) (Λ : List (VC × List D)) (k : Nat) (xs : List D) (n : Nat) : Prop :=
  ∃ body ρ, Λ[k]? = some (body, ρ) ∧ body.evalS Φ (evalN Φ n) (Λ.take (k + 1)) (ρ ++ xs) = some r
theorem evalS_sound {P : Program} {G : Globs} {Φ : Phi} (hΦ : PhiOK P G Φ) {r : FR} : ∀ (v : VC) (n : Nat) (Λ : List (VC × List D)) (L : List Lp) (ρ : List D), v.evalS Φ (evalN Φ n) Λ ρ = some r →
    L.length = Λ.length → (∀ (k : Nat) (l : Lp), L[k]? = some l → n ≤ l.m ∧ (∀ xs m, m ≤ n → Rounds Φ r Λ k xs m → l.I xs) ∧ ∀ xs m, Rounds Φ r Λ k xs m → l.μ xs ≤ m) → v.den P G (fun r' => r' = r) L ρ
  | .ret rs, n, Λ, L, ρ, h, _, _ => by simp only [VC.evalS, Option.some.injEq] at h; exact h
  | .pan T e, n, Λ, L, ρ, h, _, _ => by simp only [VC.evalS, Option.some.injEq] at h; exact h
  | .ev l k, n, Λ, L, ρ, h, hl, hL => by
    simp only [VC.evalS] at h
    split at h
    · rename_i ρ' he
      exact evalEvs_sound hΦ l he (evalS_sound hΦ k n Λ L ρ' h hl hL)
    · cases h
  | .cal f ts as us m k, n, Λ, L, ρ, h, hl, hL => by
    simp only [VC.evalS] at h
    split at h
    · rename_i rs hr
      split at h
      · rename_i hs
        obtain ⟨h1, h2⟩ := hΦ _ _ _ _ _ hr
        exact den_cal _ hs h1 rfl (datas_flat (h2 rs rfl)).2 (evalS_sound hΦ k n Λ L _ h hl hL)
      · cases h
    · rename_i T d hr
      simp only [Option.some.injEq] at h
      exact den_calP (hΦ _ _ _ _ _ hr).1 rfl h
    · cases h
  | .ite e a b, n, Λ, L, ρ, h, hl, hL => by
    simp only [VC.evalS] at h
    split at h
    · rename_i hb
      exact ⟨fun _ => evalS_sound hΦ a n Λ L ρ h hl hL, fun h' => by rw [hb] at h'; cases h'⟩
    · rename_i hb
      exact ⟨fun h' => by rw [hb] at h'; (cases h'), fun _ => evalS_sound hΦ b n Λ L ρ h hl hL⟩
  | .loop shs init body, n, Λ, L, ρ, h, hl, hL => by
    simp only [VC.evalS] at h
    have hget : (Λ ++ [(body, ρ)])[Λ.length]? = some (body, ρ) := by simp
    have htake : (Λ ++ [(body, ρ)]).take (Λ.length + 1) = Λ ++ [(body, ρ)] := by rw [List.take_of_length_le (by simp)]
    have hR : ∀ xs m, Rounds Φ r (Λ ++ [(body, ρ)]) Λ.length xs m ↔ body.evalS Φ (evalN Φ m) (Λ ++ [(body, ρ)]) (ρ ++ xs) = some r := by
      intro xs m
      constructor
      · rintro ⟨b, ρ', h1, h2⟩
        rw [hget] at h1
        cases h1
        rwa [htake] at h2
      · intro h2
        exact ⟨body, ρ, hget, by rw [htake]; exact h2⟩
    -- among those that come to r with n rounds at most
    refine ⟨fun xs => ∃ m, m ≤ n ∧ Rounds Φ r (Λ ++ [(body, ρ)]) Λ.length xs m, fun xs => Classical.epsilon fun n => Rounds Φ r (Λ ++ [(body, ρ)]) Λ.length xs n ∧ ∀ m, Rounds Φ r (Λ ++ [(body, ρ)]) Λ.length xs m → n ≤ m, ⟨n, Nat.le_refl _, (hR _ _).2 h⟩, ?_⟩
    have allsh : ∀ (shs : List Sh) (p q : List D → Prop), (∀ xs, p xs → q xs) → (∀ xs, p xs) → AllSh shs q := by
      intro shs
      induction shs with
      | nil => intro p q h1 h2; exact h1 _ (h2 _)
      | cons s shs ih =>
        intro p q h1 h2
        cases s with
        | int k => intro x _ _; exact ih (fun _ => True) _ (fun xs _ => h1 _ (h2 _)) fun _ => trivial
        | bool => intro x; exact ih (fun _ => True) _ (fun xs _ => h1 _ (h2 _)) fun _ => trivial
        | str => intro x _; exact ih (fun _ => True) _ (fun xs _ => h1 _ (h2 _)) fun _ => trivial
        | lst es => intro x _; exact ih (fun _ => True) _ (fun xs _ => h1 _ (h2 _)) fun _ => trivial
    refine allsh shs (fun _ => True) _ (fun xs _ => ?_) fun _ => trivial
    rintro ⟨m, hmn, hm⟩
    obtain ⟨s1, s2⟩ := Classical.epsilon_spec (least_of (p := Rounds Φ r (Λ ++ [(body, ρ)]) Λ.length xs) ⟨m, hm⟩)
    have hle := Nat.le_trans (s2 m hm) hmn
    refine evalS_sound hΦ body _ _ _ _ ((hR _ _).1 s1) (by simp [hl]) fun k l hk => ?_
    rw [List.getElem?_append] at hk
    split at hk
    · rename_i hkl
      obtain ⟨g1, g2, g3⟩ := hL k l hk
      have hRk : ∀ xs m, Rounds Φ r (Λ ++ [(body, ρ)]) k xs m → Rounds Φ r Λ k xs m := by
        rintro xs m ⟨b, ρ', h1, h2⟩
        rw [List.getElem?_append_left (by omega)] at h1
        rw [List.take_append_of_le_length (by omega)] at h2
        exact ⟨b, ρ', h1, h2⟩
      exact ⟨Nat.le_trans hle g1, fun xs m hm h => g2 xs m (Nat.le_trans hm hle) (hRk xs m h), fun xs m h => g3 xs m (hRk xs m h)⟩
    · rename_i hkl
      rcases Nat.lt_or_ge (k - L.length) 1 with h1 | h1
      · have hk0 : k - L.length = 0 := by omega
        rw [hk0] at hk
        simp at hk
        subst hk
        have hkk : k = Λ.length := by omega
        subst hkk
        exact ⟨Nat.le_refl _, fun ys m hm h => ⟨m, Nat.le_trans hm hle, h⟩, fun ys m h => (Classical.epsilon_spec (least_of (p := Rounds Φ r (Λ ++ [(body, ρ)]) Λ.length ys) ⟨m, h⟩)).2 m h⟩
      · rw [List.getElem?_eq_none (by simpa using h1)] at hk; cases hk
  | .join shs pre body, n, Λ, L, ρ, h, hl, hL => by
    simp only [VC.evalS] at h
    have hget : (Λ ++ [(body, ρ)])[Λ.length]? = some (body, ρ) := by simp
    have htake : (Λ ++ [(body, ρ)]).take (Λ.length + 1) = Λ ++ [(body, ρ)] := by rw [List.take_of_length_le (by simp)]
    have hR : ∀ xs m, Rounds Φ r (Λ ++ [(body, ρ)]) Λ.length xs m ↔ body.evalS Φ (evalN Φ m) (Λ ++ [(body, ρ)]) (ρ ++ xs) = some r := by
      intro xs m
      constructor
      · rintro ⟨b, ρ', h1, h2⟩
        rw [hget] at h1
        cases h1
        rwa [htake] at h2
      · intro h2
        exact ⟨body, ρ, hget, by rw [htake]; exact h2⟩
    -- among those that come to r with n rounds at most
    refine ⟨fun xs => ∃ m, m ≤ n ∧ Rounds Φ r (Λ ++ [(body, ρ)]) Λ.length xs m, fun xs => Classical.epsilon fun n => Rounds Φ r (Λ ++ [(body, ρ)]) Λ.length xs n ∧ ∀ m, Rounds Φ r (Λ ++ [(body, ρ)]) Λ.length xs m → n ≤ m, n, ?_, ?_⟩
    · refine evalS_sound hΦ pre _ _ _ _ h (by simp [hl]) fun k l hk => ?_
      rw [List.getElem?_append] at hk
      split at hk
      · rename_i hkl
        obtain ⟨g1, g2, g3⟩ := hL k l hk
        have hRk : ∀ xs m, Rounds Φ r (Λ ++ [(body, ρ)]) k xs m → Rounds Φ r Λ k xs m := by
          rintro xs m ⟨b, ρ', h1, h2⟩
          rw [List.getElem?_append_left (by omega)] at h1
          rw [List.take_append_of_le_length (by omega)] at h2
          exact ⟨b, ρ', h1, h2⟩
        exact ⟨g1, fun xs m hm h => g2 xs m hm (hRk xs m h), fun xs m h => g3 xs m (hRk xs m h)⟩
      · rename_i hkl
        rcases Nat.lt_or_ge (k - L.length) 1 with h1 | h1
        · have hk0 : k - L.length = 0 := by omega
          rw [hk0] at hk
          simp at hk
          subst hk
          have hkk : k = Λ.length := by omega
          subst hkk
          exact ⟨Nat.le_refl _, fun ys m hm h => ⟨m, hm, h⟩, fun ys m h => (Classical.epsilon_spec (least_of (p := Rounds Φ r (Λ ++ [(body, ρ)]) Λ.length ys) ⟨m, h⟩)).2 m h⟩
        · rw [List.getElem?_eq_none (by simpa using h1)] at hk; cases hk
    have allsh : ∀ (shs : List Sh) (p q : List D → Prop), (∀ xs, p xs → q xs) → (∀ xs, p xs) → AllSh shs q := by
      intro shs
      induction shs with
      | nil => intro p q h1 h2; exact h1 _ (h2 _)
      | cons s shs ih =>
        intro p q h1 h2
        cases s with
        | int k => intro x _ _; exact ih (fun _ => True) _ (fun xs _ => h1 _ (h2 _)) fun _ => trivial
        | bool => intro x; exact ih (fun _ => True) _ (fun xs _ => h1 _ (h2 _)) fun _ => trivial
        | str => intro x _; exact ih (fun _ => True) _ (fun xs _ => h1 _ (h2 _)) fun _ => trivial
        | lst es => intro x _; exact ih (fun _ => True) _ (fun xs _ => h1 _ (h2 _)) fun _ => trivial
    refine allsh shs (fun _ => True) _ (fun xs _ => ?_) fun _ => trivial
    rintro ⟨m, hmn, hm⟩
    obtain ⟨s1, s2⟩ := Classical.epsilon_spec (least_of (p := Rounds Φ r (Λ ++ [(body, ρ)]) Λ.length xs) ⟨m, hm⟩)
    have hle := Nat.le_trans (s2 m hm) hmn
    refine evalS_sound hΦ body _ _ _ _ ((hR _ _).1 s1) (by simp [hl]) fun k l hk => ?_
    rw [List.getElem?_append] at hk
    split at hk
    · rename_i hkl
      obtain ⟨g1, g2, g3⟩ := hL k l hk
      have hRk : ∀ xs m, Rounds Φ r (Λ ++ [(body, ρ)]) k xs m → Rounds Φ r Λ k xs m := by
        rintro xs m ⟨b, ρ', h1, h2⟩
        rw [List.getElem?_append_left (by omega)] at h1
        rw [List.take_append_of_le_length (by omega)] at h2
        exact ⟨b, ρ', h1, h2⟩
      exact ⟨Nat.le_trans hle g1, fun xs m hm h => g2 xs m (Nat.le_trans hm hle) (hRk xs m h), fun xs m h => g3 xs m (hRk xs m h)⟩
    · rename_i hkl
      rcases Nat.lt_or_ge (k - L.length) 1 with h1 | h1
      · have hk0 : k - L.length = 0 := by omega
        rw [hk0] at hk
        simp at hk
        subst hk
        have hkk : k = Λ.length := by omega
        subst hkk
        exact ⟨Nat.le_refl _, fun ys m hm h => ⟨m, Nat.le_trans hm hle, h⟩, fun ys m h => (Classical.epsilon_spec (least_of (p := Rounds Φ r (Λ ++ [(body, ρ)]) Λ.length ys) ⟨m, h⟩)).2 m h⟩
      · rw [List.getElem?_eq_none (by simpa using h1)] at hk; cases hk
  | .back j xs, n, Λ, L, ρ, h, hl, hL => by
    simp only [VC.evalS] at h
    cases n with
    | zero => simp [evalN] at h
    | succ n =>
      simp only [evalN] at h
      split at h
      · rename_i body ρ' hb
        have hlt : j < L.length := by rw [hl]; exact (List.getElem?_eq_some_iff.1 hb).1
        obtain ⟨g1, g2, g3⟩ := hL j L[j] (List.getElem?_eq_getElem hlt)
        have hr : Rounds Φ r Λ j (xs.map (·.den ρ)) n := ⟨body, ρ', hb, h⟩
        simp only [VC.den, List.getElem?_eq_getElem hlt]
        exact ⟨g2 _ n (by omega) hr, by have := g3 _ n hr; omega⟩
      · cases h
  | .nilq _ _ _, n, Λ, L, ρ, h, _, _ => by simp [VC.evalS] at h
  | .bad _, n, Λ, L, ρ, h, _, _ => by simp [VC.evalS] at h
  | .probe _ _ _, n, Λ, L, ρ, h, _, _ => by simp [VC.evalS] at h
  | .fin _, n, Λ, L, ρ, h, _, _ => by simp [VC.evalS] at h

structure Ent where
  f : FuncId
  ts : List TS
  us : List TS
  v : VC
def EntOK (P : Program) (G : Globs) (e : Ent) : Prop := ∀ ds r, e.v.den P G (fun r' => r' = r) [] (flatD e.ts ds) → Fun P G e.f e.ts ds e.us r
theorem ent_of_gen {P : Program} (hP : NoNum P) {f : FuncId} {fn : Func} {c : Code} (hf : P.funcs[f]? = some fn) (hb : fn.body = some c) {sg : Nat → Option (List TS × List TS)} {gl : Globs} {ts us : List TS} (hsz : ts.length ≤ fn.ntmps) {v : VC} (hv : genFn P sg gl f ts us = v) : EntOK P gl ⟨f, ts, us, v⟩ :=
  fun _ _ h => fun_of_gen hP hf hb hsz hv h
theorem ent_of_genH {P : Program} (hP : NoNum P) {f : FuncId} {fn : Func} {c : Code} (hf : P.funcs[f]? = some fn) (hb : fn.body = some c) {jn : List (Nat × List Nat)} {hd : List HdL} {sg : Nat → Option (List TS × List TS)} {gl : Globs} {ts us : List TS} (hsz : ts.length ≤ fn.ntmps) {v : VC} (hv : genFnH P jn hd sg gl f ts us = v) : EntOK P gl ⟨f, ts, us, v⟩ :=
  fun _ _ h => fun_of_genH hP hf hb hsz hv h

end Go.Proofs.Ytindphofgojfbaa.Sy
