/-
  A part of a symbolic walk that is proved sound: what the functions of a program do with data. No conditions.
-/
import Derived.Test.YtindphofgojfbaaSyT
set_option linter.unusedSimpArgs false
set_option linter.unusedVariables false
namespace Go.Proofs.Ytindphofgojfbaa.Sy
open Go.RowKit
def Agree (n : Nat) (ρ ρ' : List D) : Prop := ∀ i, i < n → ρ'.getD i default = ρ.getD i default
theorem den_agree {n : Nat} {ρ ρ' : List D} (h : Agree n ρ ρ') {e : E} (he : e.bd n = true) : e.den ρ' = e.den ρ := by
  induction e with
  | v m => simp only [E.bd, decide_eq_true_eq] at he; exact h m he
  | ki _ _ | kb _ | ks _ | nil => rfl
  | _ => simp only [E.bd, Bool.and_eq_true] at he; simp_all [E.den]
theorem Agree.append (ρ xs : List D) : Agree ρ.length ρ (ρ ++ xs) := fun i hi => by
  simp [List.getD_eq_getElem?_getD, List.getElem?_append, hi]

section
variable {η : Env} {M : Mem} {ρ' : List D}
theorem AbsA.agree {n : Nat} {a : A} {v : Value} (h : AbsA η M a v) (hb : a.bd n = true) (hρ : Agree n η.ρ ρ') : AbsA { η with ρ := ρ' } M a v := by
  cases a with
  | any => trivial
  | d s e => simp only [AbsA] at *; rw [den_agree hρ hb]; exact h
  | k c => exact h
  | ptr j o => exact h
  | elem es x o => obtain ⟨b, q, h1, h2⟩ := h; exact ⟨b, q, h1, by simp only []; rw [den_agree hρ hb]; exact h2⟩
  | row j es k => obtain ⟨b, c, m, h1, h2, h3⟩ := h; exact ⟨b, c, m, h1, by simp only []; rw [den_agree hρ hb]; exact h2, h3⟩
  | nilS es => exact h
  | rptr j sz i o => obtain ⟨b, c, m, h1, h2, h3⟩ := h; exact ⟨b, c, m, h1, by simp only []; rw [den_agree hρ hb]; exact h2, h3⟩
  | fn f caps => exact h
  | ifc T es x => obtain ⟨u, h1, h2⟩ := h; exact ⟨u, h1, by simp only []; rw [den_agree hρ hb]; exact h2⟩
  | nilq l => obtain ⟨b, xs, h1, h2, h3⟩ := h; exact ⟨b, xs, h1, by simp only []; rw [den_agree hρ hb]; exact h2, h3⟩
  | arr es l => obtain ⟨b, q, xs, h1, h2, h3⟩ := h; exact ⟨b, q, xs, h1, by simp only []; rw [den_agree hρ hb]; exact h2, h3⟩
theorem AbsL.agree {n : Nat} {l : List A} {vs : List Value} (h : AbsL η M l vs) (hb : l.all (A.bd n) = true) (hρ : Agree n η.ρ ρ') : AbsL { η with ρ := ρ' } M l vs := by
  induction h with
  | nil => exact .nil
  | cons h1 h2 h3 ih => simp only [List.all_cons, Bool.and_eq_true] at hb; exact .cons (h1.agree hb.1 hρ) h2 (ih hb.2)
theorem AbsT.agree {n : Nat} {t : TV} {v : Value} (h : AbsT η M t v) (hb : t.bd n = true) (hρ : Agree n η.ρ ρ') : AbsT { η with ρ := ρ' } M t v := by
  cases t with
  | c a => cases a <;> first | trivial | exact ⟨AbsA.agree h.1 hb hρ, h.2⟩
  | g l => obtain ⟨vs, h1, h2⟩ := h; exact ⟨vs, h1, h2.agree hb hρ⟩
theorem AbsTs.agree {n : Nat} {l : List TV} {vs : List Value} (h : AbsTs η M l vs) (hb : l.all (TV.bd n) = true) (hρ : Agree n η.ρ ρ') : AbsTs { η with ρ := ρ' } M l vs := by
  induction h with
  | nil => exact .nil
  | cons h1 h3 ih => simp only [List.all_cons, Bool.and_eq_true] at hb; exact .cons (h1.agree hb.1 hρ) (ih hb.2)
theorem AbsV.agree {n : Nat} {t : AV} {v : Value} (h : AbsV η M t v) (hb : t.bd n = true) (hρ : Agree n η.ρ ρ') : AbsV { η with ρ := ρ' } M t v := by
  cases t with
  | v t => exact AbsT.agree h hb hρ
  | tup l => obtain ⟨vs, h1, h2⟩ := h; exact ⟨vs, h1, h2.agree hb hρ⟩
theorem BlkOK.agree {n : Nat} {n0 : Nat → Prop} {w : World} {j : Nat} {B : Blk} (h : BlkOK η M n0 w j B) (hb : B.bd n = true) (hρ : Agree n η.ρ ρ') : BlkOK { η with ρ := ρ' } M n0 w j B := by
  cases B with
  | none => exact h
  | dead => exact h
  | cells l =>
    obtain ⟨b, c, vs, T, h1, h0, h2, h3, h4, h5⟩ := h
    exact ⟨b, c, vs, T, h1, h0, h2, h3, h4.agree hb hρ, h5⟩
  | row es l fr =>
    obtain ⟨b, c, xs, h1, h4, h⟩ := h
    exact ⟨b, c, xs, h1, by simp only []; rw [den_agree hρ hb]; exact h4, h⟩
theorem WR.agree {Z : Base} {n : Nat} {blks : List Blk} {w : World} (h : WR Z η M blks w) (hb : blks.all (Blk.bd n) = true) (hρ : Agree n η.ρ ρ') : WR Z { η with ρ := ρ' } M blks w :=
  ⟨h.below, h.size, h.base, h.new, h.mem, h.one, fun j B hB => (h.blk j B hB).agree (List.all_eq_true.1 hb B (List.mem_of_getElem? hB)) hρ, h.inj, h.out, h.pal, h.glob⟩
theorem Rel.agree {Z : Base} {n : Nat} {σ : St} {tmps : Array Value} {w : World} (h : Rel Z η M σ tmps w) (hb : σ.bd n = true) (hρ : Agree n η.ρ ρ') : Rel Z { η with ρ := ρ' } M σ tmps w := by
  simp only [St.bd, Bool.and_eq_true] at hb
  refine ⟨h.wr.agree hb.1.2 hρ, h.sz, fun t A hA => (h.tmp t A hA).agree (List.all_eq_true.1 hb.1.1 A (List.mem_of_getElem? hA)) hρ, fun e b he => ?_, h.pj, h.gl⟩
  have := List.all_eq_true.1 hb.2 (e, b) he
  simp only []
  rw [den_agree hρ this]
  exact h.asm e b he
end

def AllSh : List Sh → (List D → Prop) → Prop
  | [], f => f []
  | .int k :: r, f => ∀ n : Int, k.min ≤ n → n ≤ k.max → AllSh r fun xs => f (.int k n :: xs)
  | .bool :: r, f => ∀ b : Bool, AllSh r fun xs => f (.bool b :: xs)
  | .str :: r, f => ∀ s : ByteArray, s.size ≤ maxLen → AllSh r fun xs => f (.str s :: xs)
  | .lst _ :: r, f => ∀ l : List D, l.length ≤ maxLen → AllSh r fun xs => f (.lst l :: xs)
def ExSh : List Sh → (List D → Prop) → Prop
  | [], f => f []
  | .int k :: r, f => ∃ n : Int, ExSh r fun xs => f (.int k n :: xs)
  | .bool :: r, f => ∃ b : Bool, ExSh r fun xs => f (.bool b :: xs)
  | .str :: r, f => ∃ s : ByteArray, ExSh r fun xs => f (.str s :: xs)
  | .lst _ :: r, f => ∃ l : List D, ExSh r fun xs => f (.lst l :: xs)
def HasSh : Sh → D → Prop
  | .int k, d => ∃ n, d = .int k n ∧ k.min ≤ n ∧ n ≤ k.max
  | .bool, d => ∃ b, d = .bool b
  | .str, d => ∃ s, d = .str s ∧ s.size ≤ maxLen
  | .lst _, d => ∃ l, d = .lst l ∧ l.length ≤ maxLen
inductive HasShs : List Sh → List D → Prop
  | nil : HasShs [] []
  | cons {s ss d ds} : HasSh s d → HasShs ss ds → HasShs (s :: ss) (d :: ds)
theorem AllSh.use : ∀ {shs : List Sh} {f : List D → Prop} {ds : List D}, AllSh shs f → HasShs shs ds → f ds
  | [], f, _, h, .nil => h
  | .int k :: r, f, _, h, .cons ⟨n, e, h1, h2⟩ hs => by subst e; exact AllSh.use (f := fun xs => f (.int k n :: xs)) (h n h1 h2) hs
  | .bool :: r, f, _, h, .cons ⟨n, e⟩ hs => by subst e; exact AllSh.use (f := fun xs => f (.bool n :: xs)) (h n) hs
  | .str :: r, f, _, h, .cons ⟨n, e, h1⟩ hs => by subst e; exact AllSh.use (f := fun xs => f (.str n :: xs)) (h n h1) hs
  | .lst _ :: r, f, _, h, .cons ⟨n, e, h1⟩ hs => by subst e; exact AllSh.use (f := fun xs => f (.lst n :: xs)) (h n h1) hs
theorem ExSh.get : ∀ {shs : List Sh} {f : List D → Prop}, ExSh shs f → ∃ ds, ds.length = shs.length ∧ f ds
  | [], f, h => ⟨[], rfl, h⟩
  | .int k :: r, f, ⟨n, h⟩ => by obtain ⟨ds, h1, h2⟩ := ExSh.get h; exact ⟨_, by simp [h1], h2⟩
  | .bool :: r, f, ⟨n, h⟩ => by obtain ⟨ds, h1, h2⟩ := ExSh.get h; exact ⟨_, by simp [h1], h2⟩
  | .str :: r, f, ⟨n, h⟩ => by obtain ⟨ds, h1, h2⟩ := ExSh.get h; exact ⟨_, by simp [h1], h2⟩
  | .lst _ :: r, f, ⟨n, h⟩ => by obtain ⟨ds, h1, h2⟩ := ExSh.get h; exact ⟨_, by simp [h1], h2⟩
theorem Rep.has {M : Mem} {s : Sh} {v : Value} {d : D} (h : Rep M s v d) : HasSh s d := by
  cases s with
  | int k => rw [Rep_int] at h; obtain ⟨n, _, h1, h2, h3⟩ := h; exact ⟨n, h1, h2, h3⟩
  | bool => rw [Rep_bool] at h; obtain ⟨n, _, h1⟩ := h; exact ⟨n, h1⟩
  | str => rw [Rep_str] at h; obtain ⟨n, _, h1, h2⟩ := h; exact ⟨n, h1, h2⟩
  | lst es => rw [Rep_lst] at h; obtain ⟨l, h1, h2, _⟩ := h; exact ⟨l, h1, h2⟩

def evsP (P : Program) (G : Globs) : List Ev → List D → (List D → Prop) → Prop
  | [], ρ, k => k ρ
  | .ob e :: l, ρ, k => (e.den ρ).toB = true ∧ evsP P G l ρ k
  | .call f ts as us _ :: l, ρ, k => ExSh ((us ++ outsT ts).flatMap TS.flat) fun xs => Fun P G f ts (as.map (·.den ρ)) us (.ok (datas (us ++ outsT ts) xs)) ∧ evsP P G l (ρ ++ xs) k

structure Lp where
  I : List D → Prop
  μ : List D → Nat
  m : Nat
def VC.den (P : Program) (G : Globs) (K : FR → Prop) : VC → List Lp → List D → Prop
  | .ret rs, _, ρ => K (.ok (rs.map (·.den ρ)))
  | .pan T e, _, ρ => K (.pan T (e.den ρ))
  | .ev l k, Λ, ρ => evsP P G l ρ fun ρ' => k.den P G K Λ ρ'
  | .cal f ts as us _ k, Λ, ρ => (ExSh ((us ++ outsT ts).flatMap TS.flat) fun xs => Fun P G f ts (as.map (·.den ρ)) us (.ok (datas (us ++ outsT ts) xs)) ∧ k.den P G K Λ (ρ ++ xs)) ∨
      ∃ T d, Fun P G f ts (as.map (·.den ρ)) us (.pan T d) ∧ K (.pan T d)
  | .ite e a b, Λ, ρ => ((e.den ρ).toB = true → a.den P G K Λ ρ) ∧ ((e.den ρ).toB = false → b.den P G K Λ ρ)
  | .loop shs init body, Λ, ρ => ∃ (I : List D → Prop) (μ : List D → Nat), I (init.map (·.den ρ)) ∧ AllSh shs fun xs => I xs → body.den P G K (Λ ++ [⟨I, μ, μ xs⟩]) (ρ ++ xs)
  | .back n xs, Λ, ρ => match Λ[n]? with
    | some L => L.I (xs.map (·.den ρ)) ∧ L.μ (xs.map (·.den ρ)) < L.m
    | none => False
  | .nilq e a b, Λ, ρ => ((e.den ρ).toL = [] → a.den P G K Λ ρ) ∧ b.den P G K Λ ρ
  | .bad _, _, _ => False
  | .probe _ _ _, _, _ => False
  | .join shs a b, Λ, ρ => ∃ (I : List D → Prop) (μ : List D → Nat) (m : Nat), a.den P G K (Λ ++ [⟨I, μ, m⟩]) ρ ∧ AllSh shs fun xs => I xs → b.den P G K (Λ ++ [⟨I, μ, μ xs⟩]) (ρ ++ xs)
  | .fin _, _, _ => False

theorem flatLen_eq (us : List TS) : flatLen us = (us.flatMap TS.flat).length := by
  unfold flatLen
  induction us with
  | nil => rfl
  | cons u us ih => simp only [List.map_cons, List.sum_cons, List.flatMap_cons, List.length_append, ih]
theorem datas_app : ∀ (us : List TS) (xs ys : List D), (us.flatMap TS.flat).length ≤ xs.length → datas us (xs ++ ys) = datas us xs
  | [], _, _, _ => rfl
  | u :: us, xs, ys, h => by
    simp only [List.flatMap_cons, List.length_append] at h
    simp only [datas]
    rw [List.take_append_of_le_length (by omega), List.drop_append_of_le_length (by omega), datas_app us _ _ (by rw [List.length_drop]; omega)]

theorem toB_true {d : D} (h : d.toB = true) : d = .bool true := by
  cases d <;> simp [D.toB] at h; subst h; rfl

theorem evs_sound {P : Program} {G : Globs} : ∀ (l : List Ev) {n n' : Nat} {ρ : List D} {k : List D → Prop}, seqB n l = some n' → ρ.length = n → evsP P G l ρ k → ∃ ρ', (∃ xs, ρ' = ρ ++ xs) ∧ ρ'.length = n' ∧ (∀ e ∈ l, ∀ ys, EvOK P G (ρ' ++ ys) e) ∧ k ρ'
  | [], n, n', ρ, k, hs, hn, h => by
    simp only [seqB, Option.some.injEq] at hs
    exact ⟨ρ, ⟨[], by simp⟩, by omega, (fun e he => by cases he), h⟩
  | .ob e :: l, n, n', ρ, k, hs, hn, h => by
    simp only [seqB] at hs
    split at hs
    · rename_i hb
      obtain ⟨ρ', ⟨xs, rfl⟩, h2, h3, h4⟩ := evs_sound l hs hn h.2
      refine ⟨_, ⟨xs, rfl⟩, h2, fun e' he => ?_, h4⟩
      rcases List.mem_cons.1 he with rfl | he
      · intro ys
        simp only [EvOK]
        rw [List.append_assoc, den_agree (Agree.append ρ (xs ++ ys)) (by rw [hn]; exact hb)]
        exact toB_true h.1
      · exact h3 e' he
    · cases hs
  | .call f ts as us m :: l, n, n', ρ, k, hs, hn, h => by
    simp only [seqB, Bool.and_eq_true, decide_eq_true_eq] at hs
    split at hs
    · rename_i hb
      obtain ⟨rfl, hb⟩ := hb
      obtain ⟨xs, hx, hf, hk⟩ := ExSh.get h
      obtain ⟨ρ', ⟨ys, rfl⟩, h2, h3, h4⟩ := evs_sound l hs (by simp [hx, hn, flatLen_eq]) hk
      refine ⟨_, ⟨xs ++ ys, by rw [List.append_assoc]⟩, h2, fun e' he => ?_, h4⟩
      rcases List.mem_cons.1 he with rfl | he
      · intro zs
        simp only [EvOK]
        have h1 : as.map (·.den (ρ ++ xs ++ ys ++ zs)) = as.map (·.den ρ) := by
          apply List.map_congr_left
          intro e he
          have hbe := List.all_eq_true.1 hb e he
          rw [List.append_assoc, List.append_assoc]
          exact den_agree (Agree.append ρ (xs ++ (ys ++ zs))) (by rw [hn]; exact hbe)
        have h2' : (ρ ++ xs ++ ys ++ zs).drop m = xs ++ (ys ++ zs) := by rw [List.append_assoc, List.append_assoc, ← hn, List.drop_left]
        rw [h1, h2', datas_app (us ++ outsT ts) xs _ (by omega)]
        exact hf
      · exact h3 e' he
    · cases hs


end Go.Proofs.Ytindphofgojfbaa.Sy
