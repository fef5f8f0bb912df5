/-
  A part of a symbolic walk that is proved sound: what the functions of a program do with data. No conditions.
-/
import Derived.Test.YtindphofgojfbaaSyP
set_option linter.unusedSimpArgs false
set_option linter.unusedVariables false
namespace Go.Proofs.Ytindphofgojfbaa.Sy
open Go.RowKit
section
variable {Z : Base} {η : Env} {M : Mem} {blks : List Blk} {w : World} {P : Program} {G : Globs}

theorem applyU_append (b : List Blk) (u v : List (Nat × Blk)) : applyU b (u ++ v) = applyU (applyU b u) v := by simp [applyU]
theorem applyU_cons (b : List Blk) (p : Nat × Blk) (u : List (Nat × Blk)) : applyU b (p :: u) = applyU (b.set p.1 p.2) u := rfl
theorem applyU_length : ∀ (u : List (Nat × Blk)) (b : List Blk), (applyU b u).length = b.length
  | [], _ => rfl
  | p :: u, b => by rw [applyU_cons, applyU_length u]; simp
theorem applyU_other : ∀ (u : List (Nat × Blk)) (b : List Blk) (j : Nat), (∀ p ∈ u, p.1 ≠ j) → (applyU b u)[j]? = b[j]?
  | [], _, _, _ => rfl
  | p :: u, b, j, h => by
    rw [applyU_cons, applyU_other u _ j fun q hq => h q (by simp [hq]), List.getElem?_set, if_neg (h p (by simp))]
theorem updFrom_idx : ∀ (bs : List Blk) (m : Nat), ∀ p ∈ updFrom m bs, m ≤ p.1 ∧ p.1 < m + bs.length
  | [], _, p, hp => by cases hp
  | b :: bs, m, p, hp => by
    rcases List.mem_cons.1 hp with rfl | hp
    · simp
    · have := updFrom_idx bs (m + 1) p hp
      simp; omega
theorem updFrom_append : ∀ (as bs : List Blk) (m : Nat), updFrom m (as ++ bs) = updFrom m as ++ updFrom (m + as.length) bs
  | [], bs, m => by simp [updFrom]
  | a :: as, bs, m => by
    simp only [List.cons_append, updFrom, List.length_cons]
    rw [updFrom_append as bs (m + 1)]
    congr 2; congr 1; omega
theorem set_applyU : ∀ (u : List (Nat × Blk)) (b : List Blk) (j : Nat) (B : Blk), (∀ p ∈ u, p.1 ≠ j) → (applyU (b.set j B) u) = (applyU b u).set j B
  | [], _, _, _, _ => rfl
  | p :: u, b, j, B, h => by
    rw [applyU_cons, applyU_cons, List.set_comm _ _ (fun e => h p (by simp) e.symm), set_applyU u _ j B fun q hq => h q (by simp [hq])]

theorem InjP.tail {p : Nat × Nat} {ps : List (Nat × Nat)} (h : InjP (p :: ps)) : InjP ps := fun i j p q hi hj hp hq e => by
  have := h (i + 1) (j + 1) p q (by simpa using hi) (by simpa using hj) hp hq e
  omega
theorem InjP.head {p : Nat × Nat} {ps : List (Nat × Nat)} (h : InjP (p :: ps)) {q : Nat × Nat} (hq : q ∈ ps) (hp0 : 0 < p.2) (hq0 : 0 < q.2) : p.1 ≠ q.1 := fun e => by
  obtain ⟨i, hi⟩ := List.mem_iff_getElem?.1 hq
  have := h 0 (i + 1) p q rfl (by simpa using hi) hp0 hq0 e
  omega
theorem InjP.right {ps qs : List (Nat × Nat)} (h : InjP (ps ++ qs)) : InjP qs := by
  induction ps with
  | nil => exact h
  | cons p ps ih => exact ih h.tail
theorem InjP.left {ps qs : List (Nat × Nat)} (h : InjP (ps ++ qs)) : InjP ps := fun i j p q hi hj hp hq e =>
  h i j p q (by rw [List.getElem?_append_left ((List.getElem?_eq_some_iff.1 hi).1)]; exact hi) (by rw [List.getElem?_append_left ((List.getElem?_eq_some_iff.1 hj).1)]; exact hj) hp hq e

def Fars (η : Env) (blks : List Blk) (ps : List (Nat × Nat)) : Prop := ∀ p ∈ ps, Far η blks p
theorem Far.step {nb : Nat} {p q : Nat × Nat} {B : Blk} {η' : Env} (h : Far η (blks.set nb .dead) q) (hoth : ∀ j, j ≠ nb → η'.al j = η.al j) (hp : η'.al nb = some p) (hne : 0 < p.2 → 0 < q.2 → p.1 ≠ q.1) : Far η' (blks.set nb B) q := by
  intro hq0 j C r hC hCd hr hr0
  by_cases e : j = nb
  · subst e
    rw [hp] at hr
    cases hr
    exact hne hr0 hq0
  · rw [hoth j e] at hr
    rw [List.getElem?_set, if_neg (fun e' => e e'.symm)] at hC
    exact h hq0 j C r (by rw [List.getElem?_set, if_neg (fun e' => e e'.symm)]; exact hC) hCd hr hr0
theorem Far.dead {nb : Nat} {q : Nat × Nat} (h : Far η blks q) : Far η (blks.set nb .dead) q := by
  intro hq0 j C r hC hCd hr hr0
  rw [List.getElem?_set] at hC
  split at hC
  · split at hC
    · cases hC; exact absurd rfl hCd
    · cases hC
  · exact h hq0 j C r hC hCd hr hr0

structure Took (Z : Base) (M : Mem) (w : World) (η : Env) (blks : List Blk) (η' : Env) (blks' : List Blk) (m k : Nat) (qs : List (Nat × Nat)) : Prop where
  le : η.le η'
  oth : ∀ j, (j < m ∨ m + k ≤ j) → η'.al j = η.al j
  wr : WR Z η' M blks' w
  fars : Fars η' blks' qs

theorem adoptCell (n m : Nat) {k : CK} {v : Value} {d : D} {ps qs : List (Nat × Nat)} (h : WR Z η M blks w) (hr : CellR M w k v d ps) (hd : η.ρ.getD n default = d)
    (hnb : ∀ i, i < (cellK n m k).2.length → blks[m + i]? = some .none) (hi : InjP (ps ++ qs)) (hf : Fars η blks (ps ++ qs)) (ho : ∀ p ∈ ps, 0 < p.2 → Z.own p.1) :
    ∃ η', Took Z M w η blks η' (applyU blks (updFrom m (cellK n m k).2)) m (cellK n m k).2.length qs ∧ AbsA η' M (cellK n m k).1 v ∧ One v := by
  cases k with
  | s s =>
    obtain ⟨h1, rfl⟩ := hr
    refine ⟨η, ⟨Env.le.refl _, fun _ _ => rfl, h, hf⟩, ?_, h1.one⟩
    simp only [cellK, AbsA, E.den]
    rw [hd]; exact h1
  | r es =>
    obtain ⟨xs, p, rfl, rfl, hrow⟩ := hr
    have hn0 := hnb 0 (by simp [cellK])
    simp only [Nat.add_zero] at hn0
    obtain ⟨h1, h2, h3⟩ := h.adoptRow (l := .v n) (n := .len (.v n)) hn0 hrow hd (by simp only [E.den, hd, D.len]) (ho p (by simp)) (hf p (by simp))
    refine ⟨η.set m p, ⟨Env.le_set (h.blk m _ hn0), fun j hj => Env.set_other _ _ (by simp [cellK] at hj; omega), h1, fun q hq => ?_⟩, h2, h3⟩
    exact (hf q (by simp [hq])).dead.step (fun j hj => Env.set_other _ _ hj) (Env.set_same _ _ _) fun hp0 hq0 => hi.head (by simpa using hq) hp0 hq0

theorem adoptCells : ∀ {ks : List CK} {vs : List Value} {ds : List D} {ps : List (Nat × Nat)} (n m : Nat) {qs : List (Nat × Nat)} {η : Env} {blks : List Blk}, WR Z η M blks w → CellsR M w ks vs ds ps → (∀ (i : Nat) (d : D), ds[i]? = some d → η.ρ.getD (n + i) default = d) →
    (∀ i, i < (cellsK n m ks).2.length → blks[m + i]? = some .none) → InjP (ps ++ qs) → Fars η blks (ps ++ qs) → (∀ p ∈ ps, 0 < p.2 → Z.own p.1) →
    ∃ η', Took Z M w η blks η' (applyU blks (updFrom m (cellsK n m ks).2)) m (cellsK n m ks).2.length qs ∧ AbsL η' M (cellsK n m ks).1 vs
  | _, _, _, _, n, m, qs, η, blks, h, .nil, _, _, _, hf, _ => ⟨η, ⟨Env.le.refl _, fun _ _ => rfl, h, hf⟩, .nil⟩
  | _, _, _, _, n, m, qs, η, blks, h, @CellsR.cons _ _ k ks v vs d ds ps1 ps2 h1 h2, hd, hnb, hi, hf, ho => by
    simp only [cellsK, List.length_append] at hnb
    rw [List.append_assoc] at hi hf
    obtain ⟨η1, t1, a1, o1⟩ := adoptCell n m (qs := ps2 ++ qs) h h1 (hd 0 d rfl) (fun i hi => hnb i (by omega)) hi hf (fun p hp => ho p (by simp [hp]))
    obtain ⟨η2, t2, a2⟩ := adoptCells (n + 1) (m + (cellK n m k).2.length) (qs := qs) t1.wr h2 (fun i d hi => by
        rw [t1.le.ρ]
        have := hd (i + 1) d (by simpa using hi)
        rw [← this]; congr 1; omega) (fun i hi => by
        rw [applyU_other _ _ _ (fun p hp => by have := updFrom_idx _ _ p hp; omega)]
        have := hnb ((cellK n m k).2.length + i) (by omega)
        rw [← this]; congr 1; omega) hi.right t1.fars (fun p hp => ho p (by simp [hp]))
    have heq : applyU blks (updFrom m (cellsK n m (k :: ks)).2) = applyU (applyU blks (updFrom m (cellK n m k).2)) (updFrom (m + (cellK n m k).2.length) (cellsK (n + 1) (m + (cellK n m k).2.length) ks).2) := by
      simp only [cellsK]
      rw [updFrom_append, applyU_append]
    refine ⟨η2, ⟨t1.le.trans t2.le, fun j hj => ?_, by rw [heq]; exact t2.wr, by rw [heq]; exact t2.fars⟩, .cons (a1.mono t2.le (Mem.le.refl _)) o1 a2⟩
    simp only [cellsK, List.length_append] at hj
    rw [t2.oth j (by omega), t1.oth j (by omega)]

theorem rc_get {ds : List D} {n k : Nat} {ρ : List D} (h : ds = (ρ.drop n).take k) : ∀ (i : Nat) (d : D), ds[i]? = some d → ρ.getD (n + i) default = d := by
  intro i d hi
  subst h
  rw [List.getElem?_take] at hi
  split at hi
  · rw [List.getElem?_drop] at hi
    simp [List.getD_eq_getElem?_getD, hi]
  · cases hi
theorem head_get {n : Nat} {ρ : List D} {d : D} (h : ((ρ.drop n).take 1).getD 0 default = d) : ρ.getD n default = d := by
  rw [← h]
  simp [List.getD_eq_getElem?_getD, List.getElem?_take, List.getElem?_drop]

theorem CellR.one {k : CK} {v : Value} {d : D} {ps : List (Nat × Nat)} (h : CellR M w k v d ps) : One v := by
  cases k with
  | s s => exact h.1.one
  | r es =>
    obtain ⟨xs, p, _, _, _, _, h3, _⟩ := h
    rcases h3 with ⟨_, rfl⟩ | ⟨_, a, rfl⟩ <;> rfl
theorem CellsR.one {ks : List CK} {vs : List Value} {ds : List D} {ps : List (Nat × Nat)} (h : CellsR M w ks vs ds ps) : ∀ v ∈ vs, One v := by
  induction h with
  | nil => simp
  | cons h1 _ ih =>
    intro v hv
    rcases List.mem_cons.1 hv with rfl | hv
    · exact h1.one
    · exact ih v hv
theorem abs_any : ∀ (vs : List Value), (∀ v ∈ vs, One v) → AbsL η M (vs.map fun _ => A.any) vs
  | [], _ => .nil
  | v :: vs, h => .cons trivial (h v (by simp)) (abs_any vs fun u hu => h u (by simp [hu]))
theorem WR.recell (h : WR Z η M blks w) {j b c : Nat} {l l' : List A} {vs : List Value} {T : TypeId} (hj : blks[j]? = some (.cells l)) (hal : η.al j = some (b, c)) (hb : w.heap[b]? = some (.cells vs.toArray T (0, 0))) (hl : AbsL η M l' vs) : WR Z η M (blks.set j (.cells l')) w := by
  have hk := h.blk j _ hj
  obtain ⟨b', c', vs', T', h1, h2, h3, h4, h5, h6⟩ := hk
  rw [hal] at h1
  cases h1
  rw [hb] at h4
  simp only [Option.some.injEq, Obj.cells.injEq] at h4
  refine h.place (Env.le.refl _) (List.getElem?_eq_some_iff.1 hj).1 (fun _ _ => rfl) hal (fun hp0 i C q hC hCd hq hq0 e => ?_) ⟨b, c, vs, T, hal, h2, h3, hb, hl, h6⟩
  rw [List.getElem?_set] at hC
  split at hC
  · split at hC
    · cases hC; exact hCd rfl
    · cases hC
  · rename_i hne
    exact hne (h.inj i j C _ q (b, c) hC hj hCd (by simp) hq hal hq0 hp0 e).symm
theorem adoptPtr (n m j : Nat) {η0 : Env} {l : List CK} {vs : List Value} {ds : List D} {ps qs : List (Nat × Nat)} {b : Nat} {T : TypeId} (h : WR Z η M blks w) (he : η.le η0) (hoth : ∀ i, i ≠ j → η0.al i = η.al i) (hj : η0.al j = some (b, 1)) (hjl : j < blks.length)
    (hb : w.heap[b]? = some (.cells vs.toArray T (0, 0))) (hMb : ∀ o, M b o = none) (hc : CellsR M w l vs ds ps) (hd : ∀ (i : Nat) (d : D), ds[i]? = some d → η.ρ.getD (n + i) default = d)
    (hnb : ∀ i, i < (cellsK n m l).2.length → blks[m + i]? = some .none) (hjm : ∀ i, i < (cellsK n m l).2.length → m + i ≠ j) (hi : InjP ((b, 1) :: (ps ++ qs))) (hf : Fars η (blks.set j .dead) ((b, 1) :: (ps ++ qs))) (ho : ∀ p ∈ (b, 1) :: ps, 0 < p.2 → Z.own p.1) :
    ∃ η', η0.le η' ∧ (∀ i, i < m ∨ m + (cellsK n m l).2.length ≤ i → η'.al i = η0.al i) ∧ WR Z η' M ((applyU blks (updFrom m (cellsK n m l).2)).set j (.cells (cellsK n m l).1)) w ∧
      Fars η' ((applyU blks (updFrom m (cellsK n m l).2)).set j (.cells (cellsK n m l).1)) qs := by
  have h0 : WR Z η0 M (blks.set j (.cells (vs.map fun _ => A.any))) w :=
    h.place he hjl hoth hj (hf (b, 1) (by simp)) ⟨b, 1, vs, T, hj, by omega, ho (b, 1) (by simp) (by simp), hb, abs_any vs hc.one, hMb⟩
  obtain ⟨η1, t1, a1⟩ := adoptCells n m (qs := qs) h0 hc (fun i d hi' => by rw [he.ρ]; exact hd i d hi') (fun i hi' => by
      rw [List.getElem?_set, if_neg (fun e => hjm i hi' e.symm)]; exact hnb i hi') hi.tail
    (fun p hp => (hf p (by simp at hp ⊢; exact .inr hp)).step hoth hj fun _ hq0 => hi.head hp (by simp) hq0) (fun p hp => ho p (by simp [hp]))
  have hidx : ∀ p ∈ updFrom m (cellsK n m l).2, p.1 ≠ j := fun p hp e => by
    have := updFrom_idx _ _ p hp
    exact hjm (p.1 - m) (by omega) (by omega)
  have hset : applyU (blks.set j (.cells (vs.map fun _ => A.any))) (updFrom m (cellsK n m l).2) = (applyU blks (updFrom m (cellsK n m l).2)).set j (.cells (vs.map fun _ => A.any)) := set_applyU _ _ _ _ hidx
  have hjl' : j < (applyU blks (updFrom m (cellsK n m l).2)).length := by rw [applyU_length]; exact hjl
  have hjm' : j < m ∨ m + (cellsK n m l).2.length ≤ j := by
    rcases Nat.lt_or_ge j m with h1 | h1
    · exact .inl h1
    · rcases Nat.lt_or_ge j (m + (cellsK n m l).2.length) with h2 | h2
      · exact absurd (show m + (j - m) = j by omega) (hjm (j - m) (by omega))
      · exact .inr h2
  have hal1 : η1.al j = some (b, 1) := by rw [t1.oth j hjm']; exact hj
  refine ⟨η1, t1.le, t1.oth, ?_, fun q hq => ?_⟩
  · have hw := t1.wr
    rw [hset] at hw
    have := hw.recell (j := j) (l := vs.map fun _ => A.any) (by simp [hjl']) hal1 hb a1
    rwa [List.set_set] at this
  · have hq' := t1.fars q hq
    rw [hset] at hq'
    have := Far.step (η' := η1) (B := .cells (cellsK n m l).1) (Far.dead (nb := j) hq') (fun _ _ => rfl) hal1 (fun _ hq0 => hi.head (by simp [hq]) (by simp) hq0)
    rwa [List.set_set] at this

theorem adoptT (n m : Nat) {t : TS} {v : Value} {d : D} {ps qs : List (Nat × Nat)} (h : WR Z η M blks w) (hI : t.noI = true) (hr : ArgR M w t v d ps) (hd : t.data ((η.ρ.drop n).take t.flat.length) = d)
    (hnb : ∀ i, i < (varsT n m t).2.length → blks[m + i]? = some .none) (hi : InjP (ps ++ qs)) (hf : Fars η blks (ps ++ qs)) (ho : ∀ p ∈ ps, 0 < p.2 → Z.own p.1) :
    ∃ η', Took Z M w η blks η' (applyU blks (updFrom m (varsT n m t).2)) m (varsT n m t).2.length qs ∧ AbsT η' M (varsT n m t).1 v ∧
      ∀ l, t = .p l → ∃ b, v = .pointer (some ⟨b, 0, none⟩) ∧ η'.al m = some (b, 1) := by
  cases t with
  | c s =>
    obtain ⟨h1, rfl⟩ := hr
    refine ⟨η, ⟨Env.le.refl _, fun _ _ => rfl, h, hf⟩, AbsT_mk ?_ h1.one, fun l e => by cases e⟩
    simp only [AbsA, E.den]
    rw [head_get (show ((η.ρ.drop n).take 1).getD 0 default = d from hd)]; exact h1
  | g l =>
    obtain ⟨h1, rfl⟩ := hr
    refine ⟨η, ⟨Env.le.refl _, fun _ _ => rfl, h, hf⟩, ?_, fun l e => by cases e⟩
    obtain ⟨vs, ds, rfl, rfl, hl, hr⟩ := h1
    simp only [TS.data, TS.flat, D.rc.injEq] at hd
    subst hd
    exact ⟨vs, rfl, varsA_abs l n vs hl hr⟩
  | r es =>
    obtain ⟨η', t1, a1, o1⟩ := adoptCell n m (k := .r es) h hr (head_get (show ((η.ρ.drop n).take 1).getD 0 default = d from hd)) hnb hi hf ho
    exact ⟨η', t1, AbsT_mk a1 o1, fun l e => by cases e⟩
  | h l =>
    obtain ⟨vs, ds, rfl, rfl, hc⟩ := hr
    simp only [TS.data, D.rc.injEq] at hd
    obtain ⟨η', t1, a1⟩ := adoptCells n m h hc (rc_get hd.symm) hnb hi hf ho
    exact ⟨η', t1, ⟨vs, rfl, a1⟩, fun l e => by cases e⟩
  | i _ _ => cases hI
  | p l =>
    obtain ⟨b, vs, T, ds, ps', rfl, hb, hMb, rfl, hc, rfl⟩ := hr
    simp only [TS.data, D.rc.injEq] at hd
    simp only [varsT, List.length_cons] at hnb ⊢
    have hm := hnb 0 (by omega)
    simp only [Nat.add_zero] at hm
    have hlt : m < blks.length := (List.getElem?_eq_some_iff.1 hm).1
    have hal : η.al m = none := h.blk m _ hm
    obtain ⟨η', t1, t2, t3, t4⟩ := adoptPtr n (m + 1) m (qs := qs) h (Env.le_set hal) (fun i hi => Env.set_other _ _ hi) (Env.set_same _ _ (b, 1)) hlt hb hMb hc (rc_get hd.symm) (fun i hi => by
      have := hnb (i + 1) (by omega)
      rw [← this]; congr 1; omega) (fun i _ => by omega) (by simpa using hi) (fun p hp => (hf p (by simpa using hp)).dead) ho
    have hidx : ∀ p ∈ updFrom (m + 1) (cellsK n (m + 1) l).2, p.1 ≠ m := fun p hp => by have := updFrom_idx _ _ p hp; omega
    have heq : applyU blks (updFrom m (.cells (cellsK n (m + 1) l).1 :: (cellsK n (m + 1) l).2)) = (applyU blks (updFrom (m + 1) (cellsK n (m + 1) l).2)).set m (.cells (cellsK n (m + 1) l).1) := by
      simp only [updFrom, applyU_cons]
      exact set_applyU _ _ _ _ hidx
    have hm1 : η'.al m = some (b, 1) := by rw [t2 m (by omega)]; exact Env.set_same _ _ _
    refine ⟨η', ⟨(Env.le_set hal).trans t1, fun j hj => ?_, by rw [heq]; exact t3, by rw [heq]; exact t4⟩, AbsT_mk ⟨b, 1, hm1, rfl⟩ rfl, fun _ _ => ⟨b, rfl, hm1⟩⟩
    rw [t2 j (by omega), Env.set_other _ _ (by omega)]

def pjOf (n m : Nat) : List TS → List Nat
  | [] => []
  | .p l :: ts => m :: pjOf (n + (TS.p l).flat.length) (m + (varsT n m (.p l)).2.length) ts
  | t :: ts => pjOf (n + t.flat.length) (m + (varsT n m t).2.length) ts
theorem pjOf_other {n m : Nat} {t : TS} {ts : List TS} (h : t.isP = false) : pjOf n m (t :: ts) = pjOf (n + t.flat.length) (m + (varsT n m t).2.length) ts := by
  cases t <;> first | rfl | cases h
theorem outVals_other {t : TS} {ts : List TS} {v : Value} {vs : List Value} (h : t.isP = false) : outVals (t :: ts) (v :: vs) = outVals ts vs := by
  cases t <;> first | rfl | cases h
theorem outsT_other {t : TS} {ts : List TS} (h : t.isP = false) : outsT (t :: ts) = outsT ts := by
  cases t <;> first | rfl | cases h
def PtrAt (η : Env) (j : Nat) (v : Value) : Prop := ∃ b, v = .pointer (some ⟨b, 0, none⟩) ∧ η.al j = some (b, 1)
inductive PtrsAt (η : Env) : List Nat → List Value → Prop
  | nil : PtrsAt η [] []
  | cons {j js v vs} : PtrAt η j v → PtrsAt η js vs → PtrsAt η (j :: js) (v :: vs)
theorem adoptTs : ∀ {ts : List TS} {vs : List Value} {ds : List D} {ps : List (Nat × Nat)} (n m : Nat) {qs : List (Nat × Nat)} {η : Env} {blks : List Blk}, WR Z η M blks w → ArgsR M w ts vs ds ps → ts.all TS.noI = true → datas ts (η.ρ.drop n) = ds →
    (∀ i, i < (varsTs n m ts).2.length → blks[m + i]? = some .none) → InjP (ps ++ qs) → Fars η blks (ps ++ qs) → (∀ p ∈ ps, 0 < p.2 → Z.own p.1) →
    ∃ η', Took Z M w η blks η' (applyU blks (updFrom m (varsTs n m ts).2)) m (varsTs n m ts).2.length qs ∧ AbsTs η' M (varsTs n m ts).1 vs ∧ PtrsAt η' (pjOf n m ts) (outVals ts vs)
  | _, _, _, _, n, m, qs, η, blks, h, .nil, _, _, _, _, hf, _ => ⟨η, ⟨Env.le.refl _, fun _ _ => rfl, h, hf⟩, .nil, .nil⟩
  | _, _, _, _, n, m, qs, η, blks, h, @ArgsR.cons _ _ t ts v vs d ds ps1 ps2 h1 h2, hI, hd, hnb, hi, hf, ho => by
    rw [List.all_cons, Bool.and_eq_true] at hI
    simp only [varsTs, List.length_append] at hnb
    simp only [datas, List.cons.injEq] at hd
    rw [List.append_assoc] at hi hf
    obtain ⟨η1, t1, a1, p1⟩ := adoptT n m (qs := ps2 ++ qs) h hI.1 h1 hd.1 (fun i hi => hnb i (by omega)) hi hf (fun p hp => ho p (by simp [hp]))
    obtain ⟨η2, t2, a2, p2⟩ := adoptTs (n + t.flat.length) (m + (varsT n m t).2.length) (qs := qs) t1.wr h2 hI.2 (by rw [t1.le.ρ, ← hd.2, List.drop_drop]) (fun i hi => by
        rw [applyU_other _ _ _ (fun p hp => by have := updFrom_idx _ _ p hp; omega)]
        have := hnb ((varsT n m t).2.length + i) (by omega)
        rw [← this]; congr 1; omega) hi.right t1.fars (fun p hp => ho p (by simp [hp]))
    have heq : applyU blks (updFrom m (varsTs n m (t :: ts)).2) = applyU (applyU blks (updFrom m (varsT n m t).2)) (updFrom (m + (varsT n m t).2.length) (varsTs (n + t.flat.length) (m + (varsT n m t).2.length) ts).2) := by
      simp only [varsTs]
      rw [updFrom_append, applyU_append]
    refine ⟨η2, ⟨t1.le.trans t2.le, fun j hj => ?_, by rw [heq]; exact t2.wr, by rw [heq]; exact t2.fars⟩, .cons (a1.mono t2.le (Mem.le.refl _)) a2, ?_⟩
    · simp only [varsTs, List.length_append] at hj
      rw [t2.oth j (by omega), t1.oth j (by omega)]
    · cases hp : t.isP with
      | false => rw [pjOf_other hp, outVals_other hp]; exact p2
      | true =>
        cases t with
        | i _ _ => cases hI.1
        | p l =>
          obtain ⟨b, hv, hal⟩ := p1 l rfl
          exact .cons ⟨b, hv, t2.le.al _ _ hal⟩ p2
        | _ => simp [TS.isP] at hp
theorem adoptOuts : ∀ {ptrs : List (List CK × Nat)} {vs : List Value} {ds : List D} {ps : List (Nat × Nat)} (n m : Nat) {η : Env} {blks : List Blk}, WR Z η M blks w → ArgsR M w (ptrs.map fun p => .p p.1) vs ds ps → PtrsAt η (ptrs.map (·.2)) vs → datas (ptrs.map fun p => .p p.1) (η.ρ.drop n) = ds →
    (∀ i, i < outsN n m ptrs → blks[m + i]? = some .none) → (∀ p ∈ ptrs, blks[p.2]? = some .dead) → (ptrs.map (·.2)).Nodup → InjP ps → Fars η blks ps → (∀ p ∈ ps, 0 < p.2 → Z.own p.1) →
    ∃ η', η.le η' ∧ WR Z η' M (applyU blks (outsU n m ptrs)) w
  | [], _, _, _, n, m, η, blks, h, .nil, _, _, _, _, _, _, _, _ => ⟨η, Env.le.refl _, h⟩
  | (l, j) :: ptrs, _, _, _, n, m, η, blks, h, @ArgsR.cons _ _ _ _ v vs d ds ps1 ps2 h1 h2, .cons ⟨b0, hv, hal⟩ hpt, hd, hnb, hdead, hnd, hi, hf, ho => by
    simp only [outsN] at hnb
    simp only [List.map_cons, datas, List.cons.injEq] at hd
    obtain ⟨b, us, T, ds1, ps', rfl, hb, hMb, rfl, hc, rfl⟩ := h1
    simp only [Value.pointer.injEq, Option.some.injEq, Addr.mk.injEq, and_true] at hv
    subst hv
    have hd1 := hd.1
    simp only [TS.data, D.rc.injEq] at hd1
    have hjd := hdead (l, j) (by simp)
    simp only [] at hjd
    have hapart : ∀ i, i < (cellsK n m l).2.length + outsN (n + l.length) (m + (cellsK n m l).2.length) ptrs → ∀ p ∈ (l, j) :: ptrs, m + i ≠ p.2 := fun i hi p hp e => by
      have h1 := hnb i hi
      have h2 := hdead p hp
      rw [e, h2] at h1
      cases h1
    have hjlt : j < blks.length := (List.getElem?_eq_some_iff.1 hjd).1
    have hjs : blks.set j .dead = blks := set_same hjd
    have hlen : (TS.p l).flat.length = l.length := by simp [TS.flat]
    obtain ⟨η1, t1, t2, t3, t4⟩ := adoptPtr n m j (l := l) (qs := ps2) h (Env.le.refl _) (fun _ _ => rfl) hal hjlt hb hMb hc (rc_get hd1.symm) (fun i hi => hnb i (by omega)) (fun i hi => hapart i (by omega) (l, j) (by simp)) (by simpa using hi) (by rw [hjs]; simpa using hf) (fun p hp => ho p (by simp at hp ⊢; rcases hp with hp | hp <;> simp [hp]))
    obtain ⟨η2, e2, w2⟩ := adoptOuts (n + l.length) (m + (cellsK n m l).2.length) t3 h2 (by
        have key : ∀ {js : List Nat} {vs : List Value}, PtrsAt η js vs → PtrsAt η1 js vs := by
          intro js vs hp
          induction hp with
          | nil => exact .nil
          | cons h1 _ ih => obtain ⟨b, e1, e2⟩ := h1; exact .cons ⟨b, e1, t1.al _ _ e2⟩ ih
        exact key hpt) (by rw [t1.ρ, ← hd.2, List.drop_drop, hlen]) (fun i hi => by
        have hne : j ≠ m + (cellsK n m l).2.length + i := fun e => hapart ((cellsK n m l).2.length + i) (by omega) (l, j) (by simp) (by simp only []; omega)
        rw [List.getElem?_set, if_neg hne, applyU_other _ _ _ (fun p hp => by have := updFrom_idx _ _ p hp; omega)]
        have := hnb ((cellsK n m l).2.length + i) (by omega)
        rw [← this]; congr 1; omega) (fun p hp => by
        have q1 := hdead p (by simp [hp])
        simp only [List.map_cons, List.nodup_cons] at hnd
        have hne : j ≠ p.2 := fun e => hnd.1 (List.mem_map.2 ⟨p, hp, e.symm⟩)
        rw [List.getElem?_set, if_neg hne, applyU_other _ _ _ (fun q hq e => by
          have h3 := updFrom_idx _ _ q hq
          have h4 : q.1 < m + (cellsK n m l).2.length := h3.2
          exact hapart (q.1 - m) (by omega) p (by simp [hp]) (by omega))]
        exact q1) (by simp only [List.map_cons, List.nodup_cons] at hnd; exact hnd.2) hi.right t4 (fun p hp => ho p (by simp [hp]))
    refine ⟨η2, t1.trans e2, ?_⟩
    simp only [outsU]
    rw [applyU_append, applyU_cons]
    exact w2
end

end Go.Proofs.Ytindphofgojfbaa.Sy
