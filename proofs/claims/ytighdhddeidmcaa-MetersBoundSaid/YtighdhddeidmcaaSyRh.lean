/-
  A part of a symbolic walk that is proved sound: what the functions of a program do with data. No conditions.
-/
import Derived.Test.YtighdhddeidmcaaSyRf
set_option linter.unusedSimpArgs false
set_option linter.unusedVariables false
namespace Go.Proofs.Ytighdhddeidmcaa.Sy
open Go.RowKit

/-! A round of a loop over an iterator that hands out two pairs of integers. -/
def keepA (pj : List Nat) (n : Nat) : A → Bool
  | .any => true
  | .ptr j _ => memN j pj
  | .d _ e => e.bd n
  | _ => false
def keepAV (pj : List Nat) (n : Nat) : AV → Bool
  | .v (.c a) => keepA pj n a
  | _ => false
theorem keepAV_sound {pj : List Nat} {n : Nat} {η η' : Env} {M M' : Mem} (hp : ∀ j, memN j pj = true → ∀ p, η.al j = some p → η'.al j = some p) (hA : Agree n η.ρ η'.ρ) (hM : M.le M') {A : AV} {v : Value} (hk : keepAV pj n A = true) (h : AbsV η M A v) : AbsV η' M' A v := by
  match A, hk with
  | .v (.c .any), _ => exact trivial
  | .v (.c (.ptr j o)), hk =>
    obtain ⟨⟨b, c, h1, h2⟩, h3⟩ := h
    exact ⟨⟨b, c, hp j hk _ h1, h2⟩, h3⟩
  | .v (.c (.d s e)), hk =>
    obtain ⟨h1, h2⟩ := h
    refine ⟨?_, h2⟩
    show Rep M' s v (e.den η'.ρ)
    rw [den_agree hA hk]
    exact Rep.mono hM _ _ _ h1
def resetS (h σ : St) : St := { σ with tmps := h.tmps }
def endR (h : St) (base : Nat) (s : Sh) (σ : St) : VC :=
  match matSt base h (frzFor h (resetS h σ)) with
  | some xs => if Sh.sames (xs.map (·.1)) [s] then .back 0 (xs.map (·.2)) else .bad 900061
  | none => .bad 900062
def bodR (P : Program) (h : St) (base : Nat) (s : Sh) (bod : Code) (σ : St) : VC := gen P [] bod σ { normal := endR h base s, exits := [], ret := fun _ => .bad 900060 }
def midR (P : Program) (h : St) (base : Nat) (s : Sh) (bod : Code) (σ : St) : VC :=
  match matSt base h (resetS h σ) with
  | some [(s', e)] => if Sh.same s' s && E.same e (.v base) then bodR P h base s bod σ else .bad 900063
  | _ => .bad 900064
def pairA (n : Nat) : AV := .v (.g [.d (.int .i64) (.v n), .d (.int .i64) (.v (n + 1))])
def inR (h : St) (p1 p2 : Nat) : St := { h with tmps := (h.tmps.set p1 (pairA h.nv)).set p2 (pairA (h.nv + 2)), nv := h.nv + 4 }
def genR (P : Program) (h : St) (base : Nat) (s : Sh) (p1 p2 : Nat) (asg bod : Code) : VC := gen P [] asg (inR h p1 p2) { normal := midR P h base s bod, exits := [], ret := fun _ => .bad 900060 }
def headR (h : St) (base tb : Nat) (s : Sh) (p1 p2 : Nat) : Bool :=
  h.asm.isEmpty && Nat.beq h.nv (base + 1) && Nat.beq h.dep 1 && h.bd h.nv && h.tmps.all (keepAV h.pj base) && detB s && (match boxSh h tb base with | some s' => Sh.same s' s | none => false) && Nat.blt p1 h.tmps.length && Nat.blt p2 h.tmps.length
abbrev El := (Int × Int) × (Int × Int)
def pairV (p : Int × Int) : Value := .agg #[.int .i64 p.1, .int .i64 p.2]
def elD (e : El) : List D := [.int .i64 e.1.1, .int .i64 e.1.2, .int .i64 e.2.1, .int .i64 e.2.2]
def in64 (n : Int) : Prop := IntKind.i64.min ≤ n ∧ n ≤ IntKind.i64.max
section
variable {P : Program}
theorem pair_abs {η : Env} {M : Mem} {n : Nat} {p : Int × Int} (h1 : η.ρ.getD n default = .int .i64 p.1) (h2 : η.ρ.getD (n + 1) default = .int .i64 p.2) (r1 : in64 p.1) (r2 : in64 p.2) : AbsV η M (pairA n) (pairV p) := by
  refine ⟨[.int .i64 p.1, .int .i64 p.2], rfl, .cons ?_ rfl (.cons ?_ rfl .nil)⟩
  · show Rep M _ _ (η.ρ.getD n default)
    rw [h1, Rep_int]
    exact ⟨_, rfl, rfl, r1⟩
  · show Rep M _ _ (η.ρ.getD (n + 1) default)
    rw [h2, Rep_int]
    exact ⟨_, rfl, rfl, r2⟩
theorem inR_rel {Z : Base} {η : Env} {M : Mem} {h : St} {tm : Array Value} {w : World} {p1 p2 : Nat} {e : El} (hr : Rel Z η M h tm w) (hl : η.ρ.length = h.nv) (hb : h.bd h.nv = true) (he : in64 e.1.1 ∧ in64 e.1.2 ∧ in64 e.2.1 ∧ in64 e.2.2) :
    Rel Z { η with ρ := η.ρ ++ elD e } M (inR h p1 p2) ((tm.setIfInBounds p1 (pairV e.1)).setIfInBounds p2 (pairV e.2)) w := by
  have h0 : Rel Z { η with ρ := η.ρ ++ elD e } M h tm w := hr.agree hb (by rw [← hl]; exact Agree.append _ _)
  have g : ∀ i, i < 4 → (η.ρ ++ elD e).getD (h.nv + i) default = (elD e).getD i default := by
    intro i hi
    rw [List.getD_eq_getElem?_getD, List.getD_eq_getElem?_getD, List.getElem?_append_right (by omega), show h.nv + i - η.ρ.length = i by omega]
  have a1 : AbsV { η with ρ := η.ρ ++ elD e } M (pairA h.nv) (pairV e.1) := pair_abs (g 0 (by omega)) (g 1 (by omega)) he.1 he.2.1
  have a2 : AbsV { η with ρ := η.ρ ++ elD e } M (pairA (h.nv + 2)) (pairV e.2) := pair_abs (g 2 (by omega)) (g 3 (by omega)) he.2.2.1 he.2.2.2
  have r1 := Rel.put (dst := some p1) (A := pairA h.nv) (v := pairV e.1) (nv' := h.nv) (d := []) h0 (Env.le.refl _) (Mem.le.refl _) h0.wr a1
  have r2 := Rel.put (dst := some p2) (A := pairA (h.nv + 2)) (v := pairV e.2) (nv' := h.nv) (d := []) r1 (Env.le.refl _) (Mem.le.refl _) r1.wr a2
  exact ⟨r2.wr, r2.sz, r2.tmp, r2.asm, r2.pj, r2.gl⟩
theorem pal_keep {Z Z' : Base} {η η' : Env} {M M' : Mem} {blks blks' : List Blk} {w w' : World} (h : WR Z η M blks w) (k : WR Z' η' M' blks' w') (hp : Z'.pal = Z.pal) {pj : List Nat} (hpj : Z.pal.map (·.1) = pj) : ∀ j, memN j pj = true → ∀ p, η.al j = some p → η'.al j = some p := by
  intro j hj p hp'
  have hm : j ∈ pj := by
    exact memN_iff.1 hj
  rw [← hpj] at hm
  obtain ⟨q, hq, rfl⟩ := List.mem_map.1 hm
  have e1 := h.pal q.1 q.2 hq
  rw [hp'] at e1
  cases e1
  exact k.pal q.1 q.2 (by rw [hp]; exact hq)
theorem good_foldl {α : Type} {N : Nat} {step : D → α → D} {Good : Nat → D → Prop} (hs : ∀ k d x, k < N → Good k d → Good (k + 1) (step d x)) : ∀ (l : List α) (k : Nat) (d : D), k + l.length ≤ N → Good k d → Good (k + l.length) (l.foldl step d)
  | [], _, _, _, h => h
  | x :: l, k, d, hl, h => by
    simp only [List.length_cons] at hl
    have := good_foldl hs l (k + 1) (step d x) (by omega) (hs k d x (by omega) h)
    rw [show k + 1 + l.length = k + (x :: l).length by simp; omega] at this
    exact this
set_option maxHeartbeats 2000000 in
theorem wp_rng {α : Type} (hP : NoNum P) {Z : Base} {h : St} {base tb p1 p2 : Nat} {s : Sh} {asg bod : Code} {tm : Array Value} {w : World} {Q : Exit → Act → World → Prop} {g : Operand} {gf : FuncId} {lb : Array Value}
    (el : α → El) (hel : ∀ x, in64 (el x).1.1 ∧ in64 (el x).1.2 ∧ in64 (el x).2.1 ∧ in64 (el x).2.2)
    (hg : (⟨tm, []⟩ : Act).eval g = .func (.func gf) #[] lb) (eg : ∀ args w, (callFunc gf args).run P w = .ok (.enter gf args) w)
    {Mx : Mem} {S Sp : List α → Prop} {N : Nat} (hseq : SeqStopsK Fence.wide 0 P gf lb (fun x => #[pairV (el x).1, pairV (el x).2]) (KpM Mx) S Sp N w)
    (hchk : headR h base tb s p1 p2 = true) (hpj : Z.pal.map (·.1) = h.pj) (hgl : h.gl = Z.G)
    {ρ0 : List D} (hρ0 : ρ0.length = base) {d0 : D} {η0 : Env} {M0 : Mem} (hrel : Rel Z η0 M0 h tm w) (hη0 : η0.ρ = ρ0 ++ [d0]) (hMx : Mx.le M0)
    (step : D → α → D) (Good : Nat → D → Prop) (hg0 : Good 0 d0)
    (hvs : ∀ k d x, k < N → Good k d → Good (k + 1) (step d x))
    (hvc : ∀ k d x, k ≤ N → Good k d → (genR P h base s p1 p2 asg bod).den P Z.G (fun _ => False) [⟨fun zs => zs = [step d x], fun _ => 0, 1⟩] (ρ0 ++ [d] ++ elD (el x)))
    (hdone : ∀ (D : Nat) (xs : List α) (W : World) (η : Env) (M : Mem), w.heap.size ≤ D → S xs → Rel Z η M h tm W → η.ρ = ρ0 ++ [xs.foldl step d0] → W.heap[D]? = some (.deferred (some [])) →
      Q .normal ⟨tm, [{ target := .collected D, args := #[] }]⟩ W) :
    (Code.rangeFunc g #[p1, p2] asg bod).wpIn Fence.wide 1 P Q ⟨tm, []⟩ w := by
  simp only [headR, Bool.and_eq_true] at hchk
  obtain ⟨⟨⟨⟨⟨⟨⟨⟨c1, c2⟩, c3⟩, c4⟩, c5⟩, c6⟩, c7⟩, c8⟩, c9⟩ := hchk
  have hasm0 : h.asm = [] := by simpa using c1
  have hnv := Nat.eq_of_beq_eq_true c2
  have hdep := Nat.eq_of_beq_eq_true c3
  have hbox : boxSh h tb base = some s := by
    revert c7
    split
    · rename_i s' hs'
      intro hc
      rw [hs', Sh.same_eq _ _ hc]
    · intro hc; cases hc
  have hn0 : Z.n0 ≤ w.heap.size := hrel.wr.size
  have hholds : ∀ {η : Env} {M : Mem} {W : World} {d : D}, Rel Z η M h tm W → η.ρ = ρ0 ++ [d] → Holds tm tb s d W := by
    intro η M W d hr hρ
    have := boxSh_sound hbox hr
    rwa [hρ, List.getD_eq_getElem?_getD, List.getElem?_append_right (by omega), show base - ρ0.length = 0 by omega] at this
  have hgood : ∀ pre : List α, pre.length ≤ N → Good pre.length (pre.foldl step d0) := by
    intro pre hl
    have := good_foldl hvs pre 0 d0 (by omega) hg0
    simpa using this
  let I : List α → World → Prop := fun pre W => pre.length ≤ N ∧ ∃ η M, Mx.le M ∧ Rel Z η M h tm W ∧ η.ρ = ρ0 ++ [pre.foldl step d0]
  let Ax : α → Act → World → Prop := fun x a' W => ∃ (σ : St) (η : Env) (M : Mem) (d : D) (Λ : List Lp), a'.defers = [] ∧ Mx.le M ∧ Rel Z η M σ a'.tmps W ∧ (∀ t A, h.tmps[t]? = some A → AbsV η M A (tm.getD t undef)) ∧ Holds tm tb s d W ∧
    ρ0 <+: η.ρ ∧ η.ρ.length = σ.nv ∧ Λ.length = σ.dep ∧ [(⟨fun zs => zs = [step d x], fun _ => 0, 1⟩ : Lp)] <+: Λ ∧ (bodR P h base s bod σ).den P Z.G (fun _ => False) Λ η.ρ
  have hasmE : ∀ {η : Env} (e : E) (b : Bool), (e, b) ∈ h.asm → (e.den η.ρ).toB = b := by
    intro η e b hm
    rw [hasm0] at hm
    cases hm
  refine wpIn_rangeFunc_ownH (F := Fence.wide) (n := 1) rfl (Nat.le_refl 1) hg trivial eg hseq kpM_t (fun W l o o' _ hl ho _ => kpM_b W l o o' hl ho) (Below.refl _ _) (fun _ => rfl) I (fun _ _ _ => False) ?oI (fun _ _ _ _ _ hs _ _ => hs)
    ⟨Nat.zero_le _, η0, M0, hMx, hrel, hη0⟩ Ax ?oA ?assign ?body ?done (fun _ _ _ _ _ _ hx _ => hx.elim)
  case oI =>
    rintro pre W W' row ⟨hl, η, M, h1, h2, h3⟩ hgr hr
    exact ⟨hl, η, M, h1, h2.grown hgr hn0 hr, h3⟩
  case oA =>
    rintro x a' _ W W' row ⟨σ, η, M, d, Λ, h0, h1, h2, h3, h4, h5⟩ hgr hr
    exact ⟨σ, η, M, d, Λ, h0, h1, h2.grown hgr hn0 hr, h3, h4.grown hgr hr, h5⟩
  case assign =>
    rintro l pre x W K ⟨hlen, η, M, hMM, hr, hρ⟩ hK
    have hv := hvc pre.length _ x hlen (hgood pre hlen)
    generalize hd : pre.foldl step d0 = d at hv hρ
    have hl : η.ρ.length = h.nv := by rw [hρ, List.length_append, hρ0, hnv]; rfl
    have hin := inR_rel (p1 := p1) (p2 := p2) hr.re hl c4 (hel x)
    have hlen1 : (η.ρ ++ elD (el x)).length = h.nv + 4 := by rw [List.length_append, hl]; rfl
    generalize htm : Array.foldl _ _ _ = tmx
    have htm' : tmx = (tm.setIfInBounds p1 (pairV (el x).1)).setIfInBounds p2 (pairV (el x).2) := by rw [← htm]; simp
    subst htm'
    clear htm
    show asg.wpIn (FW (some l)) 0 P _ ⟨(tm.setIfInBounds p1 (pairV (el x).1)).setIfInBounds p2 (pairV (el x).2), []⟩ W
    rw [← hρ] at hv
    refine gen_sound (ro := some l) hP (K := fun _ => False) (Z := Z.re W M η h.blks) (d := []) (pin := []) asg _ (η.ρ ++ elD (el x)) { normal := midR P h base s bod, exits := [], ret := fun _ => .bad 900060 } (Exit.then K (fun _ _ _ => False))
      ⟨?_, fun _ _ _ _ _ _ _ _ _ _ _ hb => hb.elim, fun i f hf => by simp [lookX] at hf, fun _ _ _ _ _ _ hk => hk.elim⟩ [⟨fun zs => zs = [step d x], fun _ => 0, 1⟩] (List.prefix_refl _) (inR h p1 p2) _ M _ W hin (List.prefix_refl _) hlen1 (by simp [inR, hdep]) hv
    intro Λ' hΛ σ η2 M2 t2 w2 hr2 hp2 hn2 hd2 h2
    show K ⟨t2, []⟩ w2
    have h2 : (midR P h base s bod σ).den P Z.G (fun _ => False) Λ' η2.ρ := h2
    unfold midR at h2
    split at h2
    rotate_left
    · exact h2.elim
    rename_i s' e hm
    split at h2
    rotate_left
    · exact h2.elim
    rename_i hc
    simp only [Bool.and_eq_true] at hc
    have e1 := Sh.same_eq _ _ hc.1
    have e2 := E.same_eq _ _ hc.2
    subst e1 e2
    have hM2 : M.le M2 := hr2.wr.base
    have hpre2 : η.ρ <+: η2.ρ := (List.prefix_append _ _).trans hp2
    have hpre0 : ρ0 <+: η.ρ := by rw [hρ]; exact List.prefix_append _ _
    have hagr : ∀ {ρ : List D}, ρ0 <+: ρ → ∀ {ρ' : List D}, ρ0 <+: ρ' → Agree base ρ ρ' := by
      rintro ρ ⟨t, rfl⟩ ρ' ⟨t', rfl⟩ i hi
      simp only [List.getD_eq_getElem?_getD, List.getElem?_append_left (show i < ρ0.length by omega)]
    have hkeep : ∀ t A, h.tmps[t]? = some A → AbsV η2 M2 A (tm.getD t undef) := fun t A hA =>
      keepAV_sound (pal_keep (pj := h.pj) hr.wr hr2.wr rfl hpj) (hagr hpre0 (hpre0.trans hpre2)) hM2 (List.all_eq_true.1 c5 A (List.mem_of_getElem? hA)) (hr.tmp t A hA)
    have hrs : Rel (Z.re W M η h.blks) η2 M2 (resetS h σ) tm w2 := ⟨hr2.wr, hr.sz, hkeep, hr2.asm, hr2.pj, hr2.gl⟩
    have hdv : (E.v base).den η2.ρ = d := by
      obtain ⟨t, ht⟩ := hpre2
      show η2.ρ.getD base default = d
      rw [← ht, hρ, List.append_assoc, List.getD_eq_getElem?_getD, List.getElem?_append_right (by omega), show base - ρ0.length = 0 by omega]
      rfl
    obtain ⟨η3, M3, zs, _, hr3, hρ3, _, _, hI3, _⟩ := head_met (P := P) (d := []) (I := fun zs => zs = [d]) (μ := fun _ => 0) (Z := Z.re W M η h.blks) (shs := [s']) hpj hgl hm (by simp [Sh.sames, hc.1]) (by rw [hasm0]; rfl) hρ0 (hpre0.trans hpre2) hrs (fun e b he => hasmE (η := η2) e b he) (by simp [hdv])
    subst hI3
    have hrb := hr.wr.back hr3.wr
    refine hK ⟨t2, []⟩ w2 (hr.wr.keeps hr2.wr _) (hr2.wr.kp hMM) ⟨hlen, η3, M3, fun b o v hv => hr3.wr.base b o v (hMM b o v hv), Rel.back hr.wr hr3, by rw [hρ3, hd]⟩ ?_
    exact ⟨σ, η2, M2, d, Λ', rfl, fun b o v hv => hM2 b o v (hMM b o v hv), Rel.back hr.wr hr2, hkeep, hholds (Rel.back hr.wr hr3) hρ3, hpre0.trans hpre2, hn2, hd2, hΛ, h2⟩
  case body =>
    rintro l pre x a' W _ _ ⟨hlen0, η0', M0', hMM0, hr0, hρ0'⟩ ⟨σ, η, M, d, Λ, hde, hMM, hr, hkeep, hhold, hpre, hnv2, hdep2, hΛ, hv⟩ hlen
    have hde' : d = pre.foldl step d0 := hhold.det c6 (hholds hr0 hρ0')
    obtain ⟨t1, dd⟩ := a'
    simp only at hde hr
    subst hde
    show bod.wpIn (FW (some l)) 0 P _ ⟨t1, []⟩ W
    refine gen_sound (ro := some l) hP (K := fun _ => False) (Z := Z.re W M η σ.blks) (d := []) (pin := []) bod Λ η.ρ { normal := endR h base s, exits := [], ret := fun _ => .bad 900060 } _
      ⟨?_, fun _ _ _ _ _ _ _ _ _ _ _ hb => hb.elim, fun i f hf => by simp [lookX] at hf, fun _ _ _ _ _ _ hk => hk.elim⟩ Λ (List.prefix_refl _) σ η M t1 W hr.re (List.prefix_refl _) hnv2 hdep2 hv
    intro Λ3 hΛ3 σ3 η3 M3 t3 w3 hr3 hp3 hn3 hd3 h3
    have h3 : (endR h base s σ3).den P Z.G (fun _ => False) Λ3 η3.ρ := h3
    unfold endR at h3
    split at h3
    rotate_left
    · exact h3.elim
    rename_i xs hm
    split at h3
    rotate_left
    · exact h3.elim
    rename_i hc
    have hM3 : M.le M3 := hr3.wr.base
    have hkeep3 : ∀ t A, h.tmps[t]? = some A → AbsV η3 M3 A (tm.getD t undef) := fun t A hA =>
      keepAV_sound (pal_keep (pj := h.pj) hr.wr hr3.wr rfl hpj) (by
        intro i hi
        obtain ⟨q, hq⟩ := hp3
        obtain ⟨q', hq'⟩ := hpre
        have : i < η.ρ.length := by rw [← hq', List.length_append]; omega
        rw [← hq]
        simp only [List.getD_eq_getElem?_getD, List.getElem?_append_left this]) hM3 (List.all_eq_true.1 c5 A (List.mem_of_getElem? hA)) (hkeep t A hA)
    have hrs : Rel (Z.re W M η σ.blks) η3 M3 (resetS h σ3) tm w3 := ⟨hr3.wr, hr0.sz, hkeep3, hr3.asm, hr3.pj, hr3.gl⟩
    obtain ⟨M4, hM4, hw4⟩ := frzFor_sound ((h.tmps.zip (resetS h σ3).tmps).filterMap fun
      | (.v (.c (.d _ _)), .v (.c (.row j _ _))) => some j
      | _ => none) hrs.wr
    have hr4 : Rel (Z.re W M η σ.blks) η3 M4 (frzFor h (resetS h σ3)) tm w3 := ⟨hw4, hrs.sz, fun t A hA => (hrs.tmp t A hA).mono (Env.le.refl _) hM4, hrs.asm, hrs.pj, hrs.gl⟩
    simp only [VC.den] at h3
    have hget : Λ3[0]? = some ⟨fun zs => zs = [step d x], fun _ => 0, 1⟩ := by
      obtain ⟨q, hq⟩ := hΛ.trans hΛ3
      rw [← hq]
      rfl
    rw [hget] at h3
    obtain ⟨hI3, _⟩ := h3
    obtain ⟨η5, M5, zs, _, hr5, hρ5, _, _, hI5, _⟩ := head_met (P := P) (d := []) (I := fun zs => zs = [step d x]) (μ := fun _ => 0) (Z := Z.re W M η σ.blks) (shs := [s]) hpj hgl hm hc (by rw [hasm0]; rfl) hρ0 (hpre.trans hp3) hr4 (fun e b he => hasmE (η := η3) e b he) hI3
    subst hI5
    exact ⟨hr.wr.keeps hr5.wr _, hr5.wr.kp hMM, by rw [List.length_append, List.length_singleton]; omega, η5, M5, fun b o v hv => hr5.wr.base b o v (hMM b o v hv), Rel.back hr.wr hr5, by rw [hρ5, List.foldl_append, ← hde']; rfl⟩
  case done =>
    rintro D xs W hD hS ⟨hlen, η, M, hMM, hr, hρ⟩ hDh
    exact hdone D xs W η M hD hS hr hρ hDh
end
end Go.Proofs.Ytighdhddeidmcaa.Sy
