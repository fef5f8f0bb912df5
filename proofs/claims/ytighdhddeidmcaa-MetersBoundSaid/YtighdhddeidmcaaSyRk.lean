/-
  A part of a symbolic walk that is proved sound: what the functions of a program do with data. No conditions.
-/
import Derived.Test.YtighdhddeidmcaaSyRh
set_option linter.unusedSimpArgs false
set_option linter.unusedVariables false
namespace Go.Proofs.Ytighdhddeidmcaa.Sy
open Go.RowKit

/-! A function with one loop over an iterator that is made of a list of pairs. -/
def dataR (zs : List (Int × Int)) : List D := zs.map fun p => .rc [.int .i64 p.1, .int .i64 p.2]
abbrev lstR : Sh := .lst [.int .i64, .int .i64]
def elAt (zs : List (Int × Int)) (x : Nat) : El := (zs.getD x (0, 0), zs.getD (x + 1) (0, 0))
/-- What the maker of the iterator and the iterator do. -/
structure NbOK (P : Program) (nb cl : FuncId) (ty : TypeId) : Prop where
  fn : ∃ g, P.funcs[nb]? = some g ∧ g.body.isNone = false
  fc : ∃ g, P.funcs[cl]? = some g ∧ g.body.isNone = false
  make : ∀ (a : Option Addr) (len cap : Nat) (w : World), CallsIn Fence.wide 0 P nb #[.slice a len cap] w fun e w' => e = .returned (.func (.func cl) #[] #[.pointer (some ⟨w.heap.size, 0, none⟩)]) ∧ w' = w.alloc (.cells #[.slice a len cap] ty)
  it : ∀ (Bs : Nat) (sv : Value) (zs : List (Int × Int)) (Mx : Mem) (w : World), 0 < zs.length → zs.length ≤ 1048576 → Mx Bs 0 = some sv → (∀ b o v, Mx b o = some v → w.cell? ⟨b, o, none⟩ = some v) → Rep Mx lstR sv (.lst (dataR zs)) →
    SeqStopsK Fence.wide 0 P cl #[.pointer (some ⟨Bs, 0, none⟩)] (fun x : Fin (zs.length - 1) => #[pairV (elAt zs x).1, pairV (elAt zs x).2]) (KpM Mx) (fun xs => xs.map (·.val) = List.range (zs.length - 1)) (fun _ => True) (zs.length - 1) w
def mkHd (l : HdL) (pj : List Nat) (sg : Nat → Option (List TS × List TS)) (gl : Globs) (jn : List (Nat × List Nat)) (hs : List HdL) : St :=
  { tmps := l.tmps, blks := l.blks, nv := l.nv + 1, asm := [], dep := 1, pj := pj, sg := sg, gl := gl, jn := jn, hd := hs }
def meetR (h : St) (base : Nat) (s : Sh) (σ : St) : VC :=
  match matSt base { h with pj := [] } (frzFor h σ) with
  | some xs => if Sh.sames (xs.map (·.1)) [s] && Nat.beq σ.nv base && Nat.beq σ.dep 1 then .back 0 ((List.range base).map E.v ++ xs.map (·.2)) else .bad 900071
  | none => .bad 900072
def genU (P : Program) (h : St) (base : Nat) (s : Sh) (ret : St → VC) : Nat → Code → St → VC
  | 0, _, σ => meetR h base s σ
  | n + 1, .seq a b, σ => gen P [] a σ { normal := fun σ' => genU P h base s ret n b σ', exits := [], ret := ret }
  | _, _, _ => .bad 900073
def restR (P : Program) (h : St) (fn : Func) (ts us : List TS) (rest : Code) : VC :=
  gen P [] rest { h with pj := [], dep := 0 } { normal := retK P fn ts us, exits := [], ret := retK P fn ts us }
def headU (h : St) (tl t1 tg kl base : Nat) : Bool :=
  h.pj.all (fun j => match h.blks[j]? with | some (.cells _) => true | _ => false) && (match h.tmps[tl]? with | some (.v (.c (.d (.lst [.int .i64, .int .i64]) (.v k)))) => Nat.beq k kl | _ => false) &&
    (match h.tmps[t1]? with | some (.v (.c .any)) => true | _ => false) && (match h.tmps[tg]? with | some (.v (.c .any)) => true | _ => false) && !Nat.beq t1 tg && Nat.blt kl base && !Nat.beq t1 tl && !Nat.beq tl tg
/-- What is owed at the loop. -/
def Oblig (P : Program) (gl : Globs) (K : FR → Prop) (vB vR : VC) (base kl : Nat) (zs : List D) : Prop :=
  ∃ (ρ0 : List D) (d0 : D) (rd : List (Int × Int)) (step : D → Nat → D) (Good : Nat → D → Prop), zs = ρ0 ++ [d0] ∧ ρ0.length = base ∧ 0 < rd.length ∧ rd.length ≤ 1048576 ∧ ρ0.getD kl default = .lst (dataR rd) ∧ (∀ p ∈ rd, in64 p.1 ∧ in64 p.2) ∧ Good 0 d0 ∧
    (∀ k d x, k < rd.length - 1 → x < rd.length - 1 → Good k d → Good (k + 1) (step d x)) ∧
    (∀ k d x, k ≤ rd.length - 1 → x < rd.length - 1 → Good k d → vB.den P gl (fun _ => False) [⟨fun zs => zs = [step d x], fun _ => 0, 1⟩] (ρ0 ++ [d] ++ elD (elAt rd x))) ∧
    vR.den P gl K [] (ρ0 ++ [(List.range (rd.length - 1)).foldl step d0])
section
variable {P : Program}
theorem vars_den {n : Nat} {ρ : List D} (h : ρ.length = n) : ((List.range n).map E.v).map (·.den ρ) = ρ := by
  subst h
  apply List.ext_getElem
  · simp
  · intro i h1 h2
    simp [E.den, h2]
def boxM (M : Mem) (b0 : Nat) (v : Value) : Mem := fun b o => if b = b0 ∧ o = 0 then some v else M b o
theorem WR.box {Z : Base} {η : Env} {M : Mem} {blks : List Blk} {w : World} (h : WR Z η M blks w) {v : Value} (hv : One v) (T : TypeId) : WR Z η (boxM M w.heap.size v) blks (w.alloc (.cells #[v] T)) ∧ M.le (boxM M w.heap.size v) := by
  have hle : M.le (boxM M w.heap.size v) := by
    intro b o u hu
    have := lt_of_cell (h.mem b o u hu)
    simp only [boxM]
    rw [if_neg (by omega)]
    exact hu
  have hcs : ∀ b o u, boxM M w.heap.size v b o = some u → (b = w.heap.size ∧ o = 0 ∧ u = v) ∨ M b o = some u := by
    intro b o u hu
    simp only [boxM] at hu
    split at hu
    · rename_i hc
      exact .inl ⟨hc.1, hc.2, by cases hu; rfl⟩
    · exact .inr hu
  refine ⟨⟨h.below.trans (BelowX.of ((Below.refl _ _).alloc h.size _)), by simp; have := h.size; omega, fun b o u hu => hle b o u (h.base b o u hu), fun b o u hu => ?_, fun b o u hu => ?_, fun b o u hu => ?_, fun j C hC => ?_, h.inj, h.out, h.pal, h.glob⟩, hle⟩
  · rcases hcs b o u hu with ⟨rfl, _⟩ | h1
    · exact .inr (.inl h.size)
    · exact h.new b o u h1
  · rcases hcs b o u hu with ⟨rfl, rfl, rfl⟩ | h1
    · rw [cell_of_heap (heap_new w _)]
      rfl
    · rw [cell_congr (heap_old _ _ (lt_of_cell (h.mem b o u h1)))]
      exact h.mem b o u h1
  · rcases hcs b o u hu with ⟨_, _, rfl⟩ | h1
    · exact hv
    · exact h.one b o u h1
  · refine BlkOK.mono (fun _ h => h) (Env.le.refl _) hle (fun e => by have := h.blk j C hC; subst e; exact this) (fun b c hb h0 hd => ?_) (h.blk j C hC)
    have hlt := (h.live_lt hC hd hb h0).1
    refine ⟨heap_old _ _ hlt, fun o => ?_⟩
    simp only [boxM]
    rw [if_neg (by simp at hlt; omega)]
theorem map_fst {β : Type} (g : Nat → β) : ∀ l : List Nat, (l.map fun j => (j, g j)).map (·.1) = l
  | [] => rfl
  | a :: l => by simp only [List.map_cons, map_fst g l]
theorem put_getD {l : Array Value} {t i : Nat} {v : Value} (h : t ≠ i) : (l.setIfInBounds t v).getD i undef = l.getD i undef := by
  rw [Array.getD_eq_getD_getElem?, Array.getElem?_setIfInBounds, if_neg h, ← Array.getD_eq_getD_getElem?]
theorem put_same {l : Array Value} {t : Nat} {v : Value} (h : t < l.size) : (l.setIfInBounds t v).getD t undef = v := by
  rw [Array.getD_eq_getD_getElem?, Array.getElem?_setIfInBounds]
  simp [h]
set_option maxHeartbeats 4000000 in
theorem fun_of_rf (hP : NoNum P) {nb cl : FuncId} {ty : TypeId} (hN : NbOK P nb cl ty) {f : FuncId} {fn : Func} {n i1 b0 tl t1 tg p1 p2 tb kl base : Nat} {o1 o2 : Oper} {tys : Array TypeId} {body asg bod rest : Code} (hf : P.funcs[f]? = some fn)
    (hb : fn.body = some body) (htl : tailN n body = .seq (.seq (.region i1 #[o1, o2] false) (.block b0 (.rangeFunc (.tmp tg) #[p1, p2] asg bod))) rest)
    (h1 : o1.op = .move (.tmp tl)) (h1d : o1.dst = some t1) (h1g : o1.guard = none)
    (h2 : o2.op = .call { callee := .value (.func nb), args := #[.tmp t1], argTypes := tys }) (h2d : o2.dst = some tg) (h2g : o2.guard = none)
    {sg : Nat → Option (List TS × List TS)} {gl : Globs} {ts us : List TS} {ds : List D} {rs : List D} (hpl : ts.all TS.plain = true) (hsz : ts.length ≤ fn.ntmps)
    {h : St} {s : Sh} (hgl : h.gl = gl) (hchk : headR h base tb s p1 p2 = true) (hchk2 : headU h tl t1 tg kl base = true)
    {v vB vR : VC} (hv : genU P h base s (retK P fn ts us) n body { startSt sg gl fn ts with dep := 1 } = v) (hvB : genR P h base s p1 p2 asg bod = vB) (hvR : restR P h fn ts us rest = vR)
    (hden : v.den P gl (fun r' => r' = .ok rs) [⟨Oblig P gl (fun r' => r' = .ok rs) vB vR base kl, fun _ => 0, 1⟩] (flatD ts ds)) : Fun P gl f ts ds us (.ok rs) := by
  intro w M vs ps hM hG hA hI
  subst hv hvB hvR
  obtain ⟨hps, hov⟩ := hA.plain hpl
  subst hps
  refine callsIn_wide.1 (callsIn_of_wp_marks (F := Fence.wide) (n := 1) hf hb trivial ?_ rfl)
  obtain ⟨η, pal, hρ, hout, hrel⟩ := start_rel (sg := sg) (fn := fn) hsz (plain_noI hpl) hM hG hA hI
  rw [hov] at hout
  have hpal0 : pal = [] := by cases pal with | nil => rfl | cons _ _ => cases hout
  subst hpal0
  let Z : Base := ⟨w.heap.size, w, M, ownS [], [], gl⟩
  let K : FR → Prop := fun r' => r' = .ok rs
  let R := FunPost M w (ownS []) ts vs us (.ok rs)
  let Λ0 : List Lp := [⟨Oblig P gl K (genR P h base s p1 p2 asg bod) (restR P h fn ts us rest) base kl, fun _ => 0, 1⟩]
  have hpan : ∀ (Z : Base) (dd : List Deferred) (Q : Exit → Act → World → Prop), PanQ K Z dd [] Q := by
    intro Z dd Q tmps w' T u x es hK
    have hK : FR.pan T x = .ok rs := hK
    cases hK
  -- a return ahead of the loop
  have hret0 : ∀ (ex : Exit) (Λ : List Lp) (ρ0 : List D), (ex = .normal ∨ ex = .ret) → GoodK P K Z [] Λ ρ0 (retK P fn ts us) (bodyPostM Fence.wide 1 P fn R ex) := by
    intro ex Λ ρ0 hex Λ' _ σ η' M' tmps w' hr _ _ _ h
    unfold retK at h
    split at h
    · exact h.elim
    · rename_i tvs htvs
      obtain ⟨vres, g1, g2⟩ := resTVs_sound hr htvs
      obtain ⟨rs', hK, hl, hpost⟩ := retE_sound hr g2 h
      have hK : FR.ok rs' = .ok rs := hK
      cases hK
      have hpost := hpost vs (by rw [hov]; rfl) rfl
      have hrr := results_run g1
      have : LeavesInM Fence.wide 1 P fn tmps R [] .returning w' := ⟨_, hrr, hpost⟩
      rcases hex with rfl | rfl <;> exact this
  -- behind the loop
  have hrest : ∀ (D0 : Nat) (W : World) (η : Env) (M' : Mem) (tm : Array Value), w.heap.size ≤ D0 → Rel Z η M' { h with pj := [], dep := 0 } tm W → η.ρ.length = base + 1 → W.heap[D0]? = some (.deferred (some [])) →
      (restR P h fn ts us rest).den P gl K [] η.ρ → rest.wpIn Fence.wide 1 P (bodyPostM Fence.wide 1 P fn R) ⟨tm, [{ target := .collected D0, args := #[] }]⟩ W := by
    intro D0 W η M' tm hD hr hl hD0 hd
    refine wpIn_wide.2 ?_
    have hret3 : ∀ (ex : Exit) (Λ : List Lp) (ρ0 : List D), (ex = .normal ∨ ex = .ret) → GoodK P K (Z.re W M' η h.blks) [{ target := .collected D0, args := #[] }] Λ ρ0 (retK P fn ts us) (bodyPostM Fence.wide 1 P fn R ex) := by
      intro ex Λ ρ0 hex Λ' _ σ η4 M4 t4 w4 hr4 _ _ _ h4
      have hD4 : w4.heap[D0]? = some (.deferred (some [])) := by
        refine (hr4.wr.below.block D0 (lt_of_heap hD0) (fun hl => ?_)).trans hD0
        obtain ⟨c, T, fr, hc⟩ := hr.wr.liveC hl
        rw [hD0] at hc
        cases hc
      have hr5 : Rel Z η4 M4 σ t4 (w4.putObj D0 (.deferred none)) := Rel.grown (Rel.back hr.wr hr4) (grownBy_putObj' w4 D0 _) (B := w.heap.size) (Nat.le_refl _) (fun r e => by cases e; exact ⟨hD, _, hD4, rfl⟩)
      unfold retK at h4
      split at h4
      · exact h4.elim
      · rename_i tvs htvs
        obtain ⟨vres, g1, g2⟩ := resTVs_sound hr5 htvs
        obtain ⟨rs', hK, hl, hpost⟩ := retE_sound hr5 g2 h4
        have hK : FR.ok rs' = .ok rs := hK
        cases hK
        have hpost := hpost vs (by rw [hov]; rfl) rfl
        have hrr := results_run g1
        have : LeavesInM Fence.wide 1 P fn t4 R [{ target := .collected D0, args := #[] }] .returning w4 := ⟨by simp, .inl ⟨D0, _, rfl, run_takeDeferred hD4, _, hrr, hpost⟩⟩
        rcases hex with rfl | rfl <;> exact this
    have hnvh : h.nv = base + 1 := by
      simp only [headR, Bool.and_eq_true] at hchk
      exact Nat.eq_of_beq_eq_true hchk.1.1.1.1.1.1.1.2
    exact gen_sound0 hP (K := K) (Z := Z.re W M' η h.blks) (d := [{ target := .collected D0, args := #[] }]) (pin := []) rest [] η.ρ { normal := retK P fn ts us, exits := [], ret := retK P fn ts us } (bodyPostM Fence.wide 1 P fn R)
      ⟨hret3 .normal _ _ (.inl rfl), hret3 .ret _ _ (.inr rfl), fun i f hf => by simp [lookX] at hf, hpan _ _ _⟩ [] (List.prefix_refl _) { h with pj := [], dep := 0 } η M' tm W hr.re (List.prefix_refl _) (by rw [hl]; exact hnvh.symm) rfl hd
  -- the loop
  have hgo : ∀ (n : Nat) (body : Code), tailN n body = .seq (.seq (.region i1 #[o1, o2] false) (.block b0 (.rangeFunc (.tmp tg) #[p1, p2] asg bod))) rest → ∀ (ρ0 : List D), GoodK P K Z [] Λ0 ρ0 (fun σ1 => genU P h base s (retK P fn ts us) n body σ1) (fun a' w' => body.wpIn Fence.wide 1 P (bodyPostM Fence.wide 1 P fn R) a' w') := by
    intro n
    induction n with
    | succ n ih =>
      intro body htl ρ0 Λ' hΛ σ η M1 tmps w1 hr hpr hn hdp h
      cases body with
      | seq a b =>
        simp only [tailN] at htl
        simp only [genU] at h
        refine wpIn_seq (wpIn_wide.2 (gen_sound0 hP (K := K) (Z := Z) (d := []) (pin := []) a Λ0 ρ0 { normal := fun σ' => genU P _ base s (retK P fn ts us) n b σ', exits := [], ret := retK P fn ts us } (Exit.then (b.wpIn Fence.wide 1 P (bodyPostM Fence.wide 1 P fn R)) (bodyPostM Fence.wide 1 P fn R))
          ⟨ih b htl ρ0, hret0 .ret _ _ (.inr rfl), fun i f hf => by simp [lookX] at hf, hpan _ _ _⟩ Λ' hΛ σ η M1 tmps w1 hr hpr hn hdp h))
      | _ => simp [tailN] at htl
    | zero =>
      intro body htl ρ0 Λ' hΛ σ η M1 tmps w1 hr hpr hn hdp hm
      simp only [tailN] at htl
      subst htl
      have hm : (meetR h base s σ).den P gl K Λ' η.ρ := hm
      unfold meetR at hm
      split at hm
      rotate_left
      · exact hm.elim
      rename_i xs hxs
      split at hm
      rotate_left
      · exact hm.elim
      rename_i hc
      simp only [Bool.and_eq_true] at hc
      have cnv := Nat.eq_of_beq_eq_true hc.1.2
      simp only [VC.den] at hm
      have hget : Λ'[0]? = some ⟨Oblig P gl K (genR P h base s p1 p2 asg bod) (restR P h fn ts us rest) base kl, fun _ => 0, 1⟩ := by
        obtain ⟨q, hq⟩ := hΛ
        rw [← hq]
        rfl
      rw [hget] at hm
      obtain ⟨hob, _⟩ := hm
      rw [List.map_append, vars_den (by omega)] at hob
      obtain ⟨ρ1, d0, rd, step, Good, e1, e2, e3, e3b, e4, e5, e6, e7, e8, e9⟩ := hob
      obtain ⟨M2, hM2, hw2⟩ := frzFor_sound ((h.tmps.zip σ.tmps).filterMap fun
        | (.v (.c (.d _ _)), .v (.c (.row j _ _))) => some j
        | _ => none) hr.wr
      have hr2 : Rel Z η M2 (frzFor h σ) tmps w1 := ⟨hw2, hr.sz, fun t A hA => (hr.tmp t A hA).mono (Env.le.refl _) hM2, hr.asm, hr.pj, hr.gl⟩
      simp only [headR, Bool.and_eq_true] at hchk
      obtain ⟨⟨⟨⟨⟨⟨⟨⟨c1, c2⟩, c3⟩, c4⟩, c5⟩, c6⟩, c7⟩, c8⟩, c9⟩ := hchk
      have hasm0 : h.asm = [] := by simpa using c1
      have hlenρ : η.ρ.length = base := by omega
      have heq : η.ρ = ρ1 ∧ (xs.map (·.2)).map (·.den η.ρ) = [d0] := by
        have hl : η.ρ.length = ρ1.length := by omega
        exact List.append_inj e1 hl
      obtain ⟨heq1, heq2⟩ := heq
      subst heq1
      obtain ⟨η3, M3, zs, _, hr3, hρ3, _, _, hI3, _⟩ := head_met (P := P) (d := []) (I := fun zs => zs = [d0]) (μ := fun _ => 0) (Z := Z) (shs := [s]) (h := { h with pj := [] }) rfl hgl hxs hc.1.1 (by show asmBd base h.asm = true; rw [hasm0]; rfl) hlenρ (List.prefix_refl _) hr2 (fun e b he => by
        have he : (e, b) ∈ h.asm := he
        rw [hasm0] at he
        cases he) heq2
      subst hI3
      simp only [headU, Bool.and_eq_true, Bool.not_eq_true'] at hchk2
      obtain ⟨⟨⟨⟨⟨⟨⟨u1, u2⟩, u3⟩, u4⟩, u5⟩, u6⟩, u7⟩, u8⟩ := hchk2
      -- the list
      have hT0 : h.tmps[tl]? = some (.v (.c (.d lstR (.v kl)))) := by
        revert u2
        split
        · rename_i k hk
          intro hc
          rw [hk, Nat.eq_of_beq_eq_true hc]
        · intro hc; cases hc
      have hT1 : h.tmps[t1]? = some (.v (.c .any)) := by
        revert u3
        split
        · rename_i hk; intro _; exact hk
        · intro hc; cases hc
      have hTg : h.tmps[tg]? = some (.v (.c .any)) := by
        revert u4
        split
        · rename_i hk; intro _; exact hk
        · intro hc; cases hc
      have n1 : t1 ≠ tg := fun e => by subst e; simp at u5
      have n2 : t1 ≠ tl := fun e => by subst e; simp at u7
      have n3 : tl ≠ tg := fun e => by subst e; simp at u8
      have hlist : Rep M3 lstR (tmps.getD tl undef) (.lst (dataR rd)) := by
        have h0 := (hr3.tmp tl _ hT0).1
        have hkl : kl < base := by simpa [Nat.blt_eq] using u6
        have : (E.v kl).den η3.ρ = .lst (dataR rd) := by
          show η3.ρ.getD kl default = _
          rw [← e4, hρ3]
          simp only [List.getD_eq_getElem?_getD, List.getElem?_append_left (show kl < η.ρ.length by omega)]
        rw [← this]
        exact h0
      obtain ⟨sv, hsv⟩ : ∃ sv, tmps.getD tl undef = sv := ⟨_, rfl⟩
      rw [hsv] at hlist
      obtain ⟨a, len, cap, hsl⟩ : ∃ a len cap, sv = .slice a len cap := by
        rw [Rep_lst] at hlist
        obtain ⟨l, _, _, hh⟩ := hlist
        rcases hh with ⟨rfl, _⟩ | ⟨b, off, sp, cap, rfl, _⟩
        · exact ⟨_, _, _, rfl⟩
        · exact ⟨_, _, _, rfl⟩
      subst hsl
      have hts1 : t1 < tmps.size := by rw [← hr3.sz]; exact (List.getElem?_eq_some_iff.1 hT1).1
      have htsg : tg < tmps.size := by rw [← hr3.sz]; exact (List.getElem?_eq_some_iff.1 hTg).1
      refine wpIn_seq (wpIn_seq (wpIn_region ?_))
      show wpOpsIn Fence.wide 1 P #[o1, o2] _ [0, 1] _ _
      rw [wpOpsIn_cons]
      unfold wpOpIn
      simp only [List.getElem?_toArray, List.getElem?_cons_zero]
      rw [if_pos (by simp [Region.wanted, h1g])]
      refine ⟨fun _ _ => trivial, ?_⟩
      have g1 : (execOp (⟨tmps, []⟩ : Act).eval o1).run P w1 = .ok (.value (.slice a len cap)) w1 := by
        unfold execOp
        rw [h1]
        simp [Act.eval, hsv]
      rw [semAt_run g1 (fun d hd => by cases hd)]
      show wpOpsIn Fence.wide 1 P #[o1, o2] _ [1] ((⟨tmps, []⟩ : Act).put o1.dst (.slice a len cap)) w1
      rw [h1d]
      rw [wpOpsIn_cons]
      unfold wpOpIn
      simp only [List.getElem?_toArray, List.getElem?_cons_zero, List.getElem?_cons_succ]
      rw [if_pos (by simp [Region.wanted, h2g])]
      refine ⟨fun _ _ => trivial, ?_⟩
      obtain ⟨gn, hgn, hgb⟩ := hN.fn
      have g2 : (execOp ((⟨tmps, []⟩ : Act).put (some t1) (.slice a len cap)).eval o2).run P w1 = .ok (.enter nb #[.slice a len cap]) w1 := by
        unfold execOp
        rw [h2]
        simp only [resolve, Act.eval, Deferred.ofValue, Sem.run_bind, Sem.run_pure, Result.andThen_ok, invoke]
        rw [run_callFunc hP hgn hgb]
        have ev : (⟨tmps.setIfInBounds t1 (.slice a len cap), []⟩ : Act).eval (.tmp t1) = .slice a len cap := put_same hts1
        simp [Act.put, ev]
      rw [semAt_run g2 (fun d hd => by cases hd)]
      refine ⟨fun hh => by simp [Fence.wide] at hh, (hN.make a len cap w1).mono ?_⟩
      rintro e w2 ⟨rfl, rfl⟩
      show Code.wpIn _ _ _ _ _ _ _
      refine wpIn_block ?_
      rw [h2d]
      obtain ⟨hwb, hleb⟩ := hr3.wr.box (v := .slice a len cap) rfl ty
      obtain ⟨gc, hgc, hgcb⟩ := hN.fc
      let Mx := boxM M3 w1.heap.size (.slice a len cap)
      let fv : Value := .func (.func cl) #[] #[.pointer (some ⟨w1.heap.size, 0, none⟩)]
      let w2 := w1.alloc (.cells #[.slice a len cap] ty)
      let tm := (tmps.setIfInBounds t1 (.slice a len cap)).setIfInBounds tg fv
      -- what is pinned
      let pl : List (Nat × (Nat × Nat)) := h.pj.map fun j => (j, (η3.al j).getD (0, 0))
      have hpl2 : ∀ j p, (j, p) ∈ pl → η3.al j = some p := by
        intro j p hp
        obtain ⟨i, hi, hip⟩ := List.mem_map.1 hp
        cases hip
        have := List.all_eq_true.1 u1 j hi
        revert this
        split
        · rename_i l hl
          intro _
          obtain ⟨b, c, vs', T, q1, _⟩ := hr3.wr.blk j _ hl
          rw [q1]
          rfl
        · intro hh; cases hh
      let Zp : Base := ⟨w.heap.size, w, M, ownS [], pl, gl⟩
      have hrp : Rel Zp η3 Mx h tm w2 := by
        refine ⟨⟨hwb.below, hwb.size, hwb.base, hwb.new, hwb.mem, hwb.one, hwb.blk, hwb.inj, hwb.out, hpl2, hwb.glob⟩, by have := hr3.sz; simpa [tm] using this, fun t A hA => ?_, fun e b he => (by rw [hasm0] at he; cases he), map_fst _ _, hgl⟩
        by_cases q1 : t = tg
        · subst q1
          rw [hTg] at hA
          cases hA
          trivial
        · by_cases q2 : t = t1
          · subst q2
            rw [hT1] at hA
            cases hA
            trivial
          · show AbsV η3 Mx A (tm.getD t undef)
            rw [put_getD (fun e => q1 e.symm), put_getD (fun e => q2 e.symm)]
            exact (hr3.tmp t A hA).mono (Env.le.refl _) hleb
      have hseq := hN.it w1.heap.size (.slice a len cap) rd Mx w2 e3 e3b (by simp [Mx, boxM]) hwb.mem (Rep.mono hleb _ _ _ hlist)
      have hgv : (⟨tm, []⟩ : Act).eval (.tmp tg) = .func (.func cl) #[] #[.pointer (some ⟨w1.heap.size, 0, none⟩)] := put_same (by simpa using htsg)
      have hel : ∀ x : Fin (rd.length - 1), in64 (elAt rd x).1.1 ∧ in64 (elAt rd x).1.2 ∧ in64 (elAt rd x).2.1 ∧ in64 (elAt rd x).2.2 := by
        intro x
        have hg : ∀ i, i < rd.length → rd.getD i (0, 0) ∈ rd := fun i hi => by
          rw [List.getD_eq_getElem?_getD, List.getElem?_eq_getElem hi]
          exact List.getElem_mem hi
        have q1 := e5 _ (hg x.val (by have := x.isLt; omega))
        have q2 := e5 _ (hg (x.val + 1) (by have := x.isLt; omega))
        exact ⟨q1.1, q1.2, q2.1, q2.2⟩
      refine wp_rng hP (Z := Zp) (h := h) (fun x : Fin (rd.length - 1) => elAt rd x) hel hgv (fun args w => run_callFunc hP hgc hgcb args) hseq
        (by simp only [headR, Bool.and_eq_true]; exact ⟨⟨⟨⟨⟨⟨⟨⟨c1, c2⟩, c3⟩, c4⟩, c5⟩, c6⟩, c7⟩, c8⟩, c9⟩) (map_fst _ _) hgl hlenρ hrp hρ3 (Mem.le.refl _) (fun d x => step d x.val) Good e6 (fun k d x hk hg => e7 k d x.val hk x.isLt hg) (fun k d x hk hg => e8 k d x.val hk x.isLt hg) ?_
      intro D0 ys W η5 M5 hD hS hr5 hρ5 hDh
      show rest.wpIn Fence.wide 1 P _ _ W
      refine hrest D0 W η5 M5 tm (by simp only [World.size_alloc] at hD; have := hr3.wr.size; have hz : Z.n0 = w.heap.size := rfl; omega) ⟨⟨hr5.wr.below, hr5.wr.size, hr5.wr.base, hr5.wr.new, hr5.wr.mem, hr5.wr.one, hr5.wr.blk, hr5.wr.inj, hr5.wr.out, (fun j p hp => by cases hp), hr5.wr.glob⟩, hr5.sz, hr5.tmp, hr5.asm, rfl, hr5.gl⟩ (by rw [hρ5, List.length_append, hlenρ]; rfl) hDh ?_
      have hfold : ys.foldl (fun d (x : Fin (rd.length - 1)) => step d x.val) d0 = (List.range (rd.length - 1)).foldl step d0 := by
        rw [← hS, List.foldl_map]
      rw [hρ5, hfold]
      exact e9
  exact hgo n body htl (flatD ts ds) Λ0 (List.prefix_refl _) { startSt sg gl fn ts with dep := 1 } η M _ w ⟨hrel.wr, hrel.sz, hrel.tmp, hrel.asm, hrel.pj, hrel.gl⟩ (by rw [hρ]; exact List.prefix_refl _) (by rw [hρ]; simpa [startSt] using hA.flat.1) rfl (by rw [hρ]; exact hden)
end
end Go.Proofs.Ytighdhddeidmcaa.Sy
