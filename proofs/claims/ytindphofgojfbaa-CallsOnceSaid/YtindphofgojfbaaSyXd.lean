/-
  A part of a symbolic walk that is proved sound: what the functions of a program do with data. No conditions.
-/
import Derived.Test.YtindphofgojfbaaSyX
import Derived.Recover
set_option linter.unusedSimpArgs false
set_option linter.unusedVariables false
namespace Go.Proofs.Ytindphofgojfbaa.Sy
open Go.RowKit
def defSt (σ1 : St) (a b t : Nat) : Option (Pins × St) :=
  match σ1.tmps[a]?, σ1.tmps[b]? with
  | some (.v (.c (.ptr ja 0))), some (.v (.c (.ptr jb 0))) =>
    match σ1.blks[ja]?, σ1.blks[jb]? with
    | some (.cells [_]), some (.cells [_]) =>
      if !Nat.beq ja jb && σ1.pj.isEmpty && Nat.blt t σ1.tmps.length then some ([(a, ja), (b, jb)], { σ1 with tmps := σ1.tmps.set t (.v (.c .any)), pj := [ja, jb] }) else none
    | _, _ => none
  | _, _ => none
def genDef (P : Program) (sg : Nat → Option (List TS × List TS)) (gl : Globs) (f : FuncId) (a b t : Nat) (ts us : List TS) : VC :=
  match P.funcs[f]? with
  | some fn => match fn.body with
    | some (.seq (.region i0 ops0 false) (.seq (.region _ _ false) c)) =>
      goSeq P [(0, 0)] i0 ops0 (List.range ops0.size) (startSt sg gl fn ts) fun σ1 =>
        match defSt σ1 a b t with
        | some (pin, σ2) => gen P pin c σ2 { normal := fun σ => retK P fn ts us { σ with pj := [] }, exits := [], ret := fun σ => retK P fn ts us { σ with pj := [] } }
        | none => .bad 900041
    | _ => .bad 900042
  | none => .bad 900043
def KD (Tm : TypeId) (d0 : D) (r : FR) : FR → Prop
  | .ok rs => .ok rs = r
  | .pan T x => T = Tm ∧ ∃ er, x = .rc [.int .i64 er] ∧ r = .ok [d0, .int .i64 er]
def Rec2 (w w' : World) (b2 : Nat) (z : Value) (b3 : Nat) (e : Value) : Prop :=
  w'.os = w.os ∧ w'.tape = w.tape ∧ w'.output = w.output ∧ w.heap.size ≤ w'.heap.size ∧ (∀ k, k < w.heap.size → k ≠ b2 → k ≠ b3 → w'.heap[k]? = w.heap[k]?) ∧
    (∃ T, w'.heap[b2]? = some (.cells #[z] T (0, 0))) ∧ (∃ T, w'.heap[b3]? = some (.cells #[e] T (0, 0)))
structure Recovers (P : Program) (g : FuncId) (Tm : TypeId) (z : Value) : Prop where
  fn : ∃ gn, P.funcs[g]? = some gn ∧ gn.body.isNone = false
  ret : ∀ (p q : Value) (w : World), CallsD P g #[p, q] .returning w fun e u' w' => (∃ v, e = .returned v) ∧ u' = .returning ∧ w' = w
  pan : ∀ (er : Int) (b2 b3 : Nat) (w : World) (v2 v3 : Value) (T2 T3 : TypeId), b2 ≠ b3 → w.heap[b2]? = some (.cells #[v2] T2 (0, 0)) → w.heap[b3]? = some (.cells #[v3] T3 (0, 0)) →
    CallsD P g #[.pointer (some ⟨b2, 0, none⟩), .pointer (some ⟨b3, 0, none⟩)] (.panicking [{ v := .iface Tm (.agg #[.int .i64 er]), recovered := false }]) w fun e u' w' =>
      (∃ v, e = .returned v) ∧ u' = .panicking [{ v := .iface Tm (.agg #[.int .i64 er]), recovered := true }] ∧ Rec2 w w' b2 z b3 (.int .i64 er)
def recSt (sg : Nat → Option (List TS × List TS)) (gl : Globs) (n a b : Nat) (az : A) : St :=
  { tmps := ((List.replicate n (.v (.c .any))).set a (.v (.c (.ptr 0 0)))).set b (.v (.c (.ptr 1 0))), blks := [.cells [az], .cells [.d (.int .i64) (.v 0)]], nv := 1, asm := [], dep := 0, pj := [], sg := sg, gl := gl }
def TS.plain : TS → Bool | .c _ | .g _ => true | _ => false
theorem ArgsR.plain {M : Mem} {w : World} : ∀ {ts : List TS} {vs : List Value} {ds : List D} {ps : List (Nat × Nat)}, ArgsR M w ts vs ds ps → ts.all TS.plain = true → ps = [] ∧ outVals ts vs = []
  | _, _, _, _, .nil, _ => ⟨rfl, rfl⟩
  | t :: ts, _, _, _, .cons (ps := p) h1 h2, h => by
    simp only [List.all_cons, Bool.and_eq_true] at h
    obtain ⟨e1, e2⟩ := ArgsR.plain h2 h.2
    cases t with
    | c s => exact ⟨by rw [h1.2, e1]; rfl, by simpa [outVals] using e2⟩
    | g l => exact ⟨by rw [h1.2, e1]; rfl, by simpa [outVals] using e2⟩
    | _ => simp [TS.plain] at h

theorem plain_noI : ∀ {ts : List TS}, ts.all TS.plain = true → ts.all TS.noI = true
  | [], _ => rfl
  | t :: ts, h => by
    simp only [List.all_cons, Bool.and_eq_true] at h ⊢
    refine ⟨?_, plain_noI h.2⟩
    have h1 := h.1
    cases t <;> first | rfl | (simp [TS.plain] at h1)
section
variable {P : Program}
theorem defSt_eq {σ1 σ2 : St} {a b t : Nat} {pin : Pins} (h : defSt σ1 a b t = some (pin, σ2)) : ∃ ja jb xa xb, σ1.tmps[a]? = some (.v (.c (.ptr ja 0))) ∧ σ1.tmps[b]? = some (.v (.c (.ptr jb 0))) ∧
    σ1.blks[ja]? = some (.cells [xa]) ∧ σ1.blks[jb]? = some (.cells [xb]) ∧ ja ≠ jb ∧ t < σ1.tmps.length ∧ pin = [(a, ja), (b, jb)] ∧ σ2 = { σ1 with tmps := σ1.tmps.set t (.v (.c .any)), pj := [ja, jb] } := by
  unfold defSt at h
  split at h
  · rename_i ja jb h1 h2
    split at h
    · rename_i xa xb h3 h4
      split at h
      · rename_i hc
        simp only [Bool.and_eq_true, Bool.not_eq_true'] at hc
        simp only [Option.some.injEq, Prod.mk.injEq] at h
        refine ⟨ja, jb, xa, xb, h1, h2, h3, h4, fun e => ?_, ?_, h.1.symm, h.2.symm⟩
        · subst e; simp at hc
        · simpa [Nat.blt_eq] using hc.2
      · cases h
    · cases h
  · cases h
set_option maxHeartbeats 1000000 in
theorem fun_of_def (hP : NoNum P) {f : FuncId} {fn : Func} {i0 i1 : Nat} {ops0 : Array Oper} {o1 o2 : Oper} {c : Code} (hf : P.funcs[f]? = some fn)
    (hb : fn.body = some (.seq (.region i0 ops0 false) (.seq (.region i1 #[o1, o2] false) c))) {g : FuncId} {a b t : Nat}
    (h1 : o1.op = .makeFunc (.func g) #[] #[.tmp a, .tmp b]) (h1d : o1.dst = some t) (h1g : o1.guard = none)
    (h2 : o2.op = .defer { callee := .value (.tmp t), args := #[], argTypes := #[] }) (h2d : o2.dst = none) (h2g : o2.guard = none)
    {sg : Nat → Option (List TS × List TS)} {gl : Globs} {ts us : List TS} {ds : List D} {r : FR} (hts : ts.all TS.plain = true) {Tm : TypeId} {z : Value} {d0 : D} {az : A} (hR : Recovers P g Tm z)
    (haz : ∀ η M, AbsA η M az z) (hoz : One z) {Ta Tb : TypeId} (hres : fn.results = #[.cell a Ta, .cell b Tb]) (hab : a ≠ b) (han : a < fn.ntmps) (hbn : b < fn.ntmps) {e0 : E} (he0 : ∀ ρ, e0.den ρ = d0)
    (hrec : retK P fn ts us (recSt sg gl fn.ntmps a b az) = .ret [e0, .v 0]) (hsz : ts.length ≤ fn.ntmps) {v : VC} (hv : genDef P sg gl f a b t ts us = v) (h : v.den P gl (KD Tm d0 r) [] (flatD ts ds)) : Fun P gl f ts ds us r := by
  intro w M vs ps hM hG hA hI
  obtain ⟨hps, hov⟩ := hA.plain hts
  subst hps
  have hg : genDef P sg gl f a b t ts us = goSeq P [(0, 0)] i0 ops0 (List.range ops0.size) (startSt sg gl fn ts) fun σ1 =>
        match defSt σ1 a b t with
        | some (pin, σ2) => gen P pin c σ2 { normal := fun σ => retK P fn ts us { σ with pj := [] }, exits := [], ret := fun σ => retK P fn ts us { σ with pj := [] } }
        | none => .bad 900041 := by
    unfold genDef
    simp only [hf, hb]
  rw [hg] at hv
  rw [← hv] at h
  clear hg hv
  refine calls_of_wp_defers hf hb ?_
  obtain ⟨η, pal, hρ, hout, hrel⟩ := start_rel (sg := sg) (fn := fn) hsz (plain_noI hts) hM hG hA hI
  have hpal : pal = [] := by
    rw [hov] at hout
    exact List.map_eq_nil_iff.1 hout.symm
  subst hpal
  let Z : Base := ⟨w.heap.size, w, M, ownS [], [], gl⟩
  have hnS : ∀ k, ¬ ownS [] k := fun k ⟨p, hp, _⟩ => by cases hp
  let K := KD Tm d0 r
  let R := FunPost M w (ownS []) ts vs us r
  obtain ⟨gn, hgn, hgb⟩ := hR.fn
  -- what comes behind the deferral
  have hcont : GoodK P K Z [] [] (flatD ts ds) (fun σ1 => match defSt σ1 a b t with
        | some (pin, σ2) => gen P pin c σ2 { normal := fun σ => retK P fn ts us { σ with pj := [] }, exits := [], ret := fun σ => retK P fn ts us { σ with pj := [] } }
        | none => .bad 900041) (fun a' w' => (Code.seq (.region i1 #[o1, o2] false) c).wp P (bodyPostD P fn R) a' w') := by
    intro Λ' _ σ η M1 tmps w1 hr hpr hn hdp h
    simp only [] at h
    split at h
    rotate_left
    · exact h.elim
    rename_i pin σ2 hds
    obtain ⟨ja, jb, xa, xb, g1, g2, g3, g4, gne, gt, rfl, rfl⟩ := defSt_eq hds
    obtain ⟨ba, ca, va, Tva, ka1, ka2, ka3, ka4, ka5, ka6⟩ := hr.wr.blk _ _ g3
    subst ka2
    obtain ⟨bb, cb, vb, Tvb, kb1, kb2, kb3, kb4, kb5, kb6⟩ := hr.wr.blk _ _ g4
    subst kb2
    have hne : ba ≠ bb := fun e => gne (hr.wr.inj ja jb _ _ _ _ g3 g4 (by simp) (by simp) ka1 kb1 (by simp) (by simp) e)
    obtain ⟨ba', ca', q1, q2⟩ := AbsV_c (hr.tmp a _ g1)
    rw [ka1] at q1
    cases q1
    obtain ⟨bb', cb', q3, q4⟩ := AbsV_c (hr.tmp b _ g2)
    rw [kb1] at q3
    cases q3
    have hts1 : t < tmps.size := by rw [← hr.sz]; exact gt
    let fv : Value := .func (.func g) #[] #[.pointer (some ⟨ba, 0, none⟩), .pointer (some ⟨bb, 0, none⟩)]
    let dfr : Deferred := { target := .fn (.func g) #[.pointer (some ⟨ba, 0, none⟩), .pointer (some ⟨bb, 0, none⟩)], args := #[] }
    let Z2 : Base := ⟨w.heap.size, w, M, ownS [], [(ja, (ba, 1)), (jb, (bb, 1))], gl⟩
    have hr2 : Rel Z2 η M1 { σ with tmps := σ.tmps.set t (.v (.c .any)), pj := [ja, jb] } (tmps.setIfInBounds t fv) w1 := by
      have hput := Rel.put (dst := some t) (A := .v (.c .any)) (v := fv) (nv' := σ.nv) (d := []) hr (Env.le.refl _) (Mem.le.refl _) hr.wr trivial
      refine ⟨⟨hr.wr.below, hr.wr.size, hr.wr.base, hr.wr.new, hr.wr.mem, hr.wr.one, hr.wr.blk, hr.wr.inj, hr.wr.out, fun j p hp => ?_, hr.wr.glob⟩, hput.sz, hput.tmp, hr.asm, rfl, hr.gl⟩
      simp only [Z2, List.mem_cons, Prod.mk.injEq, List.not_mem_nil, or_false] at hp
      rcases hp with ⟨rfl, rfl⟩ | ⟨rfl, rfl⟩
      · exact ka1
      · exact kb1
    have hinv : (invoke (.fn (.func g) #[.pointer (some ⟨ba, 0, none⟩), .pointer (some ⟨bb, 0, none⟩)]) #[]).run P = fun w => .ok (.enter g #[.pointer (some ⟨ba, 0, none⟩), .pointer (some ⟨bb, 0, none⟩)]) w := by
      funext w
      simp only [invoke]
      rw [run_callFunc hP hgn hgb]
      rfl
    -- returning
    have hret : ∀ (ex : Exit) (Λ : List Lp) (ρ0 : List D), (ex = .normal ∨ ex = .ret) → GoodK P K Z2 [dfr] Λ ρ0 (fun σ => retK P fn ts us { σ with pj := [] }) (bodyPostD P fn R ex) := by
      intro ex Λ ρ0 hex Λ' _ σ η' M' tmps w' hr _ _ _ h
      simp only [retK] at h
      split at h
      · exact h.elim
      · rename_i tvs htvs
        have hr0 : Rel Z η' M' { σ with pj := [] } tmps w' :=
          ⟨⟨hr.wr.below, hr.wr.size, hr.wr.base, hr.wr.new, hr.wr.mem, hr.wr.one, hr.wr.blk, hr.wr.inj, hr.wr.out, (fun j p hp => by cases hp), hr.wr.glob⟩, hr.sz, hr.tmp, hr.asm, rfl, hr.gl⟩
        obtain ⟨vres, h1, h2⟩ := resTVs_sound hr0 htvs
        obtain ⟨rs, hK, hl, hpost⟩ := retE_sound (Z := Z) hr0 h2 h
        have hK : .ok rs = r := hK
        subst hK
        have hpost := hpost vs hov rfl
        have hrr := results_run h1
        have hleave : Leaves P fn tmps R [dfr] .returning w' := by
          refine leaves_cons (by simp) (by rw [hinv]) ((hR.ret _ _ w').mono ?_)
          rintro e u' w'' ⟨⟨v, rfl⟩, rfl, rfl⟩
          exact ⟨_, hrr, hpost⟩
        rcases hex with rfl | rfl <;> exact hleave
    -- panicking
    have hpan : PanQ K Z2 [dfr] [(a, ja), (b, jb)] (bodyPostD P fn R) := by
      intro tmps w' T u x es hK hJ hbel hrep
      obtain ⟨rfl, er, rfl, hrr⟩ := hK
      obtain ⟨uv, dv, rfl, hdv, hul, hcs⟩ := hrep
      cases hdv
      obtain ⟨s, hes⟩ : ∃ s, es = [s] := by
        have := hcs.length
        match es, this with
        | [s], _ => exact ⟨s, rfl⟩
      subst hes
      obtain ⟨u0, du, y1, y2, y3⟩ := hcs.get 0 s rfl
      simp only [List.getElem?_cons_zero, Option.some.injEq] at y1
      subst y1
      obtain ⟨rfl, rfl, hlo, hhi⟩ : s = .int .i64 ∧ u0 = .int .i64 er ∧ IntKind.i64.min ≤ er ∧ er ≤ IntKind.i64.max := by
        cases s with
        | int k => rw [Rep_int] at y3; obtain ⟨n, e1, e2, e3, e4⟩ := y3; cases e2; exact ⟨rfl, e1, e3, e4⟩
        | bool => rw [Rep_bool] at y3; obtain ⟨n, _, e2⟩ := y3; cases e2
        | str => rw [Rep_str] at y3; obtain ⟨n, _, e2, _⟩ := y3; cases e2
        | lst l => rw [Rep_lst] at y3; obtain ⟨n, e2, _⟩ := y3; cases e2
      have huv : uv = [.int .i64 er] := by
        match uv, hul with
        | [v], _ => simp at y2; rw [y2]
      subst huv
      obtain ⟨ba', m1, m2, m3, v2, T2, m4⟩ := hJ (a, ja) (by simp)
      obtain ⟨bb', n1, n2, n3, v3, T3, n4⟩ := hJ (b, jb) (by simp)
      have hba : ba' = ba := by
        simp only [Z2, List.mem_cons, Prod.mk.injEq, List.not_mem_nil, or_false] at m1
        rcases m1 with ⟨_, h, _⟩ | ⟨h, _⟩
        · exact h
        · exact absurd h gne
      have hbb : bb' = bb := by
        simp only [Z2, List.mem_cons, Prod.mk.injEq, List.not_mem_nil, or_false] at n1
        rcases n1 with ⟨h, _⟩ | ⟨_, h, _⟩
        · exact absurd h.symm gne
        · exact h
      subst hba hbb
      have own_n : ∀ {k}, Z2.own k → w.heap.size ≤ k := fun h => by
        rcases h with h | h
        · exact h
        · exact absurd h (hnS _)
      have hleave : Leaves P fn tmps R [dfr] (.panicking [{ v := .iface T (.agg #[.int .i64 er]), recovered := false }]) w' := by
        refine leaves_cons (by simp) (by rw [hinv]) ((hR.pan er ba' bb' w' v2 v3 T2 T3 hne m4 n4).mono ?_)
        rintro e u' w'' ⟨⟨v, rfl⟩, rfl, r1, r2, r3, r4, r5, ⟨S2, r6⟩, ⟨S3, r7⟩⟩
        show Leaves P fn tmps R [] .returning w''
        have hsz0 : w.heap.size ≤ w'.heap.size := hbel.size
        have hold : ∀ k, k < w.heap.size → w''.heap[k]? = w.heap[k]? := fun k hk => by
          have ha := own_n m2
          have hb := own_n n2
          rw [r5 k (by omega) (by omega) (by omega)]
          exact hbel.block k hk (hnS k)
        let η0 : Env := ⟨fun j => if j = 0 then some (ba', 1) else if j = 1 then some (bb', 1) else none, [.int .i64 er]⟩
        have hfree : ∀ k, w.heap.size ≤ k → ∀ o, M k o = none := fun k hk o => by
          cases hm : M k o with
          | none => rfl
          | some v => have := lt_of_cell (hM _ _ _ hm).1; omega
        have hwr : WR Z η0 M [.cells [az], .cells [.d (.int .i64) (.v 0)]] w'' := by
          refine ⟨⟨by rw [r1]; exact hbel.os, by rw [r2]; exact hbel.tape, by rw [r3]; exact hbel.output, Nat.le_trans hsz0 r4, fun k hk _ => hold k hk⟩, Nat.le_trans hsz0 r4, Mem.le.refl _, fun _ _ _ h => .inl h, fun k o v hv => ?_, fun k o v hv => (hM k o v hv).2, fun j B hB => ?_, fun i j B C p q hi hj _ _ hp hq _ _ e => ?_, fun j hj => ?_, (fun j p hp => by cases hp), hG⟩
          · have h0 := (hM k o v hv).1
            rw [cell_congr (hold k (lt_of_cell h0))]; exact h0
          · match j, hB with
            | 0, hB =>
              simp at hB; subst hB
              exact ⟨ba', 1, [z], S2, rfl, rfl, m2, r6, .cons (haz _ _) hoz .nil, hfree _ (own_n m2)⟩
            | 1, hB =>
              simp at hB; subst hB
              refine ⟨bb', 1, [.int .i64 er], S3, rfl, rfl, n2, r7, .cons ?_ rfl .nil, hfree _ (own_n n2)⟩
              simp only [AbsA]
              rw [Rep_int]
              exact ⟨er, rfl, rfl, hlo, hhi⟩
            | j + 2, hB => simp at hB
          · match i, j, hi, hj with
            | 0, 0, _, _ => rfl
            | 1, 1, _, _ => rfl
            | 0, 1, _, _ => simp [η0] at hp hq; subst hp hq; exact absurd e hne
            | 1, 0, _, _ => simp [η0] at hp hq; subst hp hq; exact absurd e.symm hne
            | _ + 2, _, hi, _ => simp at hi
            | _, _ + 2, _, hj => simp at hj
          · simp at hj
            simp only [η0]
            rw [if_neg (by omega), if_neg (by omega)]
        have hasz : a < tmps.size := by
          rcases Nat.lt_or_ge a tmps.size with h | h
          · exact h
          · simp only [Array.getD_eq_getD_getElem?, Array.getElem?_eq_none h, Option.getD_none] at m3
            cases m3
        have hbsz : b < tmps.size := by
          rcases Nat.lt_or_ge b tmps.size with h | h
          · exact h
          · simp only [Array.getD_eq_getD_getElem?, Array.getElem?_eq_none h, Option.getD_none] at n3
            cases n3
        have hta : ∀ n, a < n → b < n → (recSt sg gl n a b az).tmps[a]? = some (.v (.c (.ptr 0 0))) := fun n h1 h2 => by
          simp only [recSt]
          rw [List.getElem?_set_ne (Ne.symm hab), List.getElem?_set_self (by simpa using h1)]
        have htb : ∀ n, a < n → b < n → (recSt sg gl n a b az).tmps[b]? = some (.v (.c (.ptr 1 0))) := fun n h1 h2 => by
          simp only [recSt]
          rw [List.getElem?_set_self (by simpa using h2)]
        have hrel2 : Rel Z η0 M (recSt sg gl tmps.size a b az) tmps w'' := by
          refine ⟨hwr, by simp [recSt], fun i A hA => ?_, fun e b he => by simp [recSt] at he, rfl, rfl⟩
          by_cases hib : i = b
          · subst hib
            rw [htb _ hasz hbsz] at hA
            cases hA
            exact AbsT_mk (a := .ptr 1 0) ⟨bb', 1, rfl, n3⟩ (by rw [n3]; rfl)
          · by_cases hia : i = a
            · subst hia
              rw [hta _ hasz hbsz] at hA
              cases hA
              exact AbsT_mk (a := .ptr 0 0) ⟨ba', 1, rfl, m3⟩ (by rw [m3]; rfl)
            · simp only [recSt] at hA
              rw [List.getElem?_set_ne (fun h => hib h.symm), List.getElem?_set_ne (fun h => hia h.symm)] at hA
              have := List.mem_of_getElem? hA
              simp only [List.mem_replicate] at this
              rw [this.2]
              trivial
        have hsame : fn.results.toList.mapM (resTV P (recSt sg gl tmps.size a b az)) = fn.results.toList.mapM (resTV P (recSt sg gl fn.ntmps a b az)) := by
          rw [hres]
          simp only [List.mapM_cons, List.mapM_nil, resTV, hta _ hasz hbsz, htb _ hasz hbsz, hta _ han hbn, htb _ han hbn]
          rfl
        have hret0 : retK P fn ts us (recSt sg gl tmps.size a b az) = .ret [e0, .v 0] := by
          rw [← hrec]
          unfold retK
          rw [hsame]
          rfl
        have hden : (retK P fn ts us (recSt sg gl tmps.size a b az)).den P Z.G (fun r' => r' = r) [] η0.ρ := by
          rw [hret0]
          simp only [VC.den, List.map_cons, List.map_nil, he0, hrr, η0]
          rfl
        simp only [retK] at hden
        split at hden
        · exact hden.elim
        · rename_i tvs htvs
          obtain ⟨vres, h1, h2⟩ := resTVs_sound hrel2 htvs
          obtain ⟨rs, hK, hl, hpost⟩ := retE_sound (Z := Z) hrel2 h2 hden
          have hpost := hpost vs hov rfl
          have hrr := results_run h1
          refine ⟨_, hrr, ?_⟩
          show FunPost M w (ownS []) ts vs us r _ w''
          rw [← hK]
          exact hpost
      exact hleave
    have hgood := gen_sound hP (K := K) (Z := Z2) (d := [dfr]) (pin := [(a, ja), (b, jb)]) c Λ' η.ρ { normal := fun σ => retK P fn ts us { σ with pj := [] }, exits := [], ret := fun σ => retK P fn ts us { σ with pj := [] } } (bodyPostD P fn R)
      ⟨hret .normal _ _ (.inl rfl), hret .ret _ _ (.inr rfl), fun i f hf => by simp [lookX] at hf, hpan⟩
    refine wp_seq (wp_region ?_)
    show wpOps P #[o1, o2] _ [0, 1] _ _
    have e1 : (execOp (⟨tmps, []⟩ : Act).eval o1).run P w1 = .ok (.value fv) w1 := by
      unfold execOp
      rw [h1]
      have ea : (⟨tmps, []⟩ : Act).eval (.tmp a) = .pointer (some ⟨ba, 0, none⟩) := q2
      have eb : (⟨tmps, []⟩ : Act).eval (.tmp b) = .pointer (some ⟨bb, 0, none⟩) := q4
      simp [Instr.makeFunc, ea, eb, fv]
    have e2 : (execOp (⟨tmps.setIfInBounds t fv, []⟩ : Act).eval o2).run P w1 = .ok (.defer dfr) w1 := by
      unfold execOp
      rw [h2]
      have et : (⟨tmps.setIfInBounds t fv, []⟩ : Act).eval (.tmp t) = fv := by
        show (tmps.setIfInBounds t fv).getD t undef = fv
        rw [Array.getD_eq_getD_getElem?, Array.getElem?_setIfInBounds]
        simp [hts1]
      simp [resolve, et, fv, Deferred.ofValue, dfr]
    simp only [wpOps, List.getElem?_toArray, List.getElem?_cons_zero, List.getElem?_cons_succ]
    rw [if_pos (by simp [Region.wanted, h1g])]
    refine .inl ?_
    unfold Oper.wp
    rw [e1, Oper.upon_value, h1d]
    show (if _ then _ else _)
    rw [if_pos (by simp [Region.wanted, h2g])]
    refine .inl ?_
    show Oper.upon P o2 ⟨tmps.setIfInBounds t fv, []⟩ _ _ ((execOp (⟨tmps.setIfInBounds t fv, []⟩ : Act).eval o2).run P w1)
    rw [e2, Oper.upon_defer, h2d]
    exact hgood Λ' (List.prefix_refl _) _ η M1 _ w1 hr2 (List.prefix_refl _) hn hdp h
  have hQ0 : PanQ K Z [] [(0, 0)] (Exit.then (fun a' w' => (Code.seq (.region i1 #[o1, o2] false) c).wp P (bodyPostD P fn R) a' w') (bodyPostD P fn R)) := by
    intro tmps w' T u x es _ hJ
    obtain ⟨b, hb, _⟩ := hJ (0, 0) (by simp)
    cases hb
  exact wp_seq (wp_region (goSeq_sound hP hQ0 hcont (List.range ops0.size) [] (List.prefix_refl _) (startSt sg gl fn ts) η M _ w hrel (by rw [hρ]; exact List.prefix_refl _) (by rw [hρ]; simpa [startSt] using hA.flat.1) rfl (by rw [hρ]; exact h)))
end

end Go.Proofs.Ytindphofgojfbaa.Sy
