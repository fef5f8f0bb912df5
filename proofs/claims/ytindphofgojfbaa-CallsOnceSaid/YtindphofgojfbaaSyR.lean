/-
  A part of a symbolic walk that is proved sound: what the functions of a program do with data. No conditions.
-/
import Derived.Test.YtindphofgojfbaaSyRd
set_option linter.unusedSimpArgs false
set_option linter.unusedVariables false
namespace Go.Proofs.Ytindphofgojfbaa.Sy
open Go.RowKit
section
variable {Z : Base} {η : Env} {M : Mem} {blks : List Blk} {w : World} {P : Program} {G : Globs}

theorem wp_value {o : Oper} {a : Act} {s : Sem Value} {v : Value} {w' : World} {next : Act → World → Prop} {Q : Exit → Act → World → Prop}
    (h : execOp a.eval o = (do pure (.value (← s)))) (hs : s.run P w = .ok v w') (k : next (a.put o.dst v) w') : o.wp P a w next Q := by
  unfold Oper.wp
  rw [h]
  simp only [Sem.run_bind, hs, Result.andThen_ok, Sem.run_pure, Oper.upon]
  exact k
theorem wp_unit {o : Oper} {a : Act} {s : Sem Unit} {w' : World} {next : Act → World → Prop} {Q : Exit → Act → World → Prop}
    (h : execOp a.eval o = (do s; pure .skip)) (hs : s.run P w = .ok () w') (k : next (a.put o.dst undef) w') : o.wp P a w next Q := by
  unfold Oper.wp
  rw [h]
  simp only [Sem.run_bind, hs, Result.andThen_ok, Sem.run_pure, Oper.upon]
  exact k

theorem AbsV_c {a : A} {v : Value} (h : AbsV η M (.v (.c a)) v) : AbsA η M a v := AbsT_c (show AbsT η M (.c a) v from h)
theorem AbsV_g {l : List A} {v : Value} (h : AbsV η M (.v (.g l)) v) : ∃ vs : List Value, v = .agg vs.toArray ∧ AbsL η M l vs := h
theorem AbsV_t {l : List TV} {v : Value} (h : AbsV η M (.tup l) v) : ∃ vs : List Value, v = .tuple vs.toArray ∧ AbsTs η M l vs := h
theorem intOf1_abs {X : AV} {k : IntKind} {e : E} (h : intOf1 X = some (k, e)) {v : Value} (hX : AbsV η M X v) : ∃ n, v = .int k n ∧ e.den η.ρ = .int k n := by
  unfold intOf1 at h
  split at h
  · cases h
    obtain ⟨n, h1, h2, _⟩ := abs_int (show AbsT η M _ v from hX)
    exact ⟨n, h1, h2⟩
  · cases h

theorem len_run {T : TypeId} {v : Value} {n : Int} (h : (∃ e a c m, P.underlying T = some (.slice e) ∧ v = .slice a m c ∧ n = m) ∨ (∃ s, P.underlying T = some .string ∧ v = .string s ∧ n = s.size) ∨ (∃ m e, P.underlying T = some (.array m e) ∧ n = m)) (tys : Array TypeId) (vs : Array Value) (t : TypeId) (h1 : tys[0]? = some T) (h2 : vs[0]? = some v) :
    (Builtin.len_ tys t vs).run P w = .ok (.int .i64 n) w := by
  rcases h with ⟨e, a, c, m, hu, rfl, rfl⟩ | ⟨s, hu, rfl, rfl⟩ | ⟨m, e, hu, rfl⟩
  · simp [Builtin.len_, h1, h2, run_underlying hu, goInt]
  · simp [Builtin.len_, h1, h2, run_underlying hu, goInt]
  · simp [Builtin.len_, h1, h2, run_underlying hu, goInt]

theorem lenA_sound {c : Ctx} {T : TypeId} {X : AV} {out : Out} (h : lenA c T X = some out) (hcP : c.P = P) {v : Value} (hX : AbsV η M X v) {tys : Array TypeId} {vs : Array Value} {t : TypeId} (h1 : tys[0]? = some T) (h2 : vs[0]? = some v) :
    ∃ u r, (Builtin.len_ tys t vs).run P w = .ok u w ∧ out = ⟨some r, [], []⟩ ∧ AbsV η M r u := by
  have hmax : IntKind.i64.max = maxLen := by decide
  have hmin : IntKind.i64.min ≤ 0 := by decide
  unfold lenA at h
  rw [hcP] at h
  split at h
  · rename_i e0 es e hu
    simp only [ret1, Option.some.injEq] at h
    have ha := AbsT_c (show AbsT η M (.c (.d (.lst es) e)) v from hX)
    simp only [AbsA] at ha
    rw [Rep_lst] at ha
    obtain ⟨xs, hd, hm, hv⟩ := ha
    have hv' : ∃ a c, v = .slice a xs.length c := by
      rcases hv with ⟨rfl, rfl⟩ | ⟨b, off, sp, cap, rfl, _⟩
      · exact ⟨none, 0, rfl⟩
      · exact ⟨_, _, rfl⟩
    obtain ⟨a, cc, rfl⟩ := hv'
    exact ⟨_, _, len_run (.inl ⟨e0, a, cc, _, hu, rfl, rfl⟩) tys vs t h1 h2, h.symm, mk_int (by rw [den_lenE]; simp [E.den, hd, D.len]) (by omega) (by rw [hmax]; omega)⟩
  · rename_i e0 j es n hu
    simp only [ret1, Option.some.injEq] at h
    obtain ⟨b, cc, m, g1, g2, g3, g4, g5⟩ := AbsT_c (show AbsT η M (.c (.row j es n)) v from hX)
    have hv' : ∃ a c, v = .slice a m c := by
      rcases g5 with ⟨_, rfl⟩ | ⟨rfl, b', rfl⟩
      · exact ⟨_, _, rfl⟩
      · exact ⟨_, 0, by rw [show m = 0 by omega]⟩
    obtain ⟨a, c', rfl⟩ := hv'
    exact ⟨_, _, len_run (.inl ⟨e0, a, c', _, hu, rfl, rfl⟩) tys vs t h1 h2, h.symm, mk_int g2 (by omega) (by rw [hmax]; omega)⟩
  · rename_i e0 es hu
    simp only [ret1, Option.some.injEq] at h
    obtain ⟨ad, rfl⟩ := AbsT_c (show AbsT η M (.c (.nilS es)) v from hX)
    exact ⟨_, _, len_run (.inl ⟨e0, _, _, _, hu, rfl, rfl⟩) tys vs t h1 h2, h.symm, mk_int rfl (by omega) (by rw [hmax]; omega)⟩
  · rename_i e hu
    simp only [ret1, Option.some.injEq] at h
    obtain ⟨s, rfl, hs, hm⟩ := abs_str (show AbsT η M (.c (.d .str e)) v from hX)
    refine ⟨_, _, len_run (.inr (.inl ⟨s, hu, rfl, rfl⟩)) tys vs t h1 h2, h.symm, mk_int ?_ (by omega) (by rw [hmax]; omega)⟩
    split
    · simp [E.den] at hs; rw [hs]; rfl
    · simp [E.den, hs, D.len]
  · rename_i m e0 hu
    split at h
    · rename_i hm
      simp only [ret1, Option.some.injEq] at h
      exact ⟨_, _, len_run (.inr (.inr ⟨m, e0, hu, rfl⟩)) tys vs t h1 h2, h.symm, mk_int rfl (by omega) (by rw [hmax]; omega)⟩
    · cases h
  · cases h

set_option maxHeartbeats 1000000 in
theorem idxTold_sound {bo : AV → Option Bool} (hbo : ∀ X b v, bo X = some b → AbsV η M X v → v = .bool b) {k : IntKind} {e : E} {n : Int} (he : e.den η.ρ = .int k n) : ∀ {l m : Nat}, idxTold bo k e l = some m → (E.ki k (.ofNat m)).den η.ρ = .int k n
  | 0, m, h => by cases h
  | l + 1, m, h => by
    unfold idxTold at h
    split at h
    · rename_i hb
      cases h
      have h1 := hbo _ _ (.bool (cmpB .eql n (.ofNat l))) hb ⟨by
        simp only [AbsA]
        rw [Rep_bool]
        refine ⟨_, rfl, ?_⟩
        simp only [E.den, he, D.toI], rfl⟩
      simp only [cmpB, Value.bool.injEq, beq_iff_eq] at h1
      simp only [E.den, h1]
    · exact idxTold_sound hbo he h
theorem act_sound (hP : NoNum P) {c : Ctx} {o : Oper} {out : Out} (h : act c o = some out) (hcP : c.P = P) (hcB : c.B = fun j => blks.getD j .dead) {a : Act}
    (hx : ∀ x, AbsV η M (c.x x) (a.eval x)) (hbo : ∀ X b v, c.bo X = some b → AbsV η M X v → v = .bool b) (hw : WR Z η M blks w) (hnb : allocB o.op = true → blks[c.nb]? = some .none) (hroom : ∀ i, i < c.room → blks[c.nb + i]? = some .none) (hev : ∀ e ∈ out.evs, EvOK P Z.G η.ρ e)
    {next : Act → World → Prop} {Q : Exit → Act → World → Prop} (k : Then Z η M blks o a out next) : o.wp P a w next Q := by
  have refl := Env.le.refl η
  have reflM := Mem.le.refl M
  have kpure : ∀ (r : AV) (v : Value) (evs : List Ev), out = ⟨some r, [], evs⟩ → AbsV η M r v → next (a.put o.dst v) w := by
    intro r v evs e hr
    subst e
    exact k v w η M refl reflM hw (fun r' h => by simp at h; subst h; exact hr) (fun h => by simp at h)
  have kdone : ∀ {s : Sem Value}, execOp a.eval o = (do pure (.value (← s))) → Done P Z η M blks w s out → o.wp P a w next Q := by
    intro s he hd
    obtain ⟨v, w', η', M', r, h1, h2, h3, h4, h5, h6⟩ := hd
    exact wp_value he h1 (k v w' η' M' h2 h3 h4 (fun r' hr => by rw [h5] at hr; cases hr; exact h6) (fun hr => by rw [h5] at hr; cases hr))
  unfold act at h
  rw [hcP] at h
  simp only [] at h
  split at h
  · rename_i x hop
    cases h
    refine wp_value (s := pure (a.eval x)) ?_ rfl (kpure _ _ _ rfl (fixA_abs (hx x)))
    unfold execOp; rw [hop]; rfl
  · rename_i x hop
    cases h
    refine wp_value (s := pure (a.eval x)) ?_ rfl (kpure _ _ _ rfl (fixA_abs (hx x)))
    unfold execOp; rw [hop]; rfl
  · rename_i q x y hop
    split at h
    · rename_i hb
      cases h
      have hq := hbo _ _ _ hb (hx q)
      refine wp_value (s := pure (a.eval x)) ?_ rfl (kpure _ _ _ rfl (hx x))
      unfold execOp; rw [hop]; simp only [hq]; rfl
    · rename_i hb
      cases h
      have hq := hbo _ _ _ hb (hx q)
      refine wp_value (s := pure (a.eval y)) ?_ rfl (kpure _ _ _ rfl (hx y))
      unfold execOp; rw [hop]; simp only [hq]; rfl
    · cases h
  · rename_i T hop
    replace hnb := hnb (by rw [hop]; rfl)
    split at h
    · rename_i z hz
      split at h
      · rename_i l hl
        split at h
        · rename_i B p hB
          cases h
          obtain ⟨i, hi, hz'⟩ := Option.bind_eq_some_iff.1 hz
          obtain ⟨cc, h1, h2⟩ := newBlk_sound hw hnb (zeroAs_abs hl) hB
          have hal : η.al c.nb = none := hw.blk _ _ hnb
          rw [show z.cells.toList.toArray = z.cells by simp] at h1
          refine wp_value (s := Instr.alloc T true (.tuple #[])) ?_ (run_alloc hi hz') (k _ _ _ _ (Env.le_set hal) reflM h1 (fun r hr => ?_) (fun h => by simp at h))
          · unfold execOp; rw [hop]
          · simp at hr; subst hr; exact AbsT_mk h2 rfl
        · cases h
      · cases h
    · cases h
  · rename_i T x hop
    replace hnb := hnb (by rw [hop]; rfl)
    split at h
    · rename_i t ht
      split at h
      · rename_i l hl
        split at h
        · rename_i B p hB
          cases h
          have hx' : AbsV η M (fixA P T (c.x x)) (a.eval x) := fixA_abs (hx x)
          rw [ht] at hx'
          obtain ⟨cc, h1, h2⟩ := newBlk_sound hw hnb (as_cells hl hx') hB
          have hal : η.al c.nb = none := hw.blk _ _ hnb
          rw [show (a.eval x).cells.toList.toArray = (a.eval x).cells by simp] at h1
          refine wp_value (s := Instr.box T (a.eval x)) ?_ run_box (k _ _ _ _ (Env.le_set hal) reflM h1 (fun r hr => ?_) (fun h => by simp at h))
          · unfold execOp; rw [hop]
          · simp at hr; subst hr; exact AbsT_mk h2 rfl
        · cases h
      · cases h
    · cases h
  · rename_i T x hop
    split at h
    · cases h
    · rename_i hu
      have hu' : ∃ d, P.underlying T = some d := by cases hd : P.underlying T with | none => simp [hd] at hu | some d => exact ⟨d, rfl⟩
      split at h
      · rename_i A hA
        split at h
        · rename_i t evs hl
          cases h
          have hxA := hx x
          rw [hA] at hxA
          rw [hcB] at hl
          obtain ⟨v, h1, h2⟩ := loadA_sound hl hu' hw (AbsV_c hxA) hev
          refine wp_value (s := Instr.loadAt T (a.eval x)) ?_ h1 (kpure _ _ _ rfl h2)
          unfold execOp; rw [hop]
        · cases h
      · cases h
  · rename_i T p x hop
    split at h
    · cases h
    · rename_i hu
      have hu' : ∃ d, P.underlying T = some d := by cases hd : P.underlying T with | none => simp [hd] at hu | some d => exact ⟨d, rfl⟩
      split at h
      · rename_i A t hA ht
        split at h
        · rename_i u evs hl
          cases h
          have hpA := hx p
          rw [hA] at hpA
          have hxA : AbsV η M (fixA P T (c.x x)) (a.eval x) := fixA_abs (hx x)
          rw [ht] at hxA
          rw [hcB] at hl
          obtain ⟨w', j, B, rfl, h1, h2⟩ := storeA_sound hl hu' hw (AbsV_c hpA) hxA hev
          refine wp_unit (s := Instr.storeAt T (a.eval p) (a.eval x)) ?_ h1 (k undef w' η M refl reflM h2 (fun r hr => by simp at hr) (fun _ => rfl))
          unfold execOp; rw [hop]
        · cases h
      · cases h
  · rename_i x hop
    have hxx := hx x
    split at h
    · rename_i j oo hA
      cases h
      rw [hA] at hxx
      obtain ⟨b, cc, h1, h2⟩ := AbsV_c hxx
      refine wp_value (s := pure (a.eval x)) ?_ rfl (kpure _ _ _ rfl hxx)
      unfold execOp; rw [hop]; simp only [h2]; rfl
    · rename_i j s i oo hA
      cases h
      rw [hA] at hxx
      obtain ⟨b, cc, m, h1, h2, h3⟩ := AbsV_c hxx
      refine wp_value (s := pure (a.eval x)) ?_ rfl (kpure _ _ _ rfl hxx)
      unfold execOp; rw [hop]; simp only [h3]; rfl
    · rename_i es xx oo hA
      cases h
      rw [hA] at hxx
      obtain ⟨b, q, h1, h2⟩ := AbsV_c hxx
      refine wp_value (s := pure (a.eval x)) ?_ rfl (kpure _ _ _ rfl hxx)
      unfold execOp; rw [hop]; simp only [h1]; rfl
    · rename_i f caps hA
      cases h
      rw [hA] at hxx
      obtain ⟨vs, h1, h2⟩ := AbsV_c hxx
      refine wp_value (s := pure (a.eval x)) ?_ rfl (kpure _ _ _ rfl hxx)
      unfold execOp; rw [hop]; simp only [h1]; rfl
    · rename_i es l hA
      cases h
      rw [hA] at hxx
      obtain ⟨b, q, xs, h1, h2⟩ := AbsV_c hxx
      refine wp_value (s := pure (a.eval x)) ?_ rfl (kpure _ _ _ rfl hxx)
      unfold execOp; rw [hop]; simp only [h1]; rfl
    · cases h
  · rename_i op xT x y yT hop
    obtain ⟨v, r, h1, h2, h3, h4⟩ := binA_sound (w := w) h (hx x) (hx y) hev x y
    refine wp_value (s := do eqGuard op xT x y (a.eval x) (a.eval y); binOp op xT (a.eval x) (a.eval y)) ?_ h1 (kpure r v out.evs ?_ h4)
    · unfold execOp; rw [hop]
    · cases out; simp_all
  · rename_i op xT x hop
    split at h
    · rename_i A hA
      split at h
      · rename_i r hr
        simp only [ret1, Option.some.injEq] at h
        have hxx := hx x
        rw [hA] at hxx
        obtain ⟨v, h1, h2⟩ := unA_sound (w := w) (P := P) hr hxx
        refine wp_value (s := Op.unary op (a.eval x)) ?_ h1 (kpure _ _ _ h.symm h2)
        unfold execOp; rw [hop]
      · cases h
    · cases h
  · rename_i s d x hop
    split at h
    · rename_i out' hb
      cases h
      refine kdone (s := convert s d (a.eval x)) ?_ (bytesA_sound hcP hcB hb hw (fixA_abs (hx x)))
      unfold execOp; rw [hop]
    · split at h
      · rename_i A hA
        split at h
        · rename_i r hr
          simp only [ret1, Option.some.injEq] at h
          have hxx := hx x
          rw [hA] at hxx
          obtain ⟨v, h1, h2⟩ := convA_sound (w := w) hr hxx
          refine wp_value (s := convert s d (a.eval x)) ?_ h1 (kpure _ _ _ h.symm h2)
          unfold execOp; rw [hop]
        · cases h
      · cases h
  · rename_i S x f hop
    split at h
    · rename_i A g hA hg
      split at h
      · cases h
      · rename_i hs
        split at h
        · rename_i r hr
          simp only [ret1, Option.some.injEq] at h
          have hxx := hx x
          rw [hA] at hxx
          obtain ⟨v, h1, h2, h3⟩ := fieldAddrA_sound (w := w) hg hs hr (AbsV_c hxx)
          refine wp_value (s := Instr.fieldAt S (a.eval x) f) ?_ h1 (kpure _ _ _ h.symm (AbsT_mk h2 h3))
          unfold execOp; rw [hop]
        · cases h
    · cases h
  · rename_i S x f hop
    split at h
    · rename_i l g hA hg
      have hxx := hx x
      rw [hA] at hxx
      obtain ⟨vs, hv, hvs⟩ := AbsV_g hxx
      unfold fieldOf at hg
      split at hg
      · rename_i fs hfs
        split at h
        · cases h
        · rename_i hu
          have hu' : ∃ d, P.underlying g.type = some d := by cases hd : P.underlying g.type with | none => simp [hd] at hu | some d => exact ⟨d, rfl⟩
          have hrun : ∀ v, (part g.type vs.toArray g.offset).run P w = .ok v w → (Instr.field S (a.eval x) f).run P w = .ok v w := by
            intro v hp
            rw [hv]
            simp [Instr.field, run_underlying hfs, hg, asAgg, hp]
          split at h
          · rename_i hT
            split at h
            · rename_i hsz
              cases h
              obtain ⟨df, hdf⟩ := hu'
              refine wp_value (s := Instr.field S (a.eval x) f) ?_ (hrun _ (part_agg hT (info_of_under hdf))) (kpure _ _ _ rfl ⟨_, rfl, (hvs.drop _).take _⟩)
              unfold execOp; rw [hop]
            · cases h
          · rename_i hT
            split at h
            · rename_i A hA2
              simp only [ret1, Option.some.injEq] at h
              obtain ⟨u, g1, g2, g3⟩ := hvs.get _ _ hA2
              refine wp_value (s := Instr.field S (a.eval x) f) ?_ (hrun _ (part_one (by simpa using hT) hu' g1)) (kpure _ _ _ h.symm (AbsT_mk g2 g3))
              unfold execOp; rw [hop]
            · cases h
      · cases hg
    · cases h
  · rename_i T x i hop
    split at h
    · rename_i A k0 e hA he
      split at h
      · rename_i r evs hr
        simp only [ret1, Option.some.injEq] at h
        subst h
        have hxx : AbsV η M (fixA P T (c.x x)) (a.eval x) := fixA_abs (hx x)
        rw [hA] at hxx
        obtain ⟨n, h1, h2⟩ := intOf1_abs he (hx i)
        obtain ⟨v, g1, g2, g3⟩ : ∃ v', (Instr.indexAt T (a.eval x) (.int k0 n)).run P w = .ok v' w ∧ AbsA η M r v' ∧ One v' := by
          unfold indexAddrT at hr
          rw [hcP] at hr
          split at hr
          · rename_i r0 hr0
            cases hr
            exact indexAddrA_sound (w := w) hr0 (AbsV_c hxx) h2 hev
          · split at hr
            · rename_i m hm
              exact indexAddrA_sound (w := w) hr (AbsV_c hxx) (idxTold_sound hbo h2 hm) hev
            · cases hr
        refine wp_value (s := Instr.indexAt T (a.eval x) (a.eval i)) ?_ (by rw [h1]; exact g1) (kpure _ _ _ rfl (AbsT_mk g2 g3))
        unfold execOp; rw [hop]
      · cases h
    · cases h
  · rename_i t i hop
    split at h
    · rename_i l hA
      split at h
      · rename_i r hr
        cases h
        have hxx := hx t
        rw [hA] at hxx
        obtain ⟨vs, hv, hvs⟩ := AbsV_t hxx
        have key : ∀ {l : List TV} {vs : List Value} (i : Nat) (r : TV), AbsTs η M l vs → l[i]? = some r → ∃ v, vs[i]? = some v ∧ AbsT η M r v := by
          intro l vs i r hl
          induction hl generalizing i with
          | nil => intro h; simp at h
          | cons h1 h2 ih =>
            intro h
            cases i with
            | zero => simp at h; subst h; exact ⟨_, rfl, h1⟩
            | succ i => exact ih i (by simpa using h)
        obtain ⟨v, h1, h2⟩ := key i r hvs hr
        refine wp_value (s := Instr.extract (a.eval t) i) ?_ (v := v) (w' := w) (by rw [hv]; simp [Instr.extract, h1]) (kpure _ _ _ rfl h2)
        unfold execOp; rw [hop]
      · cases h
    · cases h
  · rename_i q args tys hop
    split at h
    · rename_i f extra hcal
      have hqv := hx q
      -- the function value and what it holds
      have hval : ∃ ev : List Value, a.eval q = .func (.func f) #[] ev.toArray ∧ AbsL η M extra ev := by
        unfold calleeOf at hcal
        split at hcal
        · rename_i f' a' b' hA
          split at hcal
          · rename_i hs
            cases hcal
            rw [hA] at hqv
            have h1 := AbsV_c hqv
            simp only [AbsA] at h1
            have e1 : a' = #[] := Array.eq_empty_of_size_eq_zero hs.1
            have e2 : b' = #[] := Array.eq_empty_of_size_eq_zero hs.2
            subst e1 e2
            exact ⟨[], h1, .nil⟩
          · cases hcal
        · rename_i f' caps hA
          cases hcal
          rw [hA] at hqv
          obtain ⟨vs, h1, h2, h3⟩ := AbsV_c hqv
          refine ⟨vs, h1, AbsL.mk' (by simp [h2]) fun i A v hA' hv => ?_⟩
          simp only [List.getElem?_map, Option.map_eq_some_iff] at hA'
          obtain ⟨p, hp, rfl⟩ := hA'
          obtain ⟨b, cc, g1, g2⟩ := h3 i p hp
          rw [hv] at g2
          cases g2
          exact ⟨⟨b, cc, g1, rfl⟩, rfl⟩
        · cases hcal
      obtain ⟨ev, hq, hex⟩ := hval
      have hopE : (execOp a.eval o).run P w = (callFunc f (args.map a.eval ++ ev.toArray)).run P w := by
        unfold execOp
        rw [hop]
        simp only [resolve, hq, Deferred.ofValue, Sem.run_bind, Sem.run_pure, Result.andThen_ok, invoke]
        congr 2
        simp
      unfold callB at h
      split at h
      · rename_i out' h'
        cases h
        exact callA_sound hP h' hcP hcB hroom hx hex hw hev hopE k
      · exact callI_sound hP h hcP hcB hx hex hw hev hopE k
    · cases h
  · rename_i args tys hop
    split at h
    · rename_i T x hT hX
      obtain ⟨u, r, h1, h2, h3⟩ := lenA_sound (w := w) (tys := tys) (vs := args.map a.eval) (t := o.type) h hcP (hx x) hT (by simp [hX])
      refine wp_value (s := Builtin.len_ tys o.type (args.map a.eval)) ?_ h1 (kpure _ _ _ h2 h3)
      unfold execOp; rw [hop]; rfl
    · cases h
  · rename_i args tys hop
    split at h
    · rename_i T x y hT hX hY
      have hd := copyA_sound (Z := Z) (w := w) hcP hcB h hw (hx x) (hx y) (tys := tys) (vs := args.map a.eval) (t := o.type) hT (by simp [hX]) (by simp [hY])
      refine kdone ?_ hd
      unfold execOp; rw [hop]; rfl
    · cases h
  · rename_i args tys hop
    split at h
    · rename_i x y hxy
      obtain ⟨v, r, h1, h2, h3⟩ := minA_sound (w := w) (P := P) h (hx x) (hx y)
      refine wp_value (s := Builtin.min_ #[] 0 #[a.eval x, a.eval y]) ?_ h1 (kpure _ _ _ h2 h3)
      have hargs : args.map a.eval = #[a.eval x, a.eval y] := by
        have : args = #[x, y] := by apply Array.ext'; simpa using hxy
        rw [this]; simp
      unfold execOp; rw [hop]
      show (do let v ← Builtin.min_ tys o.type (args.map a.eval); pure (Next.value v)) = _
      rw [hargs]; rfl
    · cases h
  · rename_i args tys hop
    split at h
    · rename_i x y hxy
      obtain ⟨v, r, h1, h2, h3⟩ := minA_sound (w := w) (P := P) h (hx x) (hx y)
      refine wp_value (s := Builtin.max_ #[] 0 #[a.eval x, a.eval y]) ?_ h1 (kpure _ _ _ h2 h3)
      have hargs : args.map a.eval = #[a.eval x, a.eval y] := by
        have : args = #[x, y] := by apply Array.ext'; simpa using hxy
        rw [this]; simp
      unfold execOp; rw [hop]
      show (do let v ← Builtin.max_ tys o.type (args.map a.eval); pure (Next.value v)) = _
      rw [hargs]; rfl
    · cases h
  · rename_i args tys hop
    split at h
    · rename_i T xT x y hT hxT hX hY
      have hd := appendA_sound (w := w) hcP hcB h hw (hnb (by rw [hop]; rfl)) (fixA_abs (hx x)) (fixA_abs (hx y)) hev o.type
      refine kdone (s := Builtin.append_ tys o.type (args.map a.eval)) ?_ ?_
      · unfold execOp; rw [hop]; rfl
      · have heq : Builtin.append_ tys o.type (args.map a.eval) = Builtin.append_ #[T, xT] o.type #[a.eval x, a.eval y] := by
          unfold Builtin.append_
          simp [hT, hxT, hX, hY]
        rw [heq]; exact hd
    · cases h
  · rename_i args tys hop
    split at h
    · rename_i T x hT hX
      split at h
      · rename_i e es hu hA
        simp only [ret1, Option.some.injEq] at h
        have hxx : AbsV η M (fixA P T (c.x x)) (a.eval x) := fixA_abs (hx x)
        rw [hA] at hxx
        obtain ⟨ad, had⟩ := AbsV_c hxx
        have hmin : IntKind.i64.min ≤ 0 := by decide
        have hmax : 0 ≤ IntKind.i64.max := by decide
        refine wp_value (s := Builtin.cap_ tys o.type (args.map a.eval)) ?_ (v := .int .i64 0) (w' := w) ?_ (kpure _ _ _ h.symm (mk_int (n := 0) rfl hmin hmax))
        · unfold execOp; rw [hop]; rfl
        · simp [Builtin.cap_, hT, hX, run_underlying hu, had, goInt]
      · cases h
    · cases h
  · rename_i T n parts hop
    have hnb' := hnb (by rw [hop]; rfl)
    have hd := buildSliceA_sound (Z := Z) (M := M) (w := w) hcP hcB hx h hw hnb'
    refine kdone ?_ hd
    unfold execOp; rw [hop]
  · rename_i f first caps hop
    split at h
    · rename_i hfirst
      split at h
      · rename_i l hl
        simp only [ret1, Option.some.injEq] at h
        have e1 : first = #[] := Array.eq_empty_of_size_eq_zero hfirst
        subst e1
        have key : ∀ (cs : List Operand) (l : List (Nat × Nat)), cs.mapM (fun q => ptrOf (c.x q)) = some l → l.length = cs.length ∧ ∀ (k : Nat) (p : Nat × Nat), l[k]? = some p → ∃ b cc, η.al p.1 = some (b, cc) ∧ (cs.map a.eval)[k]? = some (.pointer (some ⟨b, p.2, none⟩)) := by
          intro cs
          induction cs with
          | nil => intro l hl; simp at hl; subst hl; exact ⟨rfl, fun k p hk => by simp at hk⟩
          | cons q cs ih =>
            intro l hl
            rw [List.mapM_cons] at hl
            simp only [Option.bind_eq_bind, Option.bind_eq_some_iff] at hl
            obtain ⟨p0, hp0, l', hl', he⟩ := hl
            simp at he
            subst he
            obtain ⟨h1, h2⟩ := ih l' hl'
            refine ⟨by simp [h1], fun k p hk => ?_⟩
            cases k with
            | zero =>
              simp at hk
              subst hk
              unfold ptrOf at hp0
              split at hp0
              · rename_i j oo hA
                cases hp0
                have hqv := hx q
                rw [hA] at hqv
                obtain ⟨b, cc, g1, g2⟩ := AbsV_c hqv
                exact ⟨b, cc, g1, by simp [g2]⟩
              · cases hp0
            | succ k => simpa using h2 k p (by simpa using hk)
        obtain ⟨h1, h2⟩ := key caps.toList l hl
        refine wp_value (s := Instr.makeFunc (.func f) (#[].map a.eval) (caps.map a.eval)) ?_ (v := .func (.func f) #[] (caps.map a.eval)) (w' := w) (by simp [Instr.makeFunc]) (kpure _ _ _ h.symm (AbsT_mk (show AbsA η M (.fn f l) _ from ⟨caps.toList.map a.eval, by congr 1; apply Array.ext'; simp, by simpa using h1, fun k p hk => h2 k p hk⟩) rfl))
        unfold execOp; rw [hop]
      · cases h
    · cases h
  · rename_i T x hop
    split at h
    · rename_i fs l hu hA
      split at h
      · rename_i ps hps
        split at h
        · rename_i hrows
          simp only [ret1, Option.some.injEq] at h
          have hxx := hx x
          rw [hA] at hxx
          obtain ⟨vs, hv, hvs⟩ := AbsV_g hxx
          rw [hcB] at hps
          obtain ⟨g1, g2⟩ := toDs_sound hw l ps vs hps (fun j hj => by
            obtain ⟨A, hA', hjA⟩ := List.mem_flatMap.1 hj
            have := List.all_eq_true.1 hrows A hA'
            rw [List.isEmpty_iff] at this
            rw [this] at hjA; cases hjA) hvs
          refine wp_value (s := Instr.makeInterface T (a.eval x)) ?_ (v := .iface T (a.eval x)) (w' := w) ?_ (kpure _ _ _ h.symm (AbsT_mk (show AbsA η M (.ifc T (ps.map (·.1)) (.rc (consE (ps.map (·.2))))) _ from ⟨_, rfl, vs, _, hv, by simp only [E.den, consE_map, D.toL], by simpa using g1, g2⟩) rfl))
          · unfold execOp; rw [hop]
          · simp [Instr.makeInterface, run_underlying hu]
        · cases h
      · cases h
    · cases h
  · rename_i T l cp hop
    refine kdone (s := Instr.makeSlice T (a.eval l) (a.eval cp)) ?_ (makeA_sound hcP h hw (hnb (by rw [hop]; rfl)) (hx l) (hx cp) hev)
    unfold execOp; rw [hop]
  · rename_i T x lo hi mx hop
    refine kdone (s := Instr.sliceAt T (a.eval x) (lo.map a.eval) (hi.map a.eval) (mx.map a.eval)) ?_ (sliceA_sound hcP hcB hx h hw (hx x) hev)
    unfold execOp; rw [hop]
  · rename_i T x i hop
    obtain ⟨v, r, h1, h2, h3⟩ := indexA_sound (w := w) hcP h (hx x) (hx i) hev
    refine wp_value (s := Instr.index T (a.eval x) (a.eval i)) ?_ h1 (kpure _ _ _ h2 h3)
    unfold execOp; rw [hop]
  · rename_i T parts hop
    refine kdone (s := Instr.build T (parts.map fun p => (p.1, a.eval p.2))) ?_ (buildA_sound hcP hx h hw)
    unfold execOp; rw [hop]
  · cases h

def isCallOp (o : Oper) : Bool := match o.op with | .call { callee := .value _, .. } => true | _ => false
theorem act_pan (hP : NoNum P) {c : Ctx} {o : Oper} {out : Out} (h : act c o = some out) (hco : isCallOp o = true) (hcP : c.P = P) (hcB : c.B = fun j => blks.getD j .dead) {a : Act}
    (hx : ∀ x, AbsV η M (c.x x) (a.eval x)) (hw : WR Z η M blks w) (hroom : ∀ i, i < c.room → blks[c.nb + i]? = some .none)
    {f0 : FuncId} {ts0 us0 : List TS} {as0 : List E} {n0 : Nat} (hevs : out.evs = [.call f0 ts0 as0 us0 n0]) {T : TypeId} {y : D} (hpan : Fun P Z.G f0 ts0 (as0.map (·.den η.ρ)) us0 (.pan T y))
    {next : Act → World → Prop} {Q : Exit → Act → World → Prop} (hQ : ∀ u es w', BelowX Z.n0 Z.S Z.W0 w' → RepT (fun _ _ => none) (.g es) u y → (∀ (j : Nat) (l : List A) (b c : Nat), blks[j]? = some (.cells l) → η.al j = some (b, c) → 0 < c → (∀ p ∈ out.upd, p.1 ≠ j) → w'.heap[b]? = w.heap[b]?) → Q (.panic [{ v := .iface T u, recovered := false }]) a w') : o.wp P a w next Q := by
  unfold isCallOp at hco
  split at hco
  · rename_i q args tys hop
    unfold act at h
    simp only [hop] at h
    split at h
    · rename_i f extra hcal
      have hqv := hx q
      -- the function value and what it holds
      have hval : ∃ ev : List Value, a.eval q = .func (.func f) #[] ev.toArray ∧ AbsL η M extra ev := by
        unfold calleeOf at hcal
        split at hcal
        · rename_i f' a' b' hA
          split at hcal
          · rename_i hs
            cases hcal
            rw [hA] at hqv
            have h1 := AbsV_c hqv
            simp only [AbsA] at h1
            have e1 : a' = #[] := Array.eq_empty_of_size_eq_zero hs.1
            have e2 : b' = #[] := Array.eq_empty_of_size_eq_zero hs.2
            subst e1 e2
            exact ⟨[], h1, .nil⟩
          · cases hcal
        · rename_i f' caps hA
          cases hcal
          rw [hA] at hqv
          obtain ⟨vs, h1, h2, h3⟩ := AbsV_c hqv
          refine ⟨vs, h1, AbsL.mk' (by simp [h2]) fun i A v hA' hv => ?_⟩
          simp only [List.getElem?_map, Option.map_eq_some_iff] at hA'
          obtain ⟨p, hp, rfl⟩ := hA'
          obtain ⟨b, cc, g1, g2⟩ := h3 i p hp
          rw [hv] at g2
          cases g2
          exact ⟨⟨b, cc, g1, rfl⟩, rfl⟩
        · cases hcal
      obtain ⟨ev, hq, hex⟩ := hval
      have hopE : (execOp a.eval o).run P w = (callFunc f (args.map a.eval ++ ev.toArray)).run P w := by
        unfold execOp
        rw [hop]
        simp only [resolve, hq, Deferred.ofValue, Sem.run_bind, Sem.run_pure, Result.andThen_ok, invoke]
        congr 2
        simp
      unfold callB at h
      split at h
      · rename_i out' h'
        cases h
        exact callA_pan hP h' hcP hcB hroom hx hex hw hevs hpan hopE hQ
      · exact callI_pan hP h hcP hcB hx hex hw hevs hpan hopE hQ
    · cases h
  · cases hco
end

end Go.Proofs.Ytindphofgojfbaa.Sy
