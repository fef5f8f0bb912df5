/-
  A part of a symbolic walk that is proved sound: what the functions of a program do with data. No conditions.
-/
import Derived.Test.YtindphofgojfbaaSyRa
set_option linter.unusedSimpArgs false
set_option linter.unusedVariables false
namespace Go.Proofs.Ytindphofgojfbaa.Sy
open Go.RowKit
section
variable {Z : Base} {η : Env} {M : Mem} {blks : List Blk} {w : World} {P : Program} {G : Globs}

theorem mk_lst {es : List Sh} {e : E} {v : Value} (h : Rep M (.lst es) v (e.den η.ρ)) : AbsV η M (.v (.c (.d (.lst es) e))) v := by
  have h' : AbsA η M (.d (.lst es) e) v := h
  exact AbsT_mk h' h.one
theorem mk_nil {es : List Sh} {a : Option Addr} : AbsV η M (.v (.c (.nilS es))) (.slice a 0 0) := by
  have h' : AbsA η M (.nilS es) (.slice a 0 0) := ⟨a, rfl⟩
  exact AbsT_mk h' rfl
inductive OptB (η : Env) : Option Value → Option E → Option Int → Prop
  | none : OptB η .none .none .none
  | some {k i e} : e.den η.ρ = .int k i → OptB η (.some (.int k i)) (.some e) (.some i)
theorem zeroE_opt {v : Option Value} {e : Option E} {n : Option Int} (h : OptB η v e n) (hz : zeroE e = true) : n = some 0 := by
  cases h with
  | none => simp [zeroE] at hz
  | some he =>
    unfold zeroE at hz
    split at hz
    · rename_i h1
      cases h1
      simp [E.den] at he
      rw [he.2]
    · cases hz
theorem zeroLo_opt {v : Option Value} {e : Option E} {n : Option Int} (h : OptB η v e n) (hz : (e.isNone || zeroE e) = true) : n.getD 0 = 0 := by
  rcases Bool.or_eq_true _ _ ▸ hz with h1 | h1
  · cases h with
    | none => rfl
    | some he => simp at h1
  · rw [zeroE_opt h h1]; rfl
theorem run_bound {k : IntKind} {i : Int} {y : Nat} {cd : BoundsCode} (h : 0 ≤ i ∧ i ≤ y) : (Instr.sliceBound (.int k i) y cd).run P w = .ok i.toNat w := by
  simp [Instr.sliceBound, asIntOf, h]
theorem optE_abs {x : Operand → AV} {a : Act} (hx : ∀ q, AbsV η M (x q) (a.eval q)) {o : Option Operand} {e : Option E} (h : optE x o = some e) : ∃ n, OptB η (o.map a.eval) e n := by
  unfold optE at h
  split at h
  · cases h; exact ⟨_, .none⟩
  · rename_i q
    split at h
    · rename_i k e0 he
      cases h
      obtain ⟨n, h1, h2, _⟩ := intOf1_abs' he (hx q)
      rw [Option.map_some, h1]
      exact ⟨_, .some h2⟩
    · cases h
theorem bounds_run {lo hi mx : Option Value} {el eh em : Option E} {nl nh nm : Option Int} (hl : OptB η lo el nl) (hh : OptB η hi eh nh) (hm : OptB η mx em nm) (hmh : ¬ (em.isSome = true ∧ eh.isNone = true)) {n c : Nat} {ne : E} (hn : ne.den η.ρ = .int .i64 n) (hc : n ≤ c)
    (hev : ∀ e ∈ subObs ne el eh em, EvOK P G η.ρ e) (b : Bool) :
    ∃ L H m : Nat, (Instr.sliceBounds b n c lo hi mx).run P w = .ok (L, H, m) w ∧ L ≤ H ∧ H ≤ n ∧ H ≤ m ∧ m ≤ c ∧ (L : Int) = nl.getD 0 ∧ (H : Int) = nh.getD n := by
  unfold subObs at hev
  have e1 := fun e he => hev e (List.mem_append_left _ (List.mem_append_left _ he))
  have e2 := fun e he => hev e (List.mem_append_left _ (List.mem_append_right _ he))
  have e3 := fun e he => hev e (List.mem_append_right _ he)
  clear hev
  have two : ∀ {x y z : E}, (∀ e ∈ obLe x y ++ obLe y z, EvOK P G η.ρ e) → (x.den η.ρ).toI ≤ (y.den η.ρ).toI ∧ (y.den η.ρ).toI ≤ (z.den η.ρ).toI := fun h =>
    ⟨obs_le fun e he => h e (List.mem_append_left _ he), obs_le fun e he => h e (List.mem_append_right _ he)⟩
  cases hm with
  | none =>
    cases hh with
    | none =>
      cases hl with
      | none => exact ⟨0, n, c, by simp [Instr.sliceBounds], by omega, by omega, by omega, by omega, rfl, rfl⟩
      | some hl =>
        rename_i k i e
        have h3 := two e3
        simp only [hl, hn, E.den, D.toI, Option.getD_none] at h3
        refine ⟨i.toNat, n, c, by simp [Instr.sliceBounds, run_bound h3], by omega, by omega, by omega, by omega, by simp; omega, rfl⟩
    | some hh =>
      rename_i kh ih eh
      have h2 := two e2
      simp only [hh, hn, E.den, D.toI, Option.getD_none] at h2
      have b2 : 0 ≤ ih ∧ ih ≤ (c : Int) := by omega
      cases hl with
      | none => exact ⟨0, ih.toNat, c, by simp [Instr.sliceBounds, run_bound b2], by omega, by omega, by omega, by omega, rfl, by simp; omega⟩
      | some hl =>
        rename_i k i e
        have h3 := two e3
        simp only [hl, hh, E.den, D.toI, Option.getD_some] at h3
        have b3 : 0 ≤ i ∧ i ≤ (ih.toNat : Int) := by omega
        exact ⟨i.toNat, ih.toNat, c, by simp only [Instr.sliceBounds, Sem.run_bind, Sem.run_pure, Result.andThen_ok, run_bound b2, run_bound b3], by omega, by omega, by omega, by omega, by simp; omega, by simp; omega⟩
  | some hm =>
    rename_i km im em
    have h1 := two e1
    simp only [hm, hn, E.den, D.toI] at h1
    have b1 : 0 ≤ im ∧ im ≤ (c : Int) := by omega
    cases hh with
    | none => exact absurd ⟨rfl, rfl⟩ hmh
    | some hh =>
      rename_i kh ih eh
      have h2 := two e2
      simp only [hh, hm, E.den, D.toI, Option.getD_some] at h2
      have b2 : 0 ≤ ih ∧ ih ≤ (im.toNat : Int) := by omega
      cases hl with
      | none => exact ⟨0, ih.toNat, im.toNat, by simp only [Instr.sliceBounds, Sem.run_bind, Sem.run_pure, Result.andThen_ok, run_bound b1, run_bound b2], by omega, by omega, by omega, by omega, rfl, by simp; omega⟩
      | some hl =>
        rename_i k i e
        have h3 := two e3
        simp only [hl, hh, E.den, D.toI, Option.getD_some] at h3
        have b3 : 0 ≤ i ∧ i ≤ (ih.toNat : Int) := by omega
        exact ⟨i.toNat, ih.toNat, im.toNat, by simp only [Instr.sliceBounds, Sem.run_bind, Sem.run_pure, Result.andThen_ok, run_bound b1, run_bound b2, run_bound b3], by omega, by omega, by omega, by omega, by simp; omega, by simp; omega⟩

theorem OptB.getD {v : Option Value} {e : Option E} {n : Option Int} (h : OptB η v e n) {d : E} {m : Int} (hd : (d.den η.ρ).toI = m) : ((e.getD d).den η.ρ).toI = n.getD m := by
  cases h with
  | none => exact hd
  | some h => simp [h, D.toI]

theorem mkSub_den {l n : E} {el eh : Option E} {vl vh : Option Value} {nl nh : Option Int} (hl : OptB η vl el nl) (hh : OptB η vh eh nh) {xs : List D} (hx : l.den η.ρ = .lst xs) (hn : n.den η.ρ = .int .i64 xs.length) {L H : Nat} (hL : (L : Int) = nl.getD 0) (hH : (H : Int) = nh.getD xs.length) : (mkSub l n el eh).den η.ρ = .lst ((xs.take H).drop L) := by
  have h1 := hl.getD (d := .ki .i64 0) (m := 0) rfl
  have h2 := hh.getD (d := n) (m := xs.length) (by rw [hn]; rfl)
  have key : (E.sub l (el.getD (.ki .i64 0)) (eh.getD n)).den η.ρ = .lst ((xs.take H).drop L) := by
    simp only [E.den, hx, D.toL, h1, h2]
    rw [← hL, ← hH]
    simp
  unfold mkSub
  split
  · cases hl
    cases hh
    simp at hL hH
    rw [hx, show L = 0 by omega, show H = xs.length by omega]; simp
  · exact key

theorem sub_rep {es : List Sh} {v : Value} {xs : List D} (h : Rep M (.lst es) v (.lst xs)) : ∃ a c, v = .slice a xs.length c ∧ xs.length ≤ c ∧ ∀ (L H m : Nat), L ≤ H → H ≤ xs.length → H ≤ m → m ≤ c → Rep M (.lst es) (.slice (if m = L then a else a.map (·.add (L * es.length))) (H - L) (m - L)) (.lst ((xs.take H).drop L)) := by
  rw [Rep_lst] at h
  obtain ⟨l, e, hm, h⟩ := h
  cases e
  rcases h with ⟨rfl, rfl⟩ | ⟨b, off, sp, cap, rfl, hsp, h1, h2, h3⟩
  · refine ⟨none, 0, rfl, by simp, fun L H m h1 h2 h3 h4 => ?_⟩
    simp at h2
    have : H = 0 := h2
    subst this
    have hL : L = 0 := by omega
    have hm0 : m = 0 := by omega
    subst hL hm0
    rw [Rep_lst]
    exact ⟨[], rfl, by simp, .inl ⟨rfl, rfl⟩⟩
  · refine ⟨_, cap, rfl, h1, fun L H m q1 q2 q3 q4 => ?_⟩
    rw [Rep_lst]
    refine ⟨_, rfl, by simp; omega, .inr ?_⟩
    have hlen : ((xs.take H).drop L).length = H - L := by simp; omega
    by_cases hml : m = L
    · have hHL : H = L := by omega
      refine ⟨b, off, sp, m - L, by rw [if_pos hml, hlen], fun h0 => by omega, by rw [hlen]; omega, by omega, fun i x hx => ?_⟩
      have := (List.getElem?_eq_some_iff.1 hx).1
      omega
    · have hsp' := hsp (by omega)
      subst hsp'
      refine ⟨b, off + L * es.length, none, m - L, by rw [if_neg hml, hlen]; simp [add_mk], fun _ => rfl, by rw [hlen]; omega, by omega, fun i x hx => ?_⟩
      have hi := (List.getElem?_eq_some_iff.1 hx).1
      rw [hlen] at hi
      rw [List.getElem?_drop, List.getElem?_take, if_pos (by omega)] at hx
      have := h3 (L + i) x hx
      refine RepCells.mono (Mem.le.refl _) _ _ _ _ _ (fun o u hu => ?_) this
      rw [← hu]
      congr 1
      rw [Nat.add_mul]; omega

theorem sliceA_sound {c : Ctx} (hcP : c.P = P) (hcB : c.B = fun j => blks.getD j .dead) {a : Act} (hx : ∀ q, AbsV η M (c.x q) (a.eval q)) {T : TypeId} {X : AV} {lo hi mx : Option Operand} {out : Out} (h : sliceA c T X lo hi mx = some out) (hw : WR Z η M blks w) {x : Value} (hX : AbsV η M X x) (hev : ∀ e ∈ out.evs, EvOK P G η.ρ e) :
    Done P Z η M blks w (Instr.sliceAt T x (lo.map a.eval) (hi.map a.eval) (mx.map a.eval)) out := by
  unfold sliceA at h
  rw [hcP] at h
  split at h
  · rename_i el eh em hel heh hem
    obtain ⟨nl, hl⟩ := optE_abs hx hel
    obtain ⟨nh, hh⟩ := optE_abs hx heh
    obtain ⟨nm, hm⟩ := optE_abs hx hem
    generalize lo.map a.eval = vlo at *
    generalize hi.map a.eval = vhi at *
    generalize mx.map a.eval = vmx at *
    split at h
    · cases h
    · rename_i hmh
      have hmh' : ¬ (em.isSome = true ∧ eh.isNone = true) := by simpa using hmh
      split at h
      · rename_i e hu
        split at h
        · cases h
        · rename_i hinfo
          have hinfo' : (P.info? e).isSome = true := by cases hh : P.info? e <;> simp [hh] at hinfo ⊢
          -- the run, for data
          have core : ∀ {M : Mem} {v : Value} {es : List Sh} {l n : E} {xs : List D}, Rep M (.lst es) v (.lst xs) → l.den η.ρ = .lst xs → n.den η.ρ = .int .i64 xs.length → sizeT P e = es.length → (∀ e ∈ subObs n el eh em, EvOK P G η.ρ e) →
              ∃ u, (Instr.sliceAt T v vlo vhi vmx).run P w = .ok u w ∧ Rep M (.lst es) u ((mkSub l n el eh).den η.ρ) := by
            intro M v es l n xs hr hlx hn hsz hob
            obtain ⟨ad, cap, rfl, hcap, hsub⟩ := sub_rep hr
            obtain ⟨L, H, m, hrun, b1, b2, b3, b4, b5, b6⟩ := bounds_run (P := P) (w := w) hl hh hm hmh' hn hcap hob true
            refine ⟨_, ?_, by rw [mkSub_den hl hh hlx hn b5 b6]; exact hsub L H m b1 b2 b3 b4⟩
            simp only [Instr.sliceAt, Sem.run_bind, run_underlying hu, Result.andThen_ok, Instr.slice, hrun, sz_of_info (w := w) hinfo', hsz, Sem.run_pure]
          split at h
          · -- 's[:0:0]'
            rename_i hz
            simp only [zeroHi, Bool.and_eq_true] at hz
            have z1 := zeroE_opt hh hz.1.1
            have z2 := zeroE_opt hm hz.1.2
            have z3 := zeroLo_opt hl hz.2
            have hval : ∃ ad n cp, x = .slice ad n cp ∧ ∃ r : AV, out = ⟨some r, [], []⟩ ∧ ∃ es, r = .v (.c (.nilS es)) := by
              split at h
              · rename_i es l
                split at h
                · simp only [Option.some.injEq] at h
                  have hr := AbsT_c (show AbsT η M (.c (.d (.lst es) l)) x from hX)
                  simp only [AbsA] at hr
                  rw [Rep_lst] at hr
                  obtain ⟨xs, _, _, hr⟩ := hr
                  rcases hr with ⟨rfl, _⟩ | ⟨b, off, sp, cap, rfl, _⟩
                  · exact ⟨_, _, _, rfl, _, h.symm, _, rfl⟩
                  · exact ⟨_, _, _, rfl, _, h.symm, _, rfl⟩
                · cases h
              · simp only [Option.some.injEq] at h
                obtain ⟨ad, rfl⟩ := AbsT_c (show AbsT η M (.c (.nilS _)) x from hX)
                exact ⟨_, _, _, rfl, _, h.symm, _, rfl⟩
              · rename_i j es n
                simp only [Option.some.injEq] at h
                obtain ⟨b, cc, m, _, _, _, _, h5⟩ := AbsT_c (show AbsT η M (.c (.row j es n)) x from hX)
                rcases h5 with ⟨_, rfl⟩ | ⟨_, ad, rfl⟩
                · exact ⟨_, _, _, rfl, _, h.symm, _, rfl⟩
                · exact ⟨_, _, _, rfl, _, h.symm, _, rfl⟩
              · cases h
            obtain ⟨ad, n, cp, rfl, r, rfl, es, rfl⟩ := hval
            subst z1 z2
            have b0 : ∀ (k : IntKind) (y : Nat) (cd : BoundsCode), (Instr.sliceBound (.int k 0) y cd).run P w = .ok 0 w := fun k y cd => by
              have := run_bound (P := P) (w := w) (k := k) (i := 0) (y := y) (cd := cd) ⟨by omega, by omega⟩
              simpa using this
            have hb : (Instr.sliceBounds true n cp vlo vhi vmx).run P w = .ok (0, 0, 0) w := by
              cases hh with
              | some hh =>
                cases hm with
                | some hm =>
                  cases hl with
                  | none => simp only [Instr.sliceBounds, Sem.run_bind, Sem.run_pure, Result.andThen_ok, b0]
                  | some hl =>
                    simp only [Option.getD_some] at z3
                    subst z3
                    simp only [Instr.sliceBounds, Sem.run_bind, Sem.run_pure, Result.andThen_ok, b0]
            refine done_pure hw (v := .slice ad 0 0) ?_ rfl mk_nil
            simp only [Instr.sliceAt, Sem.run_bind, run_underlying hu, Result.andThen_ok, Instr.slice, hb, sz_of_info (w := w) hinfo', Sem.run_pure]
            simp
          split at h
          · rename_i es l
            split at h
            · rename_i hsz
              simp only [Option.some.injEq] at h
              subst h
              have hr := AbsT_c (show AbsT η M (.c (.d (.lst es) l)) x from hX)
              simp only [AbsA] at hr
              obtain ⟨xs, hxs⟩ : ∃ xs, l.den η.ρ = .lst xs := by
                have := hr; rw [Rep_lst] at this; obtain ⟨xs, h, _⟩ := this; exact ⟨xs, h⟩
              rw [hxs] at hr
              obtain ⟨u, h1, h2⟩ := core hr hxs (by rw [den_lenE]; simp [E.den, hxs, D.len]) hsz hev
              exact done_pure hw h1 rfl (mk_lst h2)
            · cases h
          · rename_i es
            simp only [Option.some.injEq] at h
            subst h
            obtain ⟨ad, rfl⟩ := AbsT_c (show AbsT η M (.c (.nilS es)) x from hX)
            obtain ⟨L, H, m, hrun, b1, b2, b3, b4, b5, b6⟩ := bounds_run (P := P) (w := w) (n := 0) (c := 0) hl hh hm hmh' (ne := .ki .i64 0) rfl (by omega) hev true
            have hL : L = 0 := by omega
            have hH : H = 0 := by omega
            have hm0 : m = 0 := by omega
            subst hL hH hm0
            refine done_pure hw (v := .slice ad 0 0) ?_ rfl mk_nil
            simp only [Instr.sliceAt, Sem.run_bind, run_underlying hu, Result.andThen_ok, Instr.slice, hrun, sz_of_info (w := w) hinfo', Sem.run_pure]
            simp
          · rename_i j es n
            split at h
            · rename_i es' l fr hB
              split at h
              · rename_i hc
                simp only [Bool.and_eq_true, decide_eq_true_eq] at hc
                rw [hcB] at hB
                have hj := getD_some hB (by simp)
                have hes := Sh.sames_eq _ _ hc.1.1
                subst hes
                have hn2 := E.same_eq _ _ hc.1.2
                split at h
                · -- 's[:0]' of a row of one's own
                  rename_i hz
                  simp only [Bool.and_eq_true, Bool.not_eq_true'] at hz
                  obtain ⟨⟨⟨z1, z2⟩, z3⟩, rfl⟩ := hz
                  simp only [Option.some.injEq] at h
                  subst h
                  have z1 := zeroE_opt hh z1
                  subst z1
                  obtain ⟨b, cc, m, g1, g2, g3, g4, g5⟩ := AbsT_c (show AbsT η M (.c (.row j es n)) x from hX)
                  have hval : ∃ ad k, x = .slice ad k cc ∧ k ≤ cc ∧ ((0 < cc ∧ ad = some ⟨b, 0, none⟩) ∨ cc = 0) := by
                    rcases g5 with ⟨h0, rfl⟩ | ⟨rfl, ad, rfl⟩
                    · exact ⟨_, m, rfl, g3, .inl ⟨h0, rfl⟩⟩
                    · exact ⟨ad, 0, rfl, by omega, .inr rfl⟩
                  obtain ⟨ad, kk, rfl, hkc, had⟩ := hval
                  have hb : (Instr.sliceBounds true kk cc vlo vhi vmx).run P w = .ok (0, 0, cc) w := by
                    have b0 : ∀ (k : IntKind) (y : Nat) (cd : BoundsCode), (Instr.sliceBound (.int k 0) y cd).run P w = .ok 0 w := fun k y cd => by
                      have := run_bound (P := P) (w := w) (k := k) (i := 0) (y := y) (cd := cd) ⟨by omega, by omega⟩
                      simpa using this
                    cases hl with
                    | some _ => simp at z2
                    | none =>
                      cases hm with
                      | some _ => simp at z3
                      | none =>
                        cases hh with
                        | some hh => simp only [Instr.sliceBounds, Sem.run_bind, Sem.run_pure, Result.andThen_ok, b0]
                  obtain ⟨b', c', xs, k1, k2, k3, k4, k5⟩ := hw.blk j _ hj
                  rw [g1] at k1
                  cases k1
                  have hwr : WR Z η M (blks.set j (.row es .nil false)) w := hw.place (Env.le.refl _) (List.getElem?_eq_some_iff.1 hj).1 (fun _ _ => rfl) g1 (fun hp0 i C q hC hCd hq hq0 e => by
                      rw [List.getElem?_set] at hC
                      by_cases ee : j = i
                      · subst ee
                        simp [(List.getElem?_eq_some_iff.1 hj).1] at hC
                        exact hCd hC.symm
                      · rw [if_neg ee] at hC
                        exact ee (hw.inj i j C _ q (b, cc) hC hj hCd (by simp) hq g1 hq0 hp0 e).symm)
                    ⟨b, cc, [], g1, rfl, by simp, k4, fun h0 => by
                      obtain ⟨q1, vs, T', q2, q3, q4, q5, q6⟩ := k5 h0
                      exact ⟨q1, vs, T', q2, q3, q4, fun i x hx => by simp at hx, fun o => by rw [q6]; simp⟩⟩
                  refine ⟨.slice (if cc = 0 then ad else ad.map (·.add (0 * sizeT P e))) (0 - 0) (cc - 0), w, η, M, _, ?_, Env.le.refl _, Mem.le.refl _, hwr, rfl, AbsT_mk (a := .row j es (lenE E.nil)) ?_ rfl⟩
                  · simp only [Instr.sliceAt, Sem.run_bind, run_underlying hu, Result.andThen_ok, Instr.slice, hb, sz_of_info (w := w) hinfo', Sem.run_pure]
                  · refine ⟨b, cc, 0, g1, rfl, by omega, k4, ?_⟩
                    rcases had with ⟨h0, rfl⟩ | rfl
                    · refine .inl ⟨h0, ?_⟩
                      rw [if_neg (by omega)]
                      simp [add_mk]
                    · exact .inr ⟨rfl, ad, by simp⟩
                simp only [Option.some.injEq] at h
                subst h
                obtain ⟨M', m1, w1⟩ := hw.freeze hj
                have hlt : j < blks.length := (List.getElem?_eq_some_iff.1 hj).1
                have hr : Rep M' (.lst es) x (l.den η.ρ) := by
                  refine toD_sound w1 (blks0 := blks) (a := .row j es n) (s := .lst es) (e := l) ?_ ?_ ((AbsT_c (show AbsT η M (.c (.row j es n)) x from hX)).mono (Env.le.refl _) m1)
                  · have hB' : blks.getD j .dead = .row es l fr := hB
                    simp only [A.toD, hB', hc.1.1, hc.1.2, Bool.and_self, if_true]
                  · intro j' hj'
                    simp [A.rows] at hj'
                    subst hj'
                    exact ⟨es, l, fr, hB, by rw [List.getElem?_set, if_pos rfl, if_pos hlt]⟩
                obtain ⟨xs, hxs⟩ : ∃ xs, l.den η.ρ = .lst xs := by
                  have := hr; rw [Rep_lst] at this; obtain ⟨xs, h, _⟩ := this; exact ⟨xs, h⟩
                rw [hxs] at hr
                obtain ⟨u, h1, h2⟩ := core hr hxs (by rw [← hn2, den_lenE]; simp [E.den, hxs, D.len]) hc.2 hev
                refine ⟨u, w, η, M', _, h1, Env.le.refl _, m1, ?_, rfl, mk_lst h2⟩
                cases fr with
                | true => rw [set_same hj] at w1; exact w1
                | false => exact w1
              · cases h
            · cases h
          · cases h
      · rename_i hu
        split at h
        · rename_i s
          split at h
          · cases h
          · rename_i hmx
            simp only [Option.some.injEq] at h
            subst h
            obtain ⟨sv, rfl, hs, hsm⟩ := abs_str (show AbsT η M (.c (.d .str s)) x from hX)
            cases hm with
            | some _ => simp at hmx
            | none =>
              obtain ⟨L, H, m, hrun, b1, b2, b3, b4, b5, b6⟩ := bounds_run (P := P) (w := w) (n := sv.size) (c := sv.size) hl hh .none (by simp) (ne := .len s) (by simp [E.den, hs, D.len]) (by omega) hev false
              have hsize : (sv.extract L H).size ≤ maxLen := by
                rw [ByteArray.size_extract]; omega
              refine done_pure hw (v := .string (sv.extract L H)) ?_ rfl (mk_str ?_ hsize)
              · simp only [Instr.sliceAt, Sem.run_bind, run_underlying hu, Result.andThen_ok, Instr.slice, Option.isSome_none, Bool.false_eq_true, if_false, hrun, Sem.run_pure]
              · split
                · cases hl
                  cases hh
                  simp at b5 b6
                  rw [hs, show L = 0 by omega, show H = sv.size by omega]
                  simp
                · have g1 := hl.getD (d := .ki .i64 0) (m := 0) rfl
                  have g2 := hh.getD (d := .len s) (m := sv.size) (by simp [E.den, hs, D.len, D.toI])
                  simp only [E.den, hs, D.toS, g1, g2]
                  rw [← b5, ← b6]; simp
        · cases h
      · cases h
  · cases h

theorem scalL_abs : ∀ {l : List A} {s : Sh} {es : List E} {vs : List Value}, scalL l = some (s, es) → AbsL η M l vs → ∀ i, i < es.length → ∃ v, vs[i]? = some v ∧ One v ∧ Rep M s v ((es.map (·.den η.ρ)).getD i default)
  | [], s, es, vs, h, _, i, hi => by simp [scalL] at h
  | a :: l, s, es, vs, h, hv, i, hi => by
    cases a with
    | d s0 e =>
      cases hv with
      | cons h1 h2 h3 =>
        simp only [scalL] at h
        split at h
        · rename_i s' es' hs
          split at h
          · rename_i hss
            have e1 := Sh.same_eq _ _ hss
            subst e1
            cases h
            cases i with
            | zero => exact ⟨_, rfl, h2, h1⟩
            | succ i => exact scalL_abs hs h3 i (by simpa using hi)
          · cases h
        · split at h
          · cases h
            cases i with
            | zero => exact ⟨_, rfl, h2, h1⟩
            | succ i => simp at hi
          · cases h
    | _ => simp [scalL] at h
theorem indexA_sound {c : Ctx} (hcP : c.P = P) {T : TypeId} {X Y : AV} {out : Out} (h : indexA c T X Y = some out) {x y : Value} (hX : AbsV η M X x) (hY : AbsV η M Y y) (hev : ∀ e ∈ out.evs, EvOK P G η.ρ e) :
    ∃ v r, (Instr.index T x y).run P w = .ok v w ∧ out = ⟨some r, [], out.evs⟩ ∧ AbsV η M r v := by
  unfold indexA at h
  rw [hcP] at h
  split at h
  · rename_i s k e hu hi
    simp only [ret1, Option.some.injEq] at h
    subst h
    obtain ⟨sv, rfl, hs, hsm⟩ := abs_str (show AbsT η M (.c (.d .str s)) x from hX)
    obtain ⟨n, rfl, hn, _⟩ := intOf1_abs' hi hY
    obtain ⟨o1, o2⟩ := idxObs_ok hn (y := sv.size) (by simp [E.den, hs, D.len]) hev
    have hlt : n.toNat < sv.size := by omega
    have hlen2 : sv.data.toList.length = sv.size := by rw [Array.length_toList]; rfl
    have hlt2 : n.toNat < sv.data.toList.length := by omega
    refine ⟨.int .u8 (sv.data.toList[n.toNat]).toNat, _, ?_, rfl, mk_int ?_ ?_ ?_⟩
    · have : sv[n.toNat]? = some (sv.data.toList[n.toNat]) := by
        rw [getElem?_pos sv n.toNat hlt]; rfl
      simp only [Instr.index, asIntOf, Sem.run_bind, Sem.run_pure, Result.andThen_ok, run_underlying hu, o1, if_true, this]
    · simp only [E.den, hs, hn, D.toS, D.toI, List.getD_eq_getElem?_getD, List.getElem?_eq_getElem hlt2, Option.getD_some]
    · have hmin : IntKind.u8.min = 0 := by decide
      omega
    · have hmax : IntKind.u8.max = 255 := by decide
      have hlt3 := (sv.data.toList[n.toNat]).toNat_lt
      omega
  · rename_i len e l k0 k m hu hi
    split at h
    · rename_i hc
      have hu' : ∃ d, P.underlying e = some d := by cases hd : P.underlying e with | none => simp [hd] at hc | some d => exact ⟨d, rfl⟩
      obtain ⟨n, rfl, hn, _⟩ := intOf1_abs' hi hY
      simp [E.den] at hn
      obtain ⟨rfl, rfl⟩ := hn
      have hX' : AbsT η M (.g l) x := hX
      obtain ⟨vs, rfl, hvs⟩ := hX'
      have hrun : ∀ v, (part e vs.toArray (m * sizeT P e)).run P w = .ok v w → (Instr.index T (.agg vs.toArray) (.int k m)).run P w = .ok v w := by
        intro v hp
        have hlt : (m : Int) < len := by omega
        have h0 : (0 : Int) ≤ m := by omega
        simp only [Instr.index, asIntOf, Sem.run_bind, Sem.run_pure, Result.andThen_ok, run_underlying hu, h0, hlt, and_self, if_true, run_sizeT hu', Int.toNat_natCast, hp]
      split at h
      · rename_i hT
        split at h
        · rename_i hsz
          simp only [Option.some.injEq] at h
          subst h
          obtain ⟨df, hdf⟩ := hu'
          exact ⟨_, _, hrun _ (part_agg hT (info_of_under hdf)), rfl, ⟨_, rfl, (hvs.drop _).take _⟩⟩
        · cases h
      · rename_i hT
        split at h
        · rename_i a ha
          simp only [ret1, Option.some.injEq] at h
          subst h
          obtain ⟨u, g1, g2, g3⟩ := hvs.get _ _ ha
          exact ⟨_, _, hrun _ (part_one (by simpa using hT) hu' g1), rfl, AbsT_mk g2 g3⟩
        · cases h
    · cases h
  · rename_i len e l k0 ie _ hu hi
    split at h
    · rename_i s es hs
      split at h
      · rename_i hc
        obtain ⟨c1, c2, c3, c4, c5⟩ := hc
        simp only [ret1, Option.some.injEq] at h
        subst h
        have hu' : ∃ d, P.underlying e = some d := by cases hd : P.underlying e with | none => simp [hd] at c2 | some d => exact ⟨d, rfl⟩
        obtain ⟨n, rfl, hn, _⟩ := intOf1_abs' hi hY
        have hX' : AbsT η M (.g l) x := hX
        obtain ⟨vs, rfl, hvs⟩ := hX'
        obtain ⟨o1, o2⟩ := idxObs_ok hn (y := (len : Int)) rfl hev
        obtain ⟨v, g1, g2, g3⟩ := scalL_abs hs hvs n.toNat (by omega)
        have hp : (part e vs.toArray (n.toNat * sizeT P e)).run P w = .ok v w := by
          rw [c1, Nat.mul_one]
          exact part_one c3 hu' g1
        refine ⟨v, _, ?_, rfl, AbsT_mk (a := .d s (.get (consE es) ie)) ?_ g2⟩
        · simp only [Instr.index, asIntOf, Sem.run_bind, Sem.run_pure, Result.andThen_ok, run_underlying hu, o1, o2, and_self, if_true, run_sizeT hu', hp]
        · show Rep M s v ((E.get (consE es) ie).den η.ρ)
          simp only [E.den, consE_den, hn, D.toL, D.toI]
          exact g3
      · cases h
    · cases h
  · cases h

theorem foldl_fill (off : Nat) : ∀ (us : List Value) (k : Nat) (cells : Array Value), ((us.zipIdx k).foldl (fun cs (p : Value × Nat) => cs.setIfInBounds (off + p.2) p.1) cells).toList = setVs cells.toList (off + k) us
  | [], k, cells => rfl
  | u :: us, k, cells => by
    simp only [List.zipIdx_cons, List.foldl_cons, setVs]
    rw [foldl_fill off us (k + 1)]
    simp [Nat.add_assoc]
theorem fill_sound {c : Ctx} {T : TypeId} {a : Act} (hx : ∀ q, AbsV η M (c.x q) (a.eval q)) (place : Nat → Option (Nat × Nat)) (hp : ∀ i off ty, partOf c.P T i = some (off, ty) → place i = some (off, sizeT c.P ty)) :
    ∀ (parts : List (Nat × Operand)) (l l' : List A) (cells : Array Value), fillA c T l parts = some l' → AbsL η M l cells.toList → ∃ cells', Instr.fill place cells (parts.map fun p => (p.1, a.eval p.2)) = some cells' ∧ AbsL η M l' cells'.toList
  | [], l, l', cells, h, hl => by
    simp only [fillA, Option.some.injEq] at h
    subst h
    exact ⟨cells, rfl, hl⟩
  | (i, q) :: rest, l, l', cells, h, hl => by
    simp only [fillA] at h
    split at h
    · rename_i off ty hpo
      split at h
      · rename_i t ht
        split at h
        · rename_i as has
          split at h
          · rename_i hc
            obtain ⟨c1, c2⟩ := hc
            have hv : AbsT η M t (a.eval q) := by
              have := fixA_abs (P := c.P) (T := ty) (hx q)
              rw [ht] at this
              exact this
            have hcs := as_cells has hv
            have hlen := hcs.length
            have hll := hl.length
            simp only [Array.length_toList] at hlen hll
            obtain ⟨cells', g1, g2⟩ := fill_sound hx place hp rest _ l' ((a.eval q).cells.zipIdx.foldl (fun cs (p : Value × Nat) => cs.setIfInBounds (off + p.2) p.1) cells) h (by
              have := foldl_fill off (a.eval q).cells.toList 0 cells
              rw [← Array.foldl_toList, Array.toList_zipIdx, this, Nat.add_zero]
              exact hl.setAs off hcs)
            refine ⟨cells', ?_, g2⟩
            simp only [List.map_cons, Instr.fill, hp i off ty hpo]
            rw [if_neg (by simp; omega)]
            exact g1
          · cases h
        · cases h
      · cases h
    · cases h
theorem mapM_places {w : World} : ∀ (l : List Field), (∀ f ∈ l, (P.underlying f.type).isSome = true) → (l.mapM fun f => (do pure (f.offset, ← sizeOf f.type) : Sem (Nat × Nat))).run P w = .ok (l.map fun f => (f.offset, sizeT P f.type)) w
  | [], _ => rfl
  | f :: l, h => by
    have h1 := h f (by simp)
    obtain ⟨d, hd⟩ := Option.isSome_iff_exists.1 h1
    have h2 := mapM_places (w := w) l fun g hg => h g (by simp [hg])
    rw [List.mapM_cons]
    simp only [Sem.run_bind, run_sizeT ⟨d, hd⟩, Result.andThen_ok, Sem.run_pure, h2, List.map_cons]
theorem buildA_sound {c : Ctx} (hcP : c.P = P) {a : Act} (hx : ∀ q, AbsV η M (c.x q) (a.eval q)) {T : TypeId} {parts : Array (Nat × Operand)} {out : Out} (h : buildA c T parts = some out) (hw : WR Z η M blks w) :
    Done P Z η M blks w (Instr.build T (parts.map fun p => (p.1, a.eval p.2))) out := by
  subst hcP
  unfold buildA at h
  split at h
  · rename_i hpb
    split at h
    · rename_i z hz
      split at h
      · rename_i l hzl
        split at h
        · rename_i l' hf
          simp only [Option.some.injEq] at h
          obtain ⟨i, hi, hz'⟩ := Option.bind_eq_some_iff.1 hz
          have hzero : (zeroValue T).run c.P w = .ok z w := by simp [zeroValue, typeInfo, hi, hz']
          have hza := zeroAs_abs (η := η) (M := M) hzl
          unfold partsB at hpb
          split at hpb
          · rename_i fs hu
            obtain ⟨cells', g1, g2⟩ := fill_sound hx (fun i => ((fs.toList.map fun f => (f.offset, sizeT c.P f.type)).toArray)[i]?) (fun i off ty hp => by
              unfold partOf at hp
              rw [hu] at hp
              simp only [Option.map_eq_some_iff, Prod.mk.injEq] at hp
              obtain ⟨f, hf, rfl, rfl⟩ := hp
              simp [hf]) parts.toList l l' z.cells hf hza
            refine done_pure hw (v := .agg cells') (r := .v (.g l')) (evs := []) ?_ h.symm ⟨cells'.toList, by simp, g2⟩
            have hm := mapM_places (P := c.P) (w := w) fs.toList (fun f hf => List.all_eq_true.1 hpb f hf)
            simp only [Instr.build, Sem.run_bind, hzero, Result.andThen_ok, run_underlying hu]
            rw [Array.mapM_eq_mapM_toList]
            simp only [Sem.run_map, hm]
            simp only [Result.andThen_ok, Array.toList_map]
            simp only [g1]
            rfl
          · rename_i k e hu
            obtain ⟨d, hd⟩ := Option.isSome_iff_exists.1 hpb
            obtain ⟨cells', g1, g2⟩ := fill_sound hx (fun i => some (i * sizeT c.P e, sizeT c.P e)) (fun i off ty hp => by
              unfold partOf at hp
              rw [hu] at hp
              simp at hp
              obtain ⟨rfl, rfl⟩ := hp
              rfl) parts.toList l l' z.cells hf hza
            refine done_pure hw (v := .agg cells') (r := .v (.g l')) (evs := []) ?_ h.symm ⟨cells'.toList, by simp, g2⟩
            simp only [Instr.build, Sem.run_bind, hzero, Result.andThen_ok, run_underlying hu, run_sizeT ⟨d, hd⟩, Array.toList_map, g1]
            rfl
          · cases hpb
        · cases h
      · cases h
    · cases h
  · cases h
end

end Go.Proofs.Ytindphofgojfbaa.Sy
