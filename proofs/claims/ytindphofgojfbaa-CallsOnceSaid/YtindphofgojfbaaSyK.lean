/-
  A part of a symbolic walk that is proved sound: what the functions of a program do with data. No conditions.
-/
import Derived.Test.YtindphofgojfbaaSyJ
set_option linter.unusedSimpArgs false
set_option linter.unusedVariables false
namespace Go.Proofs.Ytindphofgojfbaa.Sy
open Go.RowKit
section
variable {η : Env} {M : Mem} {P : Program} {G : Globs} {w : World}

theorem bin_run_bool_eq {xT : TypeId} (hu : P.underlying xT = some .bool) (p q : Operand) (a b : Bool) :
    (do eqGuard .eql xT p q (.bool a) (.bool b); binOp .eql xT (.bool a) (.bool b) : Sem Value).run P w = .ok (.bool (a == b)) w := by
  simp [eqGuard, binOp, Op.equal, Op.maxDepth, run_equalIn_bool' w 9999 xT a b hu]
theorem bin_run_bool_ne {xT : TypeId} (hu : P.underlying xT = some .bool) (p q : Operand) (a b : Bool) :
    (do eqGuard .neq xT p q (.bool a) (.bool b); binOp .neq xT (.bool a) (.bool b) : Sem Value).run P w = .ok (.bool (!(a == b))) w := by
  simp [eqGuard, binOp, Op.equal, Op.maxDepth, run_equalIn_bool' w 9999 xT a b hu]
theorem bin_run_agg_eq {xT : TypeId} (hg : P.eqGuardType P.depth xT = false) (p q : Operand) (a b : Array Value) {r : Bool} (h : (Op.equalIn 10000 xT (.agg a) (.agg b)).run P w = .ok r w) :
    (do eqGuard .eql xT p q (.agg a) (.agg b); binOp .eql xT (.agg a) (.agg b) : Sem Value).run P w = .ok (.bool r) w := by
  simp only [Sem.run_bind, run_eqGuard_agg w .eql xT p q a b hg, Result.andThen_ok, run_eql_struct, h]
theorem bin_run_agg_ne {xT : TypeId} (hg : P.eqGuardType P.depth xT = false) (p q : Operand) (a b : Array Value) {r : Bool} (h : (Op.equalIn 10000 xT (.agg a) (.agg b)).run P w = .ok r w) :
    (do eqGuard .neq xT p q (.agg a) (.agg b); binOp .neq xT (.agg a) (.agg b) : Sem Value).run P w = .ok (.bool !r) w := by
  simp only [Sem.run_bind, run_eqGuard_agg w .neq xT p q a b hg, Result.andThen_ok, run_neq_struct, h]
theorem bin_run_str {op : BinOp} {a b : ByteArray} {r : Bool} (h : (op = .eql ∧ r = (a.toList == b.toList)) ∨ (op = .neq ∧ r = !(a.toList == b.toList)) ∨ (op = .lss ∧ r = Op.bytesLess a.toList b.toList)) (xT : TypeId) (p q : Operand) :
    (do eqGuard op xT p q (.string a) (.string b); binOp op xT (.string a) (.string b) : Sem Value).run P w = .ok (.bool r) w := by
  rcases h with ⟨rfl, rfl⟩ | ⟨rfl, rfl⟩ | ⟨rfl, rfl⟩ <;> simp [eqGuard, binOp, Op.stringOp]

theorem bin_run_nil {xT e : TypeId} (hu : P.underlying xT = some (.slice e)) (p q : Operand) (a : Option Addr) (n c : Nat) :
    (do eqGuard .eql xT p q (.slice a n c) (.slice none 0 0); binOp .eql xT (.slice a n c) (.slice none 0 0) : Sem Value).run P w = .ok (.bool a.isNone) w := by
  have key : (Op.equalIn 10000 xT (.slice a n c) (.slice none 0 0)).run P w = .ok a.isNone w := by
    unfold Op.equalIn
    cases a <;> simp [run_underlying hu]
  simp [eqGuard, binOp, Op.equal, Op.maxDepth, key]
theorem binA_sound {op : BinOp} {xT : TypeId} {X Y : AV} {out : Out} (h : binA P op xT X Y = some out) {x y : Value} (hx : AbsV η M X x) (hy : AbsV η M Y y) (hev : ∀ e ∈ out.evs, EvOK P G η.ρ e) (p q : Operand) :
    ∃ v r, (do eqGuard op xT p q x y; binOp op xT x y : Sem Value).run P w = .ok v w ∧ out.res = some r ∧ out.upd = [] ∧ AbsV η M r v := by
  unfold binA at h
  split at h
  · rename_i k a k' b
    have hx' : AbsT η M (.c (.d (.int k) a)) x := hx
    have hy' : AbsT η M (.c (.d (.int k') b)) y := hy
    obtain ⟨m, rfl, hm, m1, m2⟩ := abs_int hx'
    obtain ⟨n, rfl, hn, n1, n2⟩ := abs_int hy'
    have case_ar : ∀ (hop : op = .add ∨ op = .sub ∨ op = .mul ∨ op = .and ∨ op = .or ∨ op = .xor ∨ op = .andNot ∨ ((op = .quo ∨ op = .rem) ∧ n ≠ 0)) (evs : List Ev), k = k' → ret1 (.d (.int k) (mkAr op k a b)) evs = some out →
        ∃ v r, (do eqGuard op xT p q (.int k m) (.int k' n); binOp op xT (.int k m) (.int k' n) : Sem Value).run P w = .ok v w ∧ out.res = some r ∧ out.upd = [] ∧ AbsV η M r v := by
      intro hop evs hk hh
      subst hk
      simp only [ret1, Option.some.injEq] at hh
      subst hh
      exact ⟨_, _, ar_run hop xT p q, rfl, rfl, mk_int (by rw [den_mkAr]; simp [E.den, hm, hn, D.toI]) (ar_range m1 m2).1 (ar_range m1 m2).2⟩
    have case_cmp : ∀ (hop : op = .eql ∨ op = .neq ∨ op = .lss ∨ op = .leq ∨ op = .gtr ∨ op = .geq), (if k = k' then ret1 (.d .bool (mkCmp op a b)) else none) = some out →
        ∃ v r, (do eqGuard op xT p q (.int k m) (.int k' n); binOp op xT (.int k m) (.int k' n) : Sem Value).run P w = .ok v w ∧ out.res = some r ∧ out.upd = [] ∧ AbsV η M r v := by
      intro hop hh
      split at hh
      · rename_i hk
        subst hk
        simp only [ret1, Option.some.injEq] at hh
        subst hh
        exact ⟨_, _, cmp_run hop xT p q, rfl, rfl, mk_bool (by rw [den_mkCmp]; simp [E.den, hm, hn, D.toI])⟩
      · cases hh
    have case_shf : ∀ (hop : op = .shl ∨ op = .shr), ret1 (.d (.int k) (mkShf op k a b)) (if k'.signed = true then obs (mkCmp .geq b (.ki k' 0)) else []) = some out →
        ∃ v r, (do eqGuard op xT p q (.int k m) (.int k' n); binOp op xT (.int k m) (.int k' n) : Sem Value).run P w = .ok v w ∧ out.res = some r ∧ out.upd = [] ∧ AbsV η M r v := by
      intro hop hh
      simp only [ret1, Option.some.injEq] at hh
      subst hh
      have hn0 : 0 ≤ n := by
        by_cases hs : k'.signed = true
        · simp only [hs, if_true] at hev
          have := obs_ok hev
          rw [den_mkCmp] at this
          simp [E.den, hn, D.toI, cmpB] at this
          exact this
        · have : k'.min = 0 := by cases k' <;> simp_all [IntKind.signed, IntKind.min]
          omega
      refine ⟨_, _, shf_run hop hn0 xT p q, rfl, rfl, ?_⟩
      have hr : k.min ≤ shI op k m n ∧ shI op k m n ≤ k.max := by
        rcases hop with rfl | rfl <;> simp only [shI]
        · exact wrap_within _ _
        · exact fdiv_range m1 m2
      exact mk_int (by rw [den_mkShf]; simp [E.den, hm, hn, D.toI]) hr.1 hr.2
    have case_div : ∀ (hop : op = .quo ∨ op = .rem), (if k = k' then ret1 (.d (.int k) (mkAr op k a b)) (obs (mkCmp .neq b (.ki k 0))) else none) = some out →
        ∃ v r, (do eqGuard op xT p q (.int k m) (.int k' n); binOp op xT (.int k m) (.int k' n) : Sem Value).run P w = .ok v w ∧ out.res = some r ∧ out.upd = [] ∧ AbsV η M r v := by
      intro hop hh
      split at hh
      · rename_i hk
        have hn0 : n ≠ 0 := by
          simp only [ret1, Option.some.injEq] at hh
          subst hh
          have := obs_ok hev
          rw [den_mkCmp] at this
          simp [E.den, hn, D.toI, cmpB] at this
          exact this
        exact case_ar (by simp [hop, hn0]) _ hk hh
      · cases hh
    have case_ar' : ∀ (hop : op = .add ∨ op = .sub ∨ op = .mul ∨ op = .and ∨ op = .or ∨ op = .xor ∨ op = .andNot), (if k = k' then ret1 (.d (.int k) (mkAr op k a b)) else none) = some out →
        ∃ v r, (do eqGuard op xT p q (.int k m) (.int k' n); binOp op xT (.int k m) (.int k' n) : Sem Value).run P w = .ok v w ∧ out.res = some r ∧ out.upd = [] ∧ AbsV η M r v := by
      intro hop hh
      split at hh
      · rename_i hk
        exact case_ar (by rcases hop with h | h | h | h | h | h | h <;> simp [h]) _ hk hh
      · cases hh
    cases op <;> simp only [] at h
    all_goals first
      | exact case_shf (by simp) h
      | exact case_ar' (by simp) h
      | exact case_div (by simp) h
      | exact case_cmp (by simp) h
  · rename_i a b
    have hx' : AbsT η M (.c (.d .bool a)) x := hx
    have hy' : AbsT η M (.c (.d .bool b)) y := hy
    obtain ⟨m, rfl, hm⟩ := abs_bool hx'
    obtain ⟨n, rfl, hn⟩ := abs_bool hy'
    split at h
    · rename_i hu
      simp only [ret1, Option.some.injEq] at h
      subst h
      exact ⟨_, _, bin_run_bool_eq hu p q m n, rfl, rfl, mk_bool (by rw [den_mkBeq]; simp [E.den, hm, hn, D.toB])⟩
    · rename_i hu
      simp only [ret1, Option.some.injEq] at h
      subst h
      exact ⟨_, _, bin_run_bool_ne hu p q m n, rfl, rfl, mk_bool (by rw [den_mkNot]; simp [E.den, den_mkBeq, hm, hn, D.toB])⟩
    · cases h
  · rename_i a b
    have hx' : AbsT η M (.c (.d .str a)) x := hx
    have hy' : AbsT η M (.c (.d .str b)) y := hy
    obtain ⟨m, rfl, hm, m1⟩ := abs_str hx'
    obtain ⟨n, rfl, hn, n1⟩ := abs_str hy'
    split at h
    · simp only [ret1, Option.some.injEq] at h
      subst h
      have := hev _ (List.mem_singleton.2 rfl)
      simp only [EvOK] at this
      simp [E.den, hm, hn, D.toI, D.len, cmpB, arI] at this
      have hsz : m.size + n.size ≤ maxLen := by
        unfold maxLen at *
        rcases Nat.lt_or_ge (m.size + n.size) (2 ^ 63) with hlt | hge
        · omega
        · exfalso
          simp [IntKind.wrap, IntKind.bits, IntKind.signed] at this
          split at this <;> omega
      refine ⟨.string (m ++ n), _, ?_, rfl, rfl, mk_str (by simp [E.den, hm, hn, D.toS]) (by simpa using hsz)⟩
      have e1 : IntKind.i64.max = 9223372036854775807 := by decide
      have e2 : (m.size : Int) + n.size ≤ IntKind.i64.max := by rw [e1]; unfold maxLen at hsz; omega
      simp [eqGuard, binOp, Op.stringOp]
      omega
    · simp only [ret1, Option.some.injEq] at h
      subst h
      exact ⟨_, _, bin_run_str (.inl ⟨rfl, rfl⟩) xT p q, rfl, rfl, mk_bool (by simp [E.den, hm, hn, D.toS])⟩
    · simp only [ret1, Option.some.injEq] at h
      subst h
      exact ⟨_, _, bin_run_str (.inr (.inl ⟨rfl, rfl⟩)) xT p q, rfl, rfl, mk_bool (by rw [den_mkNot]; simp [E.den, hm, hn, D.toS, D.toB])⟩
    · simp only [ret1, Option.some.injEq] at h
      subst h
      exact ⟨_, _, bin_run_str (.inr (.inr ⟨rfl, rfl⟩)) xT p q, rfl, rfl, mk_bool (by simp [E.den, hm, hn, D.toS])⟩
    · cases h
  · rename_i l l'
    have hx' : AbsT η M (.g l) x := hx
    have hy' : AbsT η M (.g l') y := hy
    obtain ⟨vs, rfl, hvs⟩ := hx'
    obtain ⟨vs', rfl, hvs'⟩ := hy'
    split at h
    · split at h
      · rename_i hg
        split at h
        · rename_i e he
          simp only [ret1, Option.some.injEq] at h
          subst h
          obtain ⟨b, hb, hr⟩ := eqT_sound (w := w) 10 10000 xT l l' e vs vs' _ _ (by omega) he hvs hvs' (by rw [if_pos hg.1]; exact ⟨rfl, rfl⟩)
          exact ⟨_, _, bin_run_agg_eq hg.2 p q _ _ hr, rfl, rfl, mk_bool hb⟩
        · cases h
      · cases h
    · split at h
      · rename_i hg
        split at h
        · rename_i e he
          simp only [ret1, Option.some.injEq] at h
          subst h
          obtain ⟨b, hb, hr⟩ := eqT_sound (w := w) 10 10000 xT l l' e vs vs' _ _ (by omega) he hvs hvs' (by rw [if_pos hg.1]; exact ⟨rfl, rfl⟩)
          exact ⟨_, _, bin_run_agg_ne hg.2 p q _ _ hr, rfl, rfl, mk_bool (by rw [den_mkNot]; simp [E.den, hb, D.toB])⟩
        · cases h
      · cases h
    · cases h
  · rename_i es e
    have hx' : AbsT η M (.c (.d (.lst es) e)) x := hx
    have hy' : AbsT η M (.c (.k (.slice none 0 0))) y := hy
    have hy2 : y = .slice none 0 0 := hy'.1
    subst hy2
    split at h
    · rename_i t hu
      simp only [ret1, Option.some.injEq] at h
      subst h
      have h1 := hx'.1
      simp only [AbsA] at h1
      rw [Rep_lst] at h1
      obtain ⟨l, hl, _, hv⟩ := h1
      rcases hv with ⟨rfl, rfl⟩ | ⟨b, off, sp, cap, rfl, _⟩
      · exact ⟨_, _, bin_run_nil hu p q _ _ _, rfl, rfl, AbsT_mk (a := .nilq e) (v := .bool true) ⟨true, [], rfl, hl, fun _ => rfl⟩ rfl⟩
      · exact ⟨_, _, bin_run_nil hu p q _ _ _, rfl, rfl, AbsT_mk (a := .nilq e) (v := .bool false) ⟨false, l, rfl, hl, fun h => by cases h⟩ rfl⟩
    · cases h
  · cases h
end

end Go.Proofs.Ytindphofgojfbaa.Sy
