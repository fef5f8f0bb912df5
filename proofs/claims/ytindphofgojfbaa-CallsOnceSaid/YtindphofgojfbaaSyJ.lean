/-
  A part of a symbolic walk that is proved sound: what the functions of a program do with data. No conditions.
-/
import Derived.Test.YtindphofgojfbaaSyI
set_option linter.unusedSimpArgs false
set_option linter.unusedVariables false
namespace Go.Proofs.Ytindphofgojfbaa.Sy
open Go.RowKit
section
variable {η : Env} {M : Mem} {P : Program} {G : Globs} {w : World}

theorem part_agg {T : TypeId} {vs : List Value} {o : Nat} (h : aggB P T = true) (hi : ∃ i, P.info? T = some i) : (part T vs.toArray o).run P w = .ok (.agg ((vs.drop o).take (sizeT P T)).toArray) w := by
  obtain ⟨i, hi⟩ := hi
  have hs : sizeT P T = i.size := by simp [sizeT, Program.cellsOf, hi]
  unfold aggB at h
  have hu : ∃ d, P.underlying T = some d ∧ (match d with | .struct _ | .array _ _ => true | _ => false) = true := by
    cases hd : P.underlying T with
    | none => rw [hd] at h; simp at h
    | some d => rw [hd] at h; refine ⟨d, rfl, ?_⟩; revert h; cases d <;> simp
  obtain ⟨d, hu, hd⟩ := hu
  have hsz : (sizeOf T).run P w = .ok i.size w := by simp [sizeOf, typeInfo, hi]
  cases d <;> simp at hd <;>
    (simp [part, isAgg, run_underlying hu, hsz, hs, List.extract_eq_take_drop])
theorem part_one {T : TypeId} {vs : List Value} {o : Nat} {v : Value} (h : aggB P T = false) (hu : ∃ d, P.underlying T = some d) (hv : vs[o]? = some v) : (part T vs.toArray o).run P w = .ok v w := by
  obtain ⟨d, hu⟩ := hu
  unfold aggB at h
  rw [hu] at h
  cases d <;> simp at h <;> simp [part, isAgg, run_underlying hu, hv]
theorem info_of_under {T : TypeId} {d : TypeDesc} (h : P.underlying T = some d) : ∃ i, P.info? T = some i := by
  unfold Program.underlying at h
  cases hi : P.info? T with
  | none => rw [hi] at h; cases h
  | some i => exact ⟨i, rfl⟩
theorem under_of_agg {T : TypeId} (h : aggB P T = true) : ∃ d, P.underlying T = some d := by
  unfold aggB at h
  cases hd : P.underlying T with
  | none => rw [hd] at h; simp at h
  | some d => exact ⟨d, rfl⟩

theorem eqT_sound : ∀ (n d : Nat) (T : TypeId) (l l' : List A) (e : E) (vs vs' : List Value) (x y : Value), n ≤ d → eqT P n T l l' = some e → AbsL η M l vs → AbsL η M l' vs' →
    (if aggB P T = true then x = .agg vs.toArray ∧ y = .agg vs'.toArray else vs = [x] ∧ vs' = [y]) → ∃ b, e.den η.ρ = .bool b ∧ (Op.equalIn d T x y).run P w = .ok b w := by
  intro n
  induction n with
  | zero => intro d T l l' e vs vs' x y _ h; simp [eqT] at h
  | succ n ih =>
    intro d T l l' e vs vs' x y hnd h hl hl' hxy
    obtain ⟨d, rfl⟩ : ∃ d', d = d' + 1 := ⟨d - 1, by omega⟩
    unfold eqT at h
    split at h
    · rename_i fs hu
      have hag : aggB P T = true := by simp [aggB, hu]
      rw [if_pos hag] at hxy
      obtain ⟨rfl, rfl⟩ := hxy
      split at h
      · cases h
      · rename_i hst
        have hfs : P.fieldsOf T = fs := by simp [Program.fieldsOf, hu]
        have hst' : P.stoodInHeld T = false := by simpa using hst
        rw [run_equalIn_struct (P := P) w d T _ _ (by rw [hfs]; exact hu) hst', hfs]
        clear hfs hu
        revert h
        generalize fs.toList = gs
        intro h
        induction gs generalizing e with
        | nil => simp at h; subst h; exact ⟨true, rfl, by simp [Op.eqFields]⟩
        | cons f gs ihg =>
          rw [List.foldr_cons] at h
          split at h
          · cases h
          · rename_i hname
            split at h
            · rename_i hfa
              split at h
              · rename_i hsz
                split at h
                · rename_i _ _ ex ey hx hy
                  cases h
                  obtain ⟨by', hby, hry⟩ := ihg _ hy
                  obtain ⟨bx, hbx, hrx⟩ := ih d f.type _ _ ex _ _ (.agg ((vs.drop f.offset).take (sizeT P f.type)).toArray) (.agg ((vs'.drop f.offset).take (sizeT P f.type)).toArray) (by omega) hx ((hl.drop _).take _) ((hl'.drop _).take _) (by rw [if_pos hfa]; exact ⟨rfl, rfl⟩)
                  obtain ⟨df, hdf⟩ := under_of_agg hfa
                  refine ⟨bx && by', by rw [den_mkAnd]; simp [E.den, hbx, hby, D.toB], ?_⟩
                  simp only [Op.eqFields, ne_eq, hname, not_false_eq_true, if_true, Sem.run_bind, part_agg hfa (info_of_under hdf), Result.andThen_ok, hrx]
                  cases bx
                  · simp
                  · simpa using hry
                · cases h
              · cases h
            · rename_i hfa
              have hfa' : aggB P f.type = false := by simpa using hfa
              split at h
              · rename_i _ _ _ a b ey ha hb hy
                split at h
                · rename_i ex hx
                  cases h
                  obtain ⟨by', hby, hry⟩ := ihg _ hy
                  obtain ⟨va, hva, haa, hoa⟩ := hl.get _ _ ha
                  obtain ⟨vb, hvb, hab, hob⟩ := hl'.get _ _ hb
                  obtain ⟨bx, hbx, hrx⟩ := ih d f.type _ _ ex [va] [vb] va vb (by omega) hx (.cons haa hoa .nil) (.cons hab hob .nil) (by rw [if_neg hfa]; exact ⟨rfl, rfl⟩)
                  have hdf : ∃ df, P.underlying f.type = some df := by
                    cases hd : P.underlying f.type with
                    | none =>
                      cases n with
                      | zero => simp [eqT] at hx
                      | succ n => simp [eqT, hd] at hx
                    | some df => exact ⟨df, rfl⟩
                  refine ⟨bx && by', by rw [den_mkAnd]; simp [E.den, hbx, hby, D.toB], ?_⟩
                  simp only [Op.eqFields, ne_eq, hname, not_false_eq_true, if_true, Sem.run_bind, part_one hfa' hdf hva, part_one hfa' hdf hvb, Result.andThen_ok, hrx]
                  cases bx
                  · simp
                  · simpa using hry
                · cases h
              · cases h
    · rename_i k0 hu
      have hag : aggB P T = false := by simp [aggB, hu]
      rw [hag] at hxy
      simp at hxy
      obtain ⟨rfl, rfl⟩ := hxy
      split at h
      · rename_i k a k' b
        split at h
        · rename_i hk
          cases h
          cases hl with
          | cons h1 h2 _ =>
            cases hl' with
            | cons h3 h4 _ =>
              obtain ⟨x0, rfl, hx, _⟩ := abs_int (AbsT_mk h1 h2)
              obtain ⟨y0, rfl, hy, _⟩ := abs_int (AbsT_mk h3 h4)
              subst hk
              refine ⟨x0 == y0, by rw [den_mkCmp]; simp [E.den, hx, hy, D.toI, cmpB], ?_⟩
              exact run_equalIn_int w d T _ _ _ _ hu
        · cases h
      · cases h
    · rename_i hu
      have hag : aggB P T = false := by simp [aggB, hu]
      rw [hag] at hxy
      simp at hxy
      obtain ⟨rfl, rfl⟩ := hxy
      split at h
      · rename_i a b
        cases h
        cases hl with
        | cons h1 h2 _ =>
          cases hl' with
          | cons h3 h4 _ =>
            obtain ⟨x0, rfl, hx⟩ := abs_bool (AbsT_mk h1 h2)
            obtain ⟨y0, rfl, hy⟩ := abs_bool (AbsT_mk h3 h4)
            exact ⟨x0 == y0, by rw [den_mkBeq]; simp [E.den, hx, hy, D.toB], run_equalIn_bool' w d T _ _ hu⟩
      · cases h
    · rename_i hu
      have hag : aggB P T = false := by simp [aggB, hu]
      rw [hag] at hxy
      simp at hxy
      obtain ⟨rfl, rfl⟩ := hxy
      split at h
      · rename_i a b
        cases h
        cases hl with
        | cons h1 h2 _ =>
          cases hl' with
          | cons h3 h4 _ =>
            obtain ⟨x0, rfl, hx, _⟩ := abs_str (AbsT_mk h1 h2)
            obtain ⟨y0, rfl, hy, _⟩ := abs_str (AbsT_mk h3 h4)
            exact ⟨x0.toList == y0.toList, by simp [E.den, hx, hy, D.toS], run_equalIn_string w d T _ _ hu⟩
      · cases h
    · cases h
end

end Go.Proofs.Ytindphofgojfbaa.Sy
