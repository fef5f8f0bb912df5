/-
  A part of a symbolic walk that is proved sound: what the functions of a program do with data. No conditions.
-/
import Derived.Test.YtindphofgojfbaaSyQ
set_option linter.unusedSimpArgs false
set_option linter.unusedVariables false
namespace Go.Proofs.Ytindphofgojfbaa.Sy
open Go.RowKit
section
variable {Z : Base} {η : Env} {M : Mem} {blks : List Blk} {w : World} {P : Program} {G : Globs}

def Done (P : Program) (Z : Base) (η : Env) (M : Mem) (blks : List Blk) (w : World) (s : Sem Value) (out : Out) : Prop :=
  ∃ v w' η' M' r, s.run P w = .ok v w' ∧ η.le η' ∧ M.le M' ∧ WR Z η' M' (applyU blks out.upd) w' ∧ out.res = some r ∧ AbsV η' M' r v

theorem done_pure (hw : WR Z η M blks w) {s : Sem Value} {out : Out} {v : Value} {r : AV} {evs : List Ev} (h1 : s.run P w = .ok v w) (h2 : out = ⟨some r, [], evs⟩) (h3 : AbsV η M r v) : Done P Z η M blks w s out :=
  ⟨v, w, η, M, r, h1, Env.le.refl _, Mem.le.refl _, by subst h2; exact hw, by subst h2; rfl, h3⟩

theorem obs_le {a b : E} (h : ∀ e ∈ obLe a b, EvOK P G η.ρ e) : (a.den η.ρ).toI ≤ (b.den η.ρ).toI := by
  have := obs_ok h
  rw [den_mkCmp] at this
  simpa [E.den, cmpB] using this
theorem obs_ge {a b : E} (h : ∀ e ∈ obs (mkCmp .geq a b), EvOK P G η.ρ e) : (b.den η.ρ).toI ≤ (a.den η.ρ).toI := by
  have := obs_ok h
  rw [den_mkCmp] at this
  simpa [E.den, cmpB] using this
theorem wrap_id {n : Int} (h1 : 0 ≤ n) (h2 : n ≤ 4294967296) : IntKind.i64.wrap n = n := by
  simp [IntKind.wrap, IntKind.bits, IntKind.signed]
  omega
theorem intOf1_abs' {X : AV} {k : IntKind} {e : E} (h : intOf1 X = some (k, e)) {v : Value} (hX : AbsV η M X v) : ∃ n, v = .int k n ∧ e.den η.ρ = .int k n ∧ k.min ≤ n ∧ n ≤ k.max := by
  unfold intOf1 at h
  split at h
  · cases h
    exact abs_int (show AbsT η M _ v from hX)
  · cases h

theorem elemE_cells {es : List Sh} {xs : List E} (h : xs.length = es.length) (h0 : 0 < es.length) : ((elemE es xs).den η.ρ).cells es = xs.map (·.den η.ρ) := by
  unfold elemE
  by_cases h1 : es.length = 1
  · rw [if_pos h1, D.cells_one h1]
    match xs, h with
    | [x], _ => rfl
    | [], h => simp at h; omega
    | _ :: _ :: _, h => simp at h; omega
  · rw [if_neg h1]
    simp only [E.den, consE_den, D.toL]
    rw [D.cells_rc h1]

theorem run_make {T e : TypeId} {i : TypeInfo} {z : Value} {k1 k2 : IntKind} {n m : Int} (hu : P.underlying T = some (.slice e)) (hi : P.info? e = some i) (hz : i.zero = some z) (h0 : 0 ≤ n) (h1 : n ≤ m) (h2 : m ≤ 4294967296) (hb : i.bytes ≤ 8192) (hs : 0 < i.size) :
    (Instr.makeSlice T (.int k1 n) (.int k2 m)).run P w = .ok (.slice (some ⟨w.heap.size, 0, none⟩) n.toNat m.toNat) (w.alloc (.cells ((List.range (m.toNat * i.size)).map fun j => z.cells[j % z.cells.size]!).toArray e)) := by
  have w1 := wrap_id h0 (by omega)
  have w2 := wrap_id (n := m) (by omega) h2
  have hbound : (i.bytes : Int) * m ≤ 281474976710656 := by
    have h3 : (i.bytes : Int) ≤ 8192 := by omega
    have h4 : (i.bytes : Int) * m ≤ 8192 * m := Int.mul_le_mul_of_nonneg_right h3 (by omega)
    omega
  have hroom : ∀ b, (askRoom b).run P w = .ok () w := by
    intro b
    unfold askRoom
    split
    · simp [mark, Sem.run]
    · rfl
  have a1 : ¬ m < 0 := by omega
  have a2 : ¬ n < 0 := by omega
  have a3 : ¬ m < n := by omega
  have a4 : ¬ (281474976710656 : Int) < i.bytes * m := by omega
  have a5 : ((List.range (m.toNat * i.size)).map fun j => z.cells[j % z.cells.size]!).toArray = (Array.range (m.toNat * i.size)).map fun j => z.cells[j % z.cells.size]! := by
    apply Array.ext'; simp
  rw [a5]
  by_cases hm0 : m.toNat * i.size = 0
  · have hm1 : m.toNat = 0 := by
      rcases Nat.mul_eq_zero.1 hm0 with h | h
      · exact h
      · omega
    simp [Instr.makeSlice, run_underlying hu, asInt, asIntOf, typeInfo, hi, w1, w2, a1, a2, a3, a4, hroom, sizeOf, hm0, hm1, newRow]
    have e0 : ∀ f : Nat → Value, Array.map f (Array.range 0) = #[] := fun f => by apply Array.ext'; simp
    rw [e0, e0]
  · simp [Instr.makeSlice, run_underlying hu, asInt, asIntOf, typeInfo, hi, w1, w2, a1, a2, a3, a4, hroom, sizeOf, hm0, zeroValue, hz, newRow]
theorem makeA_sound {c : Ctx} (hcP : c.P = P) {T : TypeId} {X Y : AV} {out : Out} (h : makeA c T X Y = some out) (hw : WR Z η M blks w) (hnb : blks[c.nb]? = some .none) {x y : Value} (hX : AbsV η M X x) (hY : AbsV η M Y y) (hev : ∀ e ∈ out.evs, EvOK P G η.ρ e) :
    Done P Z η M blks w (Instr.makeSlice T x y) out := by
  unfold makeA at h
  rw [hcP] at h
  split at h
  · rename_i e hu
    split at h
    · rename_i es z k1 l k2 cp hes hz hl hcp
      split at h
      · rename_i zl hzl
        split at h
        · rename_i xs hxs
          split at h
          · rename_i hc
            obtain ⟨c1, c2, c3⟩ := hc
            simp only [Option.some.injEq] at h
            subst h
            obtain ⟨n, rfl, hn, n1, n2⟩ := intOf1_abs' hl hX
            obtain ⟨m, rfl, hm, m1, m2⟩ := intOf1_abs' hcp hY
            have o1 : 0 ≤ n := by
              have := obs_ge (fun e he => hev e (List.mem_append_left _ (List.mem_append_left _ he)))
              simpa [E.den, hn, D.toI] using this
            have o2 : n ≤ m := by
              by_cases hs : E.same l cp = true
              · have := E.same_eq _ _ hs
                subst this
                rw [hn] at hm
                cases hm; omega
              · have := obs_le (a := l) (b := cp) (fun e he => hev e (List.mem_append_left _ (List.mem_append_right _ (by rw [if_neg hs]; exact he))))
                simpa [hn, hm, D.toI] using this
            have o3 : m ≤ 4294967296 := by
              have := obs_le (fun e he => hev e (List.mem_append_right _ he))
              simpa [E.den, hm, D.toI, roomE] using this
            obtain ⟨i, hi, hz'⟩ := Option.bind_eq_some_iff.1 hz
            have hsz : sizeT P e = i.size := by simp [sizeT, Program.cellsOf, hi]
            have hby : P.bytesOf e = i.bytes := by simp [Program.bytesOf, hi]
            have hza := zeroAs_abs (η := η) (M := M) hzl
            obtain ⟨r1, r2, r3⟩ := dataAs_rep hxs hza
            have hzs : z.cells.size = es.length := by simpa using r1
            have w1 := wrap_id o1 (by omega)
            have w2 := wrap_id (n := m) (by omega) o3
            have hrun := run_make (P := P) (w := w) (k1 := k1) (k2 := k2) hu hi hz' o1 o2 o3 (by omega) (by omega)
            have hcz : z.cells.size = i.size := by omega
            have hget : ∀ (a o : Nat), a < m.toNat → o < es.length → ((List.range (m.toNat * i.size)).map fun j => z.cells[j % z.cells.size]!)[a * es.length + o]? = z.cells.toList[o]? := by
              intro a o ha ho
              have hlt : a * es.length + o < m.toNat * i.size := by
                have : (a + 1) * es.length ≤ m.toNat * es.length := Nat.mul_le_mul_right _ ha
                rw [Nat.add_mul] at this
                rw [← hsz, ← c2]; omega
              rw [List.getElem?_map, List.getElem?_range hlt]
              simp only [Option.map_some]
              rw [hzs, show (a * es.length + o) % es.length = o by rw [Nat.mul_comm, Nat.mul_add_mod]; exact Nat.mod_eq_of_lt ho]
              rw [getElem!_pos z.cells o (by omega)]
              simp [show o < z.cells.size by omega]
            have hden : (E.rep l (elemE es xs)).den η.ρ = .lst (List.replicate n.toNat ((elemE es xs).den η.ρ)) := by simp [E.den, hn, D.toI]
            have hone : ∀ v ∈ ((List.range (m.toNat * i.size)).map fun j => z.cells[j % z.cells.size]!), One v := by
              intro v hv
              obtain ⟨j, _, rfl⟩ := List.mem_map.1 hv
              have hlt : j % z.cells.size < z.cells.size := Nat.mod_lt _ (by omega)
              rw [getElem!_pos z.cells _ hlt]
              exact hza.one _ (by simp)
            have hgood : GoodRow M es (List.replicate n.toNat ((elemE es xs).den η.ρ)) ((List.range (m.toNat * i.size)).map fun j => z.cells[j % z.cells.size]!) := by
              intro a x hx
              have ha : a < n.toNat := by
                have := (List.getElem?_eq_some_iff.1 hx).1; simpa using this
              rw [List.getElem?_replicate, if_pos ha] at hx
              cases hx
              rw [elemE_cells r2 c1]
              refine RepCells.mk (by simpa using r2) fun j s hj => ?_
              have hjl : j < es.length := (List.getElem?_eq_some_iff.1 hj).1
              obtain ⟨v, hv, hrep⟩ := r3 j s xs[j] hj (List.getElem?_eq_getElem (by omega))
              refine ⟨v, xs[j].den η.ρ, by simp [show j < xs.length by omega], ?_, hrep⟩
              rw [Nat.zero_add, hget a j (by omega) hjl]; exact hv
            have hal : η.al c.nb = none := hw.blk _ _ hnb
            have hwr := alloc_row hw hnb e (es := es) (l := E.rep l (elemE es xs)) (c := m.toNat) hden (by simp; omega) (by unfold maxLen; omega) (by rw [List.length_map, List.length_range, ← hsz, ← c2]) hone hgood
            refine ⟨_, _, _, M, _, hrun, Env.le_set hal, Mem.le.refl _, hwr, rfl, ?_⟩
            have hA : AbsA (η.set c.nb (w.heap.size, m.toNat)) M (.row c.nb es (lenE (E.rep l (elemE es xs)))) (.slice (some ⟨w.heap.size, 0, none⟩) n.toNat m.toNat) := by
             refine ⟨w.heap.size, m.toNat, n.toNat, Env.set_same _ _ _, ?_, by omega, by unfold maxLen; omega, ?_⟩
             · rw [den_lenE]
               simp only [E.den, Env.set, hn, D.toI, D.len, List.length_replicate]
             · by_cases hm0 : m.toNat = 0
               · exact .inr ⟨hm0, _, by rw [hm0, show n.toNat = 0 by omega]⟩
               · exact .inl ⟨by omega, rfl⟩
            exact AbsT_mk hA rfl
          · cases h
        · cases h
      · cases h
    · cases h
  · cases h

structure SrcAt (P : Program) (M : Mem) (w : World) (es : List Sh) (v : Value) (ys : List D) (us : List Value) : Prop where
  len : ys.length ≤ maxLen
  val : ∃ a c, v = .slice a ys.length c
  run : ∀ k, k ≤ ys.length → ∀ w' : World, w'.heap = w.heap → (Builtin.firstCells es.length k v).run P w' = .ok (us.take (k * es.length)).toArray w'
  size : us.length = ys.length * es.length
  one : ∀ u ∈ us, One u
  good : GoodRow M es ys us
theorem GoodRow.take {es : List Sh} {xs : List D} {vs : List Value} (h : GoodRow M es xs vs) (k : Nat) : GoodRow M es (xs.take k) (vs.take (k * es.length)) := by
  intro i x hx
  rw [List.getElem?_take] at hx
  split at hx
  · rename_i hik
    have := h i x hx
    refine RepCells.mk this.length fun j s hj => ?_
    obtain ⟨u, d, h1, h2, h3⟩ := this.get j s hj
    have hjl : j < es.length := (List.getElem?_eq_some_iff.1 hj).1
    refine ⟨u, d, h1, ?_, h3⟩
    have hlt : i * es.length + j < k * es.length := by
      have : (i + 1) * es.length ≤ k * es.length := Nat.mul_le_mul_right _ hik
      rw [Nat.add_mul] at this; omega
    show (vs.take (k * es.length))[i * es.length + (0 + j)]? = _
    rw [List.getElem?_take, if_pos (by omega)]
    exact h2
  · cases hx
theorem cell_heap {w w' : World} (h : w'.heap = w.heap) (a : Addr) : w'.cell? a = w.cell? a := by simp [World.cell?, h]
theorem rep_cells (hw : WR Z η M blks w) {es : List Sh} {v : Value} {xs : List D} (h : Rep M (.lst es) v (.lst xs)) : ∃ us : List Value, SrcAt P M w es v xs us := by
  rw [Rep_lst] at h
  obtain ⟨l, hl, hm, h⟩ := h
  cases hl
  rcases h with ⟨rfl, rfl⟩ | ⟨b, off, sp, cap, rfl, hsp, hc1, hc2, hrep⟩
  · exact ⟨[], hm, ⟨none, 0, rfl⟩, fun k hk w' _ => by simp [Builtin.firstCells], by simp, by simp, fun i x hx => by simp at hx⟩
  · rcases Nat.eq_zero_or_pos cap with h0 | h0
    · have hx0 : xs = [] := List.length_eq_zero_iff.1 (by omega)
      subst hx0
      refine ⟨[], hm, ⟨_, _, rfl⟩, fun k hk w' _ => ?_, by simp, by simp, fun i x hx => by simp at hx⟩
      have : k = 0 := by simpa using hk
      subst this
      simp [Builtin.firstCells, loadCells, loadCellsFrom]
    have hsp' := hsp h0
    subst hsp'
    have hcell : ∀ (i : Nat), i < xs.length * es.length → ∃ u, M b (off + i) = some u := by
      intro i hi
      have hes : 0 < es.length := by
        rcases Nat.eq_zero_or_pos es.length with h0 | h0
        · rw [h0] at hi; simp at hi
        · exact h0
      have hq : i / es.length < xs.length := by
        rw [Nat.div_lt_iff_lt_mul hes]; exact hi
      have hx := hrep (i / es.length) xs[i / es.length] (List.getElem?_eq_getElem hq)
      have hml : i % es.length < es.length := Nat.mod_lt _ hes
      obtain ⟨u, d, _, h2, _⟩ := hx.get (i % es.length) (es[i % es.length]'hml) (List.getElem?_eq_getElem hml)
      refine ⟨u, ?_⟩
      rw [← h2]
      congr 1
      rw [Nat.zero_add, Nat.add_assoc]
      congr 1
      rw [Nat.mul_comm]; exact (Nat.div_add_mod _ _).symm
    obtain ⟨us, hlen, hus⟩ : ∃ us : List Value, us.length = xs.length * es.length ∧ ∀ (i : Nat) (u : Value), us[i]? = some u → M b (off + i) = some u := by
      generalize xs.length * es.length = n at hcell
      clear hrep
      induction n with
      | zero => exact ⟨[], rfl, fun i u hu => by simp at hu⟩
      | succ n ih =>
        obtain ⟨us, h1, h2⟩ := ih fun i hi => hcell i (by omega)
        obtain ⟨u, hu⟩ := hcell n (by omega)
        refine ⟨us ++ [u], by simp [h1], fun i u' hu' => ?_⟩
        rw [List.getElem?_append] at hu'
        split at hu'
        · exact h2 i u' hu'
        · rename_i hi
          rcases Nat.lt_or_ge (i - us.length) 1 with h3 | h3
          · have : i - us.length = 0 := by omega
            rw [this] at hu'
            simp at hu'
            subst hu'
            rw [show i = n by omega]; exact hu
          · rw [List.getElem?_eq_none (by simpa using h3)] at hu'; cases hu'
    refine ⟨us, hm, ⟨_, _, rfl⟩, fun k hk w' hh => ?_, hlen, fun u hu => ?_, fun i x hx => ?_⟩
    · simp only [Builtin.firstCells]
      have hkl : k * es.length ≤ xs.length * es.length := Nat.mul_le_mul_right _ hk
      refine run_loadCells (by rw [List.length_take]; omega) fun i u hu => ?_
      rw [cell_heap hh]
      rw [List.getElem?_take] at hu
      split at hu
      · exact hw.mem _ _ _ (hus i u hu)
      · cases hu
    · obtain ⟨i, hi⟩ := List.mem_iff_getElem?.1 hu
      exact hw.one _ _ _ (hus i u hi)
    · have hik := (List.getElem?_eq_some_iff.1 hx).1
      have := hrep i x hx
      refine RepCells.mk this.length fun j s hj => ?_
      obtain ⟨u, dd, h1, h2, h3⟩ := this.get j s hj
      refine ⟨u, dd, h1, ?_, h3⟩
      have hjl : j < es.length := (List.getElem?_eq_some_iff.1 hj).1
      have hlt : i * es.length + j < us.length := by
        have : (i + 1) * es.length ≤ xs.length * es.length := Nat.mul_le_mul_right _ hik
        rw [Nat.add_mul] at this; omega
      have h4 := hus (i * es.length + j) us[i * es.length + j] (List.getElem?_eq_getElem hlt)
      have h5 : M b (off + i * es.length + (0 + j)) = some us[i * es.length + j] := by rw [← h4]; congr 1; omega
      rw [h5] at h2
      cases h2
      show us[i * es.length + (0 + j)]? = _
      rw [Nat.zero_add]; exact List.getElem?_eq_getElem hlt
theorem row_cells (hw : WR Z η M blks w) {j : Nat} {es : List Sh} {l n : E} {fr : Bool} (hj : blks[j]? = some (.row es l fr)) (hn : n.den η.ρ = (E.len l).den η.ρ) {v : Value} (ha : AbsA η M (.row j es n) v) :
    ∃ xs us, l.den η.ρ = .lst xs ∧ SrcAt P M w es v xs us := by
  obtain ⟨b, c, m, h1, h2, h3, h4, h5⟩ := ha
  obtain ⟨b', c', xs, k1, k2, k3, k4, k5⟩ := hw.blk j _ hj
  rw [h1] at k1
  cases k1
  have hm : m = xs.length := by
    rw [hn] at h2
    simp [E.den, k2, D.len] at h2
    omega
  subst hm
  refine ⟨xs, ?_⟩
  rcases h5 with ⟨h5, rfl⟩ | ⟨h5, a, rfl⟩
  · obtain ⟨_, vs, T, g1, g2, g3, g4, _⟩ := k5 h5
    have hxc : xs.length * es.length ≤ c * es.length := Nat.mul_le_mul_right _ h3
    have hg : GoodRow M es xs (vs.take (xs.length * es.length)) := by
      have := GoodRow.take (M := M) (es := es) (xs := xs) (vs := vs) g4 xs.length
      rwa [List.take_length] at this
    refine ⟨vs.take (xs.length * es.length), k2, by omega, ⟨_, _, rfl⟩, fun k hk w' hh => ?_, by rw [List.length_take]; omega, fun u hu => g3 u (List.mem_of_mem_take hu), hg⟩
    have hkl : k * es.length ≤ xs.length * es.length := Nat.mul_le_mul_right _ hk
    simp only [Builtin.firstCells]
    refine run_loadCells (by rw [List.length_take, List.length_take]; omega) fun i u hu => ?_
    rw [cell_heap hh, cell_of_heap g1]
    rw [List.take_take, Nat.min_eq_left hkl, List.getElem?_take] at hu
    split at hu
    · simpa using hu
    · cases hu
  · have hx0 : xs = [] := List.length_eq_zero_iff.1 (by omega)
    subst hx0
    refine ⟨[], k2, by simp, ⟨a, 0, rfl⟩, fun k hk w' hh => ?_, by simp, by simp, fun i x hx => by simp at hx⟩
    have : k = 0 := by simpa using hk
    subst this
    cases a with
    | none => simp [Builtin.firstCells]
    | some a => simp [Builtin.firstCells, loadCells, loadCellsFrom]
theorem nil_cells {es : List Sh} {v : Value} (h : ∃ a, v = .slice a 0 0) : SrcAt P M w es v [] [] := by
  obtain ⟨a, rfl⟩ := h
  refine ⟨by simp, ⟨a, 0, rfl⟩, fun k hk w' hh => ?_, by simp, by simp, fun i x hx => by simp at hx⟩
  have : k = 0 := by simpa using hk
  subst this
  cases a with
  | none => simp [Builtin.firstCells]
  | some a => simp [Builtin.firstCells, loadCells, loadCellsFrom]
theorem srcOf_at (hw : WR Z η M blks w) {es : List Sh} {X : AV} {l : E} (h : srcOf (fun j => blks.getD j .dead) es X = some l) {v : Value} (hX : AbsV η M X v) : ∃ ys us, l.den η.ρ = .lst ys ∧ SrcAt P M w es v ys us := by
  unfold srcOf at h
  split at h
  · rename_i es' l'
    split at h
    · rename_i hs
      cases h
      have hes := Sh.sames_eq _ _ hs
      subst hes
      have hr := AbsT_c (show AbsT η M (.c (.d (.lst es) l)) v from hX)
      simp only [AbsA] at hr
      obtain ⟨ys, hys⟩ : ∃ ys, l.den η.ρ = .lst ys := by
        have := hr; rw [Rep_lst] at this; obtain ⟨l, e1, _⟩ := this; exact ⟨l, e1⟩
      rw [hys] at hr
      obtain ⟨us, u1⟩ := rep_cells (P := P) hw hr
      exact ⟨ys, us, hys, u1⟩
    · cases h
  · cases h
    have hr := AbsT_c (show AbsT η M (.c (.nilS _)) v from hX)
    exact ⟨[], [], rfl, nil_cells hr⟩
  · rename_i j es' n
    split at h
    · rename_i es'' l' fr hB
      split at h
      · rename_i hc
        simp only [Bool.and_eq_true] at hc
        cases h
        have e1 := Sh.sames_eq _ _ hc.1.1
        have e2 := Sh.sames_eq _ _ hc.1.2
        subst e1 e2
        have e3 := E.same_eq _ _ hc.2
        obtain ⟨xs, us, h1, h2⟩ := row_cells (P := P) hw (getD_some hB (by simp)) (by rw [← e3, den_lenE]) (AbsT_c (show AbsT η M (.c (.row j es n)) v from hX))
        exact ⟨xs, us, h1, h2⟩
      · cases h
    · cases h
  · cases h

theorem lenOf_run {a : Option Addr} {n c : Nat} : (Builtin.lenOf (.slice a n c)).run P w = .ok n w := rfl

theorem copyA_sound {c : Ctx} (hcP : c.P = P) (hcB : c.B = fun j => blks.getD j .dead) {T : TypeId} {X Y : AV} {out : Out} (h : copyA c T X Y = some out) (hw : WR Z η M blks w) {x y : Value} (hX : AbsV η M X x) (hY : AbsV η M Y y) {tys : Array TypeId} {vs : Array Value} {t : TypeId} (h1 : tys[0]? = some T) (h2 : vs[0]? = some x) (h3 : vs[1]? = some y) :
    Done P Z η M blks w (Builtin.copy_ tys t vs) out := by
  unfold copyA at h
  rw [hcP] at h
  split at h
  · rename_i e hu
    split at h
    · rename_i j es n
      split at h
      · rename_i es' l xl hB hxl
        split at h
        · rename_i hc
          simp only [Bool.and_eq_true, decide_eq_true_eq] at hc
          obtain ⟨⟨⟨⟨g1, g2⟩, g3⟩, g4⟩, g5⟩ := hc
          simp only [Option.some.injEq] at h
          subst h
          have hes := Sh.sames_eq _ _ g1
          subst hes
          rw [hcB] at hB
          have hj := getD_some hB (by simp)
          obtain ⟨b, cc, ds, k1, k2, k3, k4, k5⟩ := hw.blk j _ hj
          obtain ⟨b', c', m, q1, q2, q3, q4, q5⟩ := AbsT_c (show AbsT η M (.c (.row j es n)) x from hX)
          rw [k1] at q1
          cases q1
          have hm : m = ds.length := by
            rw [← E.same_eq _ _ g2, den_lenE] at q2
            simp [E.den, k2, D.len] at q2
            omega
          subst hm
          rw [hcB] at hxl
          obtain ⟨ys, us0, hys, hsrc⟩ := srcOf_at (P := P) hw hxl hY
          have hmax := hsrc.len
          obtain ⟨a, ca, rfl⟩ := hsrc.val
          have hkk : min ys.length ds.length ≤ ys.length := Nat.min_le_left _ _
          have u1 := hsrc.run (min ys.length ds.length) hkk w rfl
          have u4 := hsrc.good.take (min ys.length ds.length)
          have u2 : (us0.take (min ys.length ds.length * es.length)).length = min ys.length ds.length * es.length := by
            rw [List.length_take, hsrc.size]; exact Nat.min_eq_left (Nat.mul_le_mul_right _ hkk)
          have u3 : ∀ u ∈ us0.take (min ys.length ds.length * es.length), One u := fun u hu => hsrc.one u (List.mem_of_mem_take hu)
          generalize us0.take (min ys.length ds.length * es.length) = us at u1 u2 u3 u4
          have hsz := sz_of_info (w := w) g5
          rw [g4] at hsz
          have hdl : (lenE xl).den η.ρ = .int .i64 ys.length := by rw [den_lenE]; simp [E.den, hys, D.len]
          have hcopy : ys.take ds.length ++ ds.drop ys.length = ys.take (min ys.length ds.length) ++ ds.drop (min ys.length ds.length) := by
            rcases Nat.le_total ys.length ds.length with hle | hle
            · rw [Nat.min_eq_left hle, List.take_of_length_le hle, List.take_length]
            · rw [Nat.min_eq_right hle, List.drop_eq_nil_of_le hle, List.drop_length]
          have hden : (E.cpy l xl).den η.ρ = .lst (ys.take (min ys.length ds.length) ++ ds.drop (min ys.length ds.length)) := by
            simp only [E.den, k2, hys, D.mapL, D.toL]; rw [hcopy]
          have hres : AbsV η M (.v (.c (.d (.int .i64) (.mn .i64 (lenE xl) n)))) (.int .i64 (min ys.length ds.length : Nat)) := by
            refine mk_int ?_ (by have : IntKind.i64.min ≤ 0 := by decide
                                 omega) (by have : IntKind.i64.max = maxLen := by decide
                                            omega)
            simp only [E.den, hdl, q2, D.toI]
            congr 1
            split <;> omega
          have hlen2 : (ys.take (min ys.length ds.length) ++ ds.drop (min ys.length ds.length)).length = ds.length := by simp; omega
          rcases q5 with ⟨hc0, rfl⟩ | ⟨hc0, q5⟩
          · obtain ⟨r1, vs0, T', r2, r3, r4, r5, r6⟩ := k5 hc0
            have hroom : 0 + 0 + us.length ≤ vs0.length := by
              rw [u2, r3]; simp only [Nat.zero_add]
              exact Nat.mul_le_mul_right _ (by omega)
            obtain ⟨w', s1, s2, s3, s4, s5, s6, s7⟩ := run_storeCells (P := P) us w b 0 0 vs0 T' u3 r2 hroom
            refine ⟨_, w', η, M, _, ?_, Env.le.refl _, Mem.le.refl _, hw.update hj (by simp) k1 hc0 s4 s5 s6 s7 s3 (Mem.le.refl _) (fun _ _ _ => rfl) (fun o v hv => by rw [r6] at hv; simp at hv) (B' := .row es (.cpy l xl) false) ?_ (by simp), rfl, hres⟩
            · simp only [Builtin.copy_, h1, h2, h3, Sem.run_bind, run_underlying hu, Result.andThen_ok, lenOf_run, hsz, u1, s1, Sem.run_pure, goInt]
            · refine ⟨b, cc, _, k1, hden, by rw [hlen2]; exact k3, k4, fun _ => ⟨r1, _, T', s2, by rw [setVs_length]; exact r3, setVs_one _ _ _ r4 u3, ?_, fun o => by rw [r6]; simp⟩⟩
              intro i x hx
              have hget : ∀ (o : Nat), o < es.length → ∀ (i : Nat), (setVs vs0 (0 + 0) us)[i * es.length + o]? = if i < min ys.length ds.length then us[i * es.length + o]? else vs0[i * es.length + o]? := by
                intro o ho i
                rw [setVs_get us vs0 (0 + 0) _ (by omega)]
                by_cases hi : i < min ys.length ds.length
                · rw [if_pos hi, if_pos (by
                    have : (i + 1) * es.length ≤ (min ys.length ds.length) * es.length := Nat.mul_le_mul_right _ hi
                    rw [Nat.add_mul] at this; omega)]
                  simp
                · rw [if_neg hi, if_neg (by
                    have : (min ys.length ds.length) * es.length ≤ i * es.length := Nat.mul_le_mul_right _ (by omega)
                    omega)]
              rw [List.getElem?_append] at hx
              have hlt : (ys.take (min ys.length ds.length)).length = min ys.length ds.length := by rw [List.length_take]; omega
              split at hx
              · rename_i hi
                rw [hlt] at hi
                have := u4 i x hx
                refine RepCells.mk this.length fun j s hj => ?_
                obtain ⟨u, dd, t1, t2, t3⟩ := this.get j s hj
                refine ⟨u, dd, t1, ?_, t3⟩
                have hjl : j < es.length := (List.getElem?_eq_some_iff.1 hj).1
                show (setVs vs0 (0 + 0) us)[i * es.length + (0 + j)]? = _
                rw [Nat.zero_add j, hget j hjl, if_pos hi, ← t2, Nat.zero_add]
              · rename_i hi
                rw [hlt] at hi hx
                rw [List.getElem?_drop, show min ys.length ds.length + (i - min ys.length ds.length) = i by omega] at hx
                have := r5 i x hx
                refine RepCells.mk this.length fun j s hj => ?_
                obtain ⟨u, dd, t1, t2, t3⟩ := this.get j s hj
                refine ⟨u, dd, t1, ?_, t3⟩
                have hjl : j < es.length := (List.getElem?_eq_some_iff.1 hj).1
                show (setVs vs0 (0 + 0) us)[i * es.length + (0 + j)]? = _
                rw [Nat.zero_add j, hget j hjl, if_neg hi, ← t2, Nat.zero_add]
          · have hd0 : ds = [] := List.length_eq_zero_iff.1 (by omega)
            subst hd0
            have hu0 : us = [] := List.length_eq_zero_iff.1 (by rw [u2]; simp)
            subst hu0
            have hwr : WR Z η M (blks.set j (.row es (.cpy l xl) false)) w := by
              have hlt : j < blks.length := (List.getElem?_eq_some_iff.1 hj).1
              refine ⟨hw.below, hw.size, hw.base, hw.new, hw.mem, hw.one, fun i B hB => ?_, fun i k B C p q hi hk hB hC hp hq hp0 hq0 e => ?_, fun i hi => hw.out i (by simpa using hi), hw.pal, hw.glob⟩
              · rw [List.getElem?_set] at hB
                by_cases e : j = i
                · subst e
                  rw [if_pos rfl, if_pos hlt] at hB
                  cases hB
                  exact ⟨b, cc, _, k1, hden, by simp, k4, fun h0 => by omega⟩
                · rw [if_neg e] at hB; exact hw.blk i B hB
              · have key : ∀ (i : Nat) (B : Blk), (blks.set j (.row es (.cpy l xl) false))[i]? = some B → B ≠ Blk.dead → ∃ B', blks[i]? = some B' ∧ B' ≠ Blk.dead := by
                  intro i B hB hd
                  rw [List.getElem?_set] at hB
                  by_cases e : j = i
                  · subst e; exact ⟨_, hj, by simp⟩
                  · rw [if_neg e] at hB; exact ⟨B, hB, hd⟩
                obtain ⟨B', t1, t2⟩ := key i B hi hB
                obtain ⟨C', t3, t4⟩ := key k C hk hC
                exact hw.inj i k B' C' p q t1 t3 t2 t4 hp hq hp0 hq0 e
            refine ⟨_, w, η, M, _, ?_, Env.le.refl _, Mem.le.refl _, hwr, rfl, hres⟩
            have u1' : (Builtin.firstCells es.length (ys.length.min 0) (.slice a ys.length ca)).run P w = .ok #[] w := u1
            obtain ⟨b2, rfl⟩ := q5
            cases b2
            · simp only [Builtin.copy_, h1, h2, h3, Sem.run_bind, run_underlying hu, Result.andThen_ok, lenOf_run, hsz, u1', Sem.run_pure, goInt]
              rfl
            · simp only [Builtin.copy_, h1, h2, h3, Sem.run_bind, run_underlying hu, Result.andThen_ok, lenOf_run, hsz, u1', Sem.run_pure, goInt, storeCells]
              rfl
        · cases h
      · cases h
    · cases h
  · cases h

theorem minA_sound {mx : Bool} {X Y : AV} {out : Out} (h : minA mx X Y = some out) {x y : Value} (hX : AbsV η M X x) (hY : AbsV η M Y y) : ∃ v r, (if mx then Builtin.max_ #[] 0 #[x, y] else Builtin.min_ #[] 0 #[x, y]).run P w = .ok v w ∧ out = ⟨some r, [], []⟩ ∧ AbsV η M r v := by
  unfold minA at h
  split at h
  · rename_i k a k' b ha hb
    split at h
    · rename_i hk
      subst hk
      simp only [ret1, Option.some.injEq] at h
      obtain ⟨m, rfl, hm, m1, m2⟩ := intOf1_abs' ha hX
      obtain ⟨n, rfl, hn, n1, n2⟩ := intOf1_abs' hb hY
      cases mx with
      | false =>
        refine ⟨.int k (if n < m then n else m), _, by simp [Builtin.min_, Builtin.min2], h.symm, mk_int ?_ (by split <;> assumption) (by split <;> assumption)⟩
        split
        · simp [E.den] at hm hn; simp [E.den, hm, hn]
        · simp [E.den, hm, hn, D.toI]
      | true =>
        refine ⟨.int k (if n > m then n else m), _, by simp [Builtin.max_, Builtin.max2], h.symm, mk_int ?_ (by split <;> assumption) (by split <;> assumption)⟩
        split
        · simp [E.den] at hm hn; simp [E.den, hm, hn]
        · simp [E.den, hm, hn, D.toI]
    · cases h
  · cases h
end

end Go.Proofs.Ytindphofgojfbaa.Sy
