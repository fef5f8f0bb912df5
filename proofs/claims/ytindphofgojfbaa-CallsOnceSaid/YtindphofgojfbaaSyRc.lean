/-
  A part of a symbolic walk that is proved sound: what the functions of a program do with data. No conditions.
-/
import Derived.Test.YtindphofgojfbaaSyRb
import Derived.Deep.AppendSrc
import Derived.Laws.Append
import Derived.Lib.ConvBytes
import Derived.Laws.BytesString
set_option linter.unusedSimpArgs false
set_option linter.unusedVariables false
namespace Go.Proofs.Ytindphofgojfbaa.Sy
open Go.RowKit
section
variable {Z : Base} {η : Env} {M : Mem} {blks : List Blk} {w : World} {P : Program} {G : Globs}

theorem One.cell' {v : Value} (h : One v) : v.oneCell' = true := by
  cases v <;> first | rfl | (simp [One, oneB] at h)
theorem bytes_good (s : ByteArray) : GoodRow M [.int .u8] (bytesD s) (byteCells s) := by
  intro i x hx
  simp only [bytesD, List.getElem?_map, Option.map_eq_some_iff] at hx
  obtain ⟨b, hb, rfl⟩ := hx
  rw [D.cells_one rfl]
  refine RepCells.mk rfl fun j s' hj => ?_
  cases j with
  | zero =>
    simp at hj
    subst hj
    refine ⟨.int .u8 b.toNat, _, rfl, ?_, ?_⟩
    · simp [byteCells, hb]
    · rw [Rep_int]
      refine ⟨_, rfl, rfl, ?_, ?_⟩
      · have : IntKind.u8.min = 0 := by decide
        omega
      · have : IntKind.u8.max = 255 := by decide
        have := b.toNat_lt
        omega
  | succ j => simp at hj
theorem bytesD_length (s : ByteArray) : (bytesD s).length = s.size := by
  simp [bytesD]
theorem appendSrc (hw : WR Z η M blks w) {es : List Sh} {xT : TypeId} {Y : AV} {ly : E} (h : (if isSliceT P xT then srcOf (fun j => blks.getD j .dead) es Y else if isStrT P xT then strSrc es Y else none) = some ly) {y : Value} (hY : AbsV η M Y y) :
    ∃ ys us, ly.den η.ρ = .lst ys ∧ Src P es.length xT y ys.length us w ∧ GoodRow M es ys us ∧ ∀ u ∈ us, One u := by
  split at h
  · rename_i hs
    obtain ⟨ys, us, h1, h2⟩ := srcOf_at (P := P) hw h hY
    obtain ⟨a, c, rfl⟩ := h2.val
    have hk : ∃ e', P.underlying xT = some (.slice e') := by
      unfold isSliceT at hs
      split at hs
      · rename_i e' hu; exact ⟨e', hu⟩
      · cases hs
    have ht : us.take (ys.length * es.length) = us := by rw [← h2.size, List.take_length]
    refine ⟨ys, us, h1, ⟨.inl hk, fun _ => rfl, ?_, ?_, h2.size, fun u hu => (h2.one u hu).cell'⟩, h2.good, h2.one⟩
    · have := h2.run ys.length (Nat.le_refl _) w rfl; rwa [ht] at this
    · have := h2.run ys.length (Nat.le_refl _) w.drew rfl; rwa [ht] at this
  · split at h
    · rename_i hs
      have hk : P.underlying xT = some .string := by
        unfold isStrT at hs
        split at hs
        · assumption
        · cases hs
      unfold strSrc at h
      split at h
      · rename_i s
        split at h
        · rename_i he
          cases h
          have hes := Sh.sames_eq _ _ he
          subst hes
          obtain ⟨sv, rfl, hsv, _⟩ := abs_str (show AbsT η M (.c (.d .str s)) y from hY)
          refine ⟨bytesD sv, byteCells sv, by simp [E.den, hsv, D.toS], by rw [bytesD_length]; exact Src.ofString w hk sv, bytes_good sv, fun u hu => ?_⟩
          obtain ⟨_, _, rfl⟩ := List.mem_map.1 hu
          rfl
        · cases h
      · cases h
    · cases h

theorem GoodRow.append {es : List Sh} {xs ys : List D} {vs us rest : List Value} (h1 : GoodRow M es xs vs) (h2 : GoodRow M es ys us) (hl : vs.length = xs.length * es.length) (hu : us.length = ys.length * es.length) : GoodRow M es (xs ++ ys) (vs ++ us ++ rest) := by
  intro i x hx
  rw [List.getElem?_append] at hx
  split at hx
  · rename_i hi
    have := h1 i x hx
    refine RepCells.mk this.length fun j s hj => ?_
    obtain ⟨u, d, r1, r2, r3⟩ := this.get j s hj
    have hjl : j < es.length := (List.getElem?_eq_some_iff.1 hj).1
    refine ⟨u, d, r1, ?_, r3⟩
    have hlt : i * es.length + j < vs.length := by
      have : (i + 1) * es.length ≤ xs.length * es.length := Nat.mul_le_mul_right _ hi
      rw [Nat.add_mul] at this; omega
    show (vs ++ us ++ rest)[i * es.length + (0 + j)]? = _
    rw [List.append_assoc, List.getElem?_append_left (by omega)]
    exact r2
  · rename_i hi
    have hi2 := (List.getElem?_eq_some_iff.1 hx).1
    have := h2 (i - xs.length) x hx
    refine RepCells.mk this.length fun j s hj => ?_
    obtain ⟨u, d, r1, r2, r3⟩ := this.get j s hj
    have hjl : j < es.length := (List.getElem?_eq_some_iff.1 hj).1
    refine ⟨u, d, r1, ?_, r3⟩
    have hge : vs.length ≤ i * es.length + j := by
      have : xs.length * es.length ≤ i * es.length := Nat.mul_le_mul_right _ (by omega)
      omega
    have hlt : (i - xs.length) * es.length + j < us.length := by
      have : (i - xs.length + 1) * es.length ≤ ys.length * es.length := Nat.mul_le_mul_right _ hi2
      rw [Nat.add_mul] at this; omega
    have hsub : i * es.length + j - vs.length = (i - xs.length) * es.length + j := by
      rw [hl, Nat.sub_mul]
      have : xs.length * es.length ≤ i * es.length := Nat.mul_le_mul_right _ (by omega)
      omega
    show (vs ++ us ++ rest)[i * es.length + (0 + j)]? = _
    rw [List.append_assoc, List.getElem?_append_right (by omega), List.getElem?_append_left (by omega), Nat.zero_add, hsub]
    have r2' : us[(i - xs.length) * es.length + (0 + j)]? = some u := r2
    rwa [Nat.zero_add] at r2'

theorem isz {e : TypeId} {i : TypeInfo} (hi : P.info? e = some i) : sizeT P e = i.size ∧ P.bytesOf e = i.bytes := by
  simp [sizeT, Program.cellsOf, Program.bytesOf, hi]
theorem den_app_len {a b : E} {xs ys : List D} (h1 : a.den η.ρ = .lst xs) (h2 : b.den η.ρ = .lst ys) : (E.app a b).den η.ρ = .lst (xs ++ ys) ∧ (lenE (E.app a b)).den η.ρ = .int .i64 (xs ++ ys).length := by
  have h : (E.app a b).den η.ρ = .lst (xs ++ ys) := by simp [E.den, h1, h2, D.toL]
  refine ⟨h, ?_⟩
  rw [den_lenE]
  simp only [E.den] at h ⊢
  rw [h]; rfl
theorem grown_bounds {need old : Nat} {e : TypeId} (h : need < 2 ^ 63) : need ≤ grownCap w need old e ∧ grownCap w need old e ≤ maxLen := by
  have h2 : 0 < 2 ^ 63 - need := by omega
  have h3 := Nat.mod_lt (w.tape w.drawn (.appendCap need old e)) h2
  simp only [grownCap, Question.cut, maxLen]
  omega
theorem zero_one {z : Value} (h : z.cells.toList.all oneB = true) (k : Nat) : ∀ u ∈ (Builtin.zeroCells z.cells k).toList, One u := by
  intro u hu
  simp only [Builtin.zeroCells, Array.toList_map, List.mem_map] at hu
  obtain ⟨i, hi, rfl⟩ := hu
  rcases Nat.eq_zero_or_pos z.cells.size with h0 | h0
  · rw [h0] at hi; simp at hi
  · have hlt : i % z.cells.size < z.cells.size := Nat.mod_lt _ h0
    rw [getElem!_pos z.cells _ hlt]
    exact List.all_eq_true.1 h _ (by simp)
theorem far_of_inj (hw : WR Z η M blks w) {j : Nat} {B : Blk} {p : Nat × Nat} (hj : blks[j]? = some B) (hB : B ≠ .dead) (hp : η.al j = some p) : Far η (blks.set j .dead) p := by
  intro hp0 i C q hC hCd hq hq0 e
  rw [List.getElem?_set] at hC
  split at hC
  · split at hC
    · cases hC; exact hCd rfl
    · cases hC
  · rename_i hne
    exact hne (hw.inj i j C B q p hC hj hCd hB hq hp hq0 hp0 e).symm

theorem appendA_sound {c : Ctx} (hcP : c.P = P) (hcB : c.B = fun j => blks.getD j .dead) {T xT : TypeId} {X Y : AV} {out : Out} (h : appendA c T xT X Y = some out) (hw : WR Z η M blks w) (hnb : blks[c.nb]? = some .none) {x y : Value} (hX : AbsV η M X x) (hY : AbsV η M Y y) (hev : ∀ e ∈ out.evs, EvOK P G η.ρ e) (t : TypeId) :
    Done P Z η M blks w (Builtin.append_ #[T, xT] t #[x, y]) out := by
  unfold appendA at h
  rw [hcP, hcB] at h
  split at h
  rotate_left
  · cases h
  rename_i e hu
  split at h
  rotate_left
  · cases h
  rename_i es hes
  split at h
  rotate_left
  · cases h
  rename_i hc
  simp only [Bool.and_eq_true, decide_eq_true_eq] at hc
  obtain ⟨⟨⟨c1, c2⟩, c3⟩, c4⟩ := hc
  obtain ⟨i, z, hi, hz, z1, z2⟩ : ∃ i z, P.info? e = some i ∧ i.zero = some z ∧ z.cells.toList.all oneB = true ∧ z.cells.size = es.length := by
    unfold zerosOK at c4
    split at c4
    · rename_i z hz
      obtain ⟨i, hi, hz'⟩ := Option.bind_eq_some_iff.1 hz
      simp only [Bool.and_eq_true, decide_eq_true_eq] at c4
      exact ⟨i, z, hi, hz', c4.1, c4.2⟩
    · cases c4
  obtain ⟨hsz, hby⟩ := isz hi
  rw [hsz] at c2
  rw [hby] at c3
  split at h
  rotate_left
  · cases h
  rename_i j l ly hbase hsrc
  simp only [Option.some.injEq] at h
  subst h
  obtain ⟨ys, us, hys, hS, hgood, hone⟩ := appendSrc (P := P) hw hsrc hY
  rw [c2] at hS
  have hul : us.length = ys.length * es.length := by rw [c2]; exact hS.newsLen
  -- what is there already
  have base : ∃ (xs : List D) (vs : List Value) (a : Option Addr) (cc : Nat), l.den η.ρ = .lst xs ∧ x = .slice a xs.length cc ∧ xs.length ≤ cc ∧ vs.length = xs.length * es.length ∧ GoodRow M es xs vs ∧ (∀ v ∈ vs, One v) ∧
      (∀ w' : World, w'.heap = w.heap → (Builtin.firstCells es.length xs.length x).run P w' = .ok vs.toArray w') ∧
      ((cc = 0) ∨ (∃ jj b, j = some jj ∧ 0 < cc ∧ a = some ⟨b, 0, none⟩ ∧ blks[jj]? = some (.row es l false) ∧ η.al jj = some (b, cc))) ∧ (∀ jj, j = some jj → ∃ B, blks[jj]? = some B ∧ B ≠ .none) ∧ cc ≤ maxLen := by
    unfold baseOf at hbase
    split at hbase
    · cases hbase
      obtain ⟨a, rfl⟩ := AbsT_c (show AbsT η M (.c (.nilS _)) x from hX)
      have hn := nil_cells (P := P) (M := M) (w := w) (es := es) ⟨a, rfl⟩
      exact ⟨[], [], a, 0, rfl, rfl, by simp, by simp, (fun i x hx => by simp at hx), by simp, fun w' hh => by simpa using hn.run 0 (by simp) w' hh, .inl rfl, (fun jj e => by cases e), by simp⟩
    · rename_i jj es' n
      split at hbase
      · rename_i es'' l' hB
        split at hbase
        · rename_i hcc
          simp only [Bool.and_eq_true] at hcc
          cases hbase
          have e1 := Sh.sames_eq _ _ hcc.1.1
          have e2 := Sh.sames_eq _ _ hcc.1.2
          subst e1 e2
          have e3 := E.same_eq _ _ hcc.2
          have hjj := getD_some hB (by simp)
          have ha := AbsT_c (show AbsT η M (.c (.row jj es n)) x from hX)
          obtain ⟨xs, vs, hxs, hat⟩ := row_cells (P := P) hw hjj (by rw [← e3, den_lenE]) ha
          obtain ⟨b, cc, m, g1, g2, g3, g4, g5⟩ := ha
          have ht : vs.take (xs.length * es.length) = vs := by rw [← hat.size, List.take_length]
          have hrun : ∀ w' : World, w'.heap = w.heap → (Builtin.firstCells es.length xs.length x).run P w' = .ok vs.toArray w' := fun w' hh => by
            have := hat.run xs.length (Nat.le_refl _) w' hh; rwa [ht] at this
          obtain ⟨a0, c0, hx0⟩ := hat.val
          rcases g5 with ⟨g5, g6⟩ | ⟨g5, a, g6⟩
          · have hm : m = xs.length ∧ cc = c0 := by rw [hx0] at g6; simp at g6; exact ⟨g6.2.1.symm, g6.2.2.symm⟩
            obtain ⟨rfl, rfl⟩ := hm
            exact ⟨xs, vs, _, cc, hxs, g6, g3, hat.size, hat.good, hat.one, hrun, .inr ⟨jj, b, rfl, g5, rfl, hjj, g1⟩, (fun k e => by cases e; exact ⟨_, hjj, by simp⟩), g4⟩
          · have hm : 0 = xs.length := by rw [hx0] at g6; simp at g6; rw [g6.2.1]; rfl
            exact ⟨xs, vs, a, 0, hxs, by rw [g6, ← hm], by omega, hat.size, hat.good, hat.one, hrun, .inl rfl, (fun k e => by cases e; exact ⟨_, hjj, by simp⟩), by omega⟩
        · cases hbase
      · cases hbase
    · cases hbase
  obtain ⟨xs, vs, a, cc, hxs, rfl, hxc, hvl, hvg, hv1, hvrun, hcase, hjne, hccm⟩ := base
  obtain ⟨d1, d2⟩ := den_app_len hxs hys
  have hlen : (xs ++ ys).length ≤ 4294967296 := by
    have := obs_ok hev
    rw [den_mkCmp] at this
    simp only [E.den, d2, roomE, cmpB, D.toI] at this
    simp at this ⊢
    omega
  simp only [List.length_append] at hlen
  -- the row that is given up
  have hw1 : WR Z η M (applyU blks (killO j)) w := by
    cases j with
    | none => exact hw
    | some jj => exact hw.kill jj
  have hnb1 : (applyU blks (killO j))[c.nb]? = some .none := by
    cases j with
    | none => exact hnb
    | some jj =>
      have hne : jj ≠ c.nb := fun e => by
        obtain ⟨B, hB, hBn⟩ := hjne jj rfl
        rw [e, hnb] at hB
        cases hB; exact hBn rfl
      show (blks.set jj .dead)[c.nb]? = _
      rw [List.getElem?_set, if_neg hne]; exact hnb
  have hupd : applyU blks (killO j ++ [(c.nb, Blk.row es (.app l ly) false)]) = (applyU blks (killO j)).set c.nb (.row es (.app l ly) false) := by
    rw [applyU_append]; rfl
  have fin : ∀ {v : Value} {w' : World} {M' : Mem} {p : Nat × Nat}, (Builtin.append_ #[T, xT] t #[.slice a xs.length cc, y]).run P w = .ok v w' → M.le M' → WR Z η M' (applyU blks (killO j)) w' → RowAt M' w' es v (xs ++ ys) p → (0 < p.2 → Z.own p.1) → Far η (applyU blks (killO j)) p →
      Done P Z η M blks w (Builtin.append_ #[T, xT] t #[.slice a xs.length cc, y]) ⟨some (.v (.c (.row c.nb es (lenE (.app l ly))))), killO j ++ [(c.nb, Blk.row es (.app l ly) false)], obs (mkCmp .leq (lenE (.app l ly)) roomE)⟩ := by
    intro v w' M' p hrun hM hwr hrow hown hfar
    obtain ⟨h1, h2, h3⟩ := hwr.adoptRow (n := lenE (.app l ly)) hnb1 hrow d1 d2 hown hfar
    exact ⟨v, w', _, M', _, hrun, Env.le_set (hw1.blk _ _ hnb1), hM, by rw [hupd]; exact h1, rfl, AbsT_mk h2 h3⟩
  rcases Nat.lt_or_ge cc (xs.length + ys.length) with hg | hroom
  · -- a new row
    have hneed : xs.length + ys.length < 2 ^ 63 := by omega
    obtain ⟨b1, b2⟩ := grown_bounds (w := w) (old := cc) (e := e) hneed
    have hbb : (xs.length + ys.length) * i.bytes ≤ 140737488355328 := by
      have : (xs.length + ys.length) * i.bytes ≤ 4294967296 * 8192 := Nat.mul_le_mul hlen (by omega)
      omega
    have hrun := run_append_grow_src (P := P) w T xT t e i z hu hi hz a xs.length cc vs (by rw [← c2]; exact hvrun w.drew rfl) y ys.length us hS hg (by omega) (growslice_fits hg hbb)
    have hwd := hw1.drew
    generalize hnc : grownCap w (xs.length + ys.length) cc e = nc at hrun b1 b2
    have hzl : (Builtin.zeroCells z.cells (nc - (xs.length + ys.length))).toList.length = (nc - (xs.length + ys.length)) * es.length := by
      simp [Builtin.zeroCells, z2]
    have hcells : ((vs ++ us).toArray ++ Builtin.zeroCells z.cells (nc - (xs.length + ys.length))) = (vs ++ us ++ (Builtin.zeroCells z.cells (nc - (xs.length + ys.length))).toList).toArray := by
      apply Array.ext'; simp
    rw [hcells] at hrun
    have hlenc : (vs ++ us ++ (Builtin.zeroCells z.cells (nc - (xs.length + ys.length))).toList).length = nc * es.length := by
      rw [List.length_append, List.length_append, hvl, hul, hzl, ← Nat.add_mul, ← Nat.add_mul]
      congr 1; omega
    have hone' : ∀ v ∈ (vs ++ us ++ (Builtin.zeroCells z.cells (nc - (xs.length + ys.length))).toList), One v := by
      intro v hv
      simp only [List.mem_append] at hv
      rcases hv with (hv | hv) | hv
      · exact hv1 v hv
      · exact hone v hv
      · exact zero_one z1 _ v hv
    have hwr := alloc_row hwd hnb1 e (es := es) (l := .app l ly) (xs := xs ++ ys) (c := nc) d1 (by simp; omega) b2 hlenc hone' (hvg.append hgood hvl hul)
    refine ⟨.slice (some ⟨w.heap.size, 0, none⟩) (xs.length + ys.length) nc, _, _, M, _, hrun, Env.le_set (hw1.blk _ _ hnb1), Mem.le.refl _, by rw [hupd]; exact hwr, rfl, AbsT_mk (a := .row c.nb es (lenE (.app l ly))) ?_ rfl⟩
    refine ⟨w.heap.size, nc, (xs ++ ys).length, Env.set_same _ _ _, d2, by simp; omega, b2, .inl ⟨by omega, by simp⟩⟩
  · -- room in the old one
    rcases hcase with hc0 | ⟨jj, b, rfl, hc0, rfl, hjj, hal⟩
    · have hx0 : xs = [] := List.length_eq_zero_iff.1 (by omega)
      have hy0 : ys = [] := List.length_eq_zero_iff.1 (by omega)
      subst hx0 hy0 hc0
      have hu0 : us = [] := List.length_eq_zero_iff.1 (by rw [hul]; simp)
      subst hu0
      have hrun : (Builtin.append_ #[T, xT] t #[.slice a 0 0, y]).run P w = .ok (.slice a 0 0) w := by
        have h1 := hS.cells
        simp only [List.length_nil] at h1
        have h2 := hS.len
        simp only [List.length_nil] at h2
        rcases hS.kind with ⟨e', hk⟩ | hk <;> cases a <;> simp [Builtin.append_, run_underlying hu, run_underlying hk, sizeOf, typeInfo, hi, h2, h1, storeCells]
      exact fin (p := (0, 0)) hrun (Mem.le.refl _) hw1 ⟨by simp, by simp, .inr ⟨rfl, a, rfl⟩, fun h0 => by simp at h0⟩ (fun h0 => by simp at h0) (fun h0 => by simp at h0)
    · obtain ⟨b', c', xs', k1, k2, k3, k4, k5⟩ := hw.blk jj _ hjj
      rw [hal] at k1
      cases k1
      obtain ⟨r1, vs0, T', r2, r3, r4, r5, r6⟩ := k5 hc0
      rw [hxs] at k2
      cases k2
      have hroomc : xs.length * es.length + us.length ≤ vs0.length := by
        rw [r3, hul, ← Nat.add_mul]
        exact Nat.mul_le_mul_right _ hroom
      obtain ⟨w', s1, s2, s3, s4, s5, s6, s7⟩ := run_storeCells (P := P) us w b (xs.length * es.length) 0 vs0 T' hone r2 (by omega)
      have hrun : (Builtin.append_ #[T, xT] t #[.slice (some ⟨b, 0, none⟩) xs.length cc, y]).run P w = .ok (.slice (some ⟨b, 0, none⟩) (xs.length + ys.length) cc) w' := by
        have h1 := hS.cells
        have h2 := hS.len
        rw [c2] at s1
        rcases hS.kind with ⟨e', hk⟩ | hk <;> simp [Builtin.append_, run_underlying hu, run_underlying hk, sizeOf, typeInfo, hi, h2, hroom, h1, add_mk, s1]
      have hlt := hw.live_lt hjj (by simp) hal hc0
      have hwr : WR Z η M (blks.set jj .dead) w' := by
        refine (hw.kill jj).grow (S := fun k => k = b) ⟨s5, s6, s7, by omega, fun k _ hk => s3 k hk⟩ (fun k hk => by rw [hk]; exact hlt.2) (fun i C q hC hCd hq hq0 e => ?_) (Mem.le.refl _) (fun k o v hv => ?_) (fun k o v hv => hw.one _ _ _ hv) (fun _ _ _ _ => rfl)
        · exact far_of_inj hw hjj (by simp) hal hc0 i C q hC hCd hq hq0 e
        · have hne : k ≠ b := by rintro rfl; rw [r6] at hv; simp at hv
          rw [cell_congr (s3 k hne)]; exact hw.mem _ _ _ hv
      refine fin (p := (b, cc)) hrun (Mem.le.refl _) hwr ⟨by simp; omega, k4, .inl ⟨hc0, by simp⟩, fun _ => ⟨_, T', s2, by rw [setVs_length]; exact r3, setVs_one _ _ _ r4 hone, ?_, fun o => by rw [r6]; simp⟩⟩ (fun _ => hlt.2) (far_of_inj hw hjj (by simp) hal)
      -- what the cells hold now
      have hsplit : setVs vs0 (xs.length * es.length + 0) us = vs0.take (xs.length * es.length) ++ us ++ vs0.drop (xs.length * es.length + us.length) := by
        apply List.ext_getElem?
        intro k
        rw [setVs_get us vs0 _ k (by omega)]
        have hl1 : (vs0.take (xs.length * es.length)).length = xs.length * es.length := by rw [List.length_take]; omega
        by_cases h1 : k < xs.length * es.length
        · rw [if_neg (by omega), List.append_assoc, List.getElem?_append_left (by omega), List.getElem?_take, if_pos h1]
        · by_cases h2 : k < xs.length * es.length + us.length
          · rw [if_pos (by omega), List.append_assoc, List.getElem?_append_right (by omega), List.getElem?_append_left (by omega), hl1, Nat.add_zero]
          · rw [if_neg (by omega), List.append_assoc, List.getElem?_append_right (by omega), List.getElem?_append_right (by omega), List.getElem?_drop]
            congr 1; omega
      rw [hsplit]
      have ht := GoodRow.take (M := M) (es := es) (xs := xs) (vs := vs0) r5 xs.length
      rw [List.take_length] at ht
      exact ht.append hgood (by rw [List.length_take]; omega) hul
end

end Go.Proofs.Ytindphofgojfbaa.Sy
