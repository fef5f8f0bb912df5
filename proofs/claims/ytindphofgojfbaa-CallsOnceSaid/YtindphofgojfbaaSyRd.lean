/-
  A part of a symbolic walk that is proved sound: what the functions of a program do with data. No conditions.
-/
import Derived.Test.YtindphofgojfbaaSyRc
set_option linter.unusedSimpArgs false
set_option linter.unusedVariables false
namespace Go.Proofs.Ytindphofgojfbaa.Sy
open Go.RowKit
section
variable {Z : Base} {η : Env} {M : Mem} {blks : List Blk} {w : World} {P : Program} {G : Globs}

theorem foldl_push : ∀ (l : List Int) (r : ByteArray), l.foldl (fun r n => r.push (UInt8.ofNat n.toNat)) r = ⟨r.data ++ (l.map fun n => UInt8.ofNat n.toNat).toArray⟩
  | [], r => by simp
  | n :: l, r => by
    simp only [List.foldl_cons]
    rw [foldl_push l]
    simp [ByteArray.push]
theorem u8_cells : ∀ {ys : List D} {us : List Value}, GoodRow M [.int .u8] ys us → us.length = ys.length → ∃ ns : List Int, us = ns.map (Value.int .u8) ∧ ys = ns.map (D.int .u8)
  | [], [], _, _ => ⟨[], rfl, rfl⟩
  | y :: ys, u :: us, h, hl => by
    have h0 := h 0 y rfl
    rw [D.cells_one rfl] at h0
    obtain ⟨v, d, h1, h2, h3⟩ := h0.get 0 (.int .u8) rfl
    simp at h1 h2
    subst h1 h2
    rw [Rep_int] at h3
    obtain ⟨n, rfl, rfl, _⟩ := h3
    obtain ⟨ns, e1, e2⟩ := u8_cells (ys := ys) (us := us) (fun i x hx => by
      have := h (i + 1) x (by simpa using hx)
      refine RepCells.mk this.length fun j s hj => ?_
      obtain ⟨v, d, h1, h2, h3⟩ := this.get j s hj
      refine ⟨v, d, h1, ?_, h3⟩
      have h2' : (Value.int .u8 n :: us)[(i + 1) * 1 + (0 + j)]? = some v := h2
      show us[i * 1 + (0 + j)]? = some v
      rw [← h2', show (i + 1) * 1 + (0 + j) = (i * 1 + (0 + j)) + 1 by omega, List.getElem?_cons_succ]) (by simpa using hl)
    exact ⟨n :: ns, by simp [e1], by simp [e2]⟩
  | [], _ :: _, _, hl => by simp at hl
  | _ :: _, [], _, hl => by simp at hl

theorem bytesA_sound {c : Ctx} (hcP : c.P = P) (hcB : c.B = fun j => blks.getD j .dead) {s d : TypeId} {X : AV} {out : Out} (h : bytesA c s d X = some out) (hw : WR Z η M blks w) {x : Value} (hX : AbsV η M X x) : Done P Z η M blks w (convert s d x) out := by
  unfold bytesA at h
  rw [hcP] at h
  have u8of : ∀ {e : TypeId}, isU8 P e = true → P.underlying e = some (.int .u8) := fun {e} h => by
    unfold isU8 at h
    split at h
    · assumption
    · cases h
  split at h
  · rename_i e a hs hd
    split at h
    · rename_i he
      simp only [Option.some.injEq] at h
      subst h
      obtain ⟨sv, rfl, hsv, hsz⟩ := abs_str (show AbsT η M (.c (.d .str a)) x from hX)
      have hrun := Lib.run_convert_string_bytes (P := P) w s d e sv hs hd (u8of he)
      obtain ⟨b1, b2⟩ := grown_bounds (w := w) (need := sv.size) (old := 0) (e := e) (by unfold maxLen at hsz; omega)
      have hbel : Below w.heap.size w (Lib.bytesWorld w e sv) := ⟨by simp [Lib.bytesWorld, World.freeze, World.alloc, World.drew, -World.alloc_eq, -World.drew_eq], by simp [Lib.bytesWorld, World.freeze, World.alloc, World.drew, -World.alloc_eq, -World.drew_eq], by simp [Lib.bytesWorld, World.freeze, World.alloc, World.drew, -World.alloc_eq, -World.drew_eq], by rw [Lib.bytesWorld_size]; omega, fun k hk => Lib.bytesWorld_at_old w e sv k hk⟩
      let M' : Mem := fun b o => if b = w.heap.size then (if o < sv.size then some (.int .u8 (sv.data.toList.getD o 0).toNat) else none) else M b o
      have hM : M.le M' := fun b o v hv => by
        have : b ≠ w.heap.size := by rintro rfl; rw [hw.fresh] at hv; cases hv
        show (if b = w.heap.size then _ else _) = _
        rw [if_neg this]; exact hv
      have hmem : ∀ b o v, M' b o = some v → (Lib.bytesWorld w e sv).cell? ⟨b, o, none⟩ = some v ∧ One v := by
        intro b o v hv
        by_cases hb : b = w.heap.size
        · subst hb
          simp only [M', if_true] at hv
          split at hv
          · rename_i ho
            cases hv
            exact ⟨Lib.bytesWorld_cell w e sv o ho, rfl⟩
          · cases hv
        · simp only [M', if_neg hb] at hv
          have hlt := lt_of_cell (hw.mem b o v hv)
          exact ⟨by rw [Lib.bytesWorld_old w e sv _ hlt]; exact hw.mem b o v hv, hw.one b o v hv⟩
      have hwr := hw.grow (S := fun _ => False) (M' := M') (BelowX.of hbel) (fun _ h => h.elim) (fun _ _ _ _ _ _ _ h => h) hM (fun b o v hv => (hmem b o v hv).1) (fun b o v hv => (hmem b o v hv).2) (fun b o hb _ => by
        show (if b = w.heap.size then _ else _) = _
        rw [if_neg (by omega)])
      have hlen := bytesD_length sv
      refine ⟨_, _, η, M', _, hrun, Env.le.refl _, hM, hwr, rfl, mk_lst ?_⟩
      rw [show (E.s2b a).den η.ρ = .lst (bytesD sv) by simp [E.den, hsv, D.toS], Rep_lst]
      refine ⟨_, rfl, by rw [hlen]; exact hsz, .inr ⟨w.heap.size, 0, none, _, by rw [hlen], fun _ => rfl, by rw [hlen]; exact b1, b2, fun i y hy => ?_⟩⟩
      have hi : i < sv.size := by rw [← hlen]; exact (List.getElem?_eq_some_iff.1 hy).1
      refine RepCells.mono (Mem.le.refl _) _ _ _ _ _ (fun o v hv => ?_) (RepCells.mono hM _ _ _ _ _ (fun _ _ h => h) (bytes_good (M := M) sv i y hy))
      have hv' : (byteCells sv)[i * 1 + o]? = some v := hv
      have hlt : i * 1 + o < sv.size := by
        have := (List.getElem?_eq_some_iff.1 hv').1
        rwa [byteCells_length] at this
      show M' w.heap.size (0 + i * 1 + o) = some v
      simp only [M', if_true]
      rw [if_pos (by omega)]
      have hlt2 : i * 1 + o < sv.data.toList.length := by rw [Array.length_toList]; exact hlt
      simp only [byteCells, List.getElem?_map, List.getElem?_eq_getElem hlt2, Option.map_some, Option.some.injEq] at hv'
      rw [← hv', show 0 + i * 1 + o = i * 1 + o by omega]
      rw [List.getD_eq_getElem?_getD, List.getElem?_eq_getElem hlt2]
      rfl
    · cases h
  · rename_i _ e hs hd
    split at h
    · rename_i he
      split at h
      · rename_i l hl
        simp only [Option.some.injEq] at h
        subst h
        rw [hcB] at hl
        obtain ⟨ys, us, hys, hat⟩ := srcOf_at (P := P) hw hl hX
        obtain ⟨ao, cp, rfl⟩ := hat.val
        have hul : us.length = ys.length := by rw [hat.size]; simp
        obtain ⟨ns, rfl, rfl⟩ := u8_cells hat.good hul
        have hrun0 := hat.run (ns.map (D.int .u8)).length (Nat.le_refl _) w rfl
        rw [show (ns.map (Value.int .u8)).take ((ns.map (D.int .u8)).length * [Sh.int .u8].length) = ns.map (Value.int .u8) from List.take_of_length_le (by simp)] at hrun0
        have hden : (E.b2s l).den η.ρ = .str (ByteArray.mk (ns.map fun n => UInt8.ofNat n.toNat).toArray) := by
          simp only [E.den, hys, D.toL, strD, List.map_map]
          rfl
        have hval : (convert s d (.slice ao (ns.map (D.int .u8)).length cp)).run P w = .ok (.string (ByteArray.mk (ns.map fun n => UInt8.ofNat n.toNat).toArray)) w := by
          rw [run_convert_bytes_string w s d e ao _ cp hs (u8of he) hd]
          cases ao with
          | none =>
            have : ns = [] := by
              simp only [Builtin.firstCells, Sem.run_pure, Result.ok.injEq, and_true] at hrun0
              have h2 := congrArg Array.size hrun0
              simp at h2
              exact List.length_eq_zero_iff.1 h2.symm
            subst this
            simp [Conv.bytesToString]
            try rfl
          | some a =>
            rw [run_bytesToString w a _ cp ns (by simpa [Builtin.firstCells] using hrun0), foldl_push]
            simp
            try rfl
        refine done_pure hw hval rfl (mk_str hden ?_)
        have := hat.len
        simp only [List.length_map] at this
        have h2 : (ByteArray.mk (ns.map fun n => UInt8.ofNat n.toNat).toArray).size = ns.length := by
          show (ns.map fun n => UInt8.ofNat n.toNat).toArray.size = _
          simp
        omega
      · cases h
    · cases h
  · -- a slice of bytes to its own type: the place behind its last cell is marked
    rename_i e e' j es n hs hd
    split at h
    rotate_left
    · cases h
    rename_i hc
    simp only [Bool.and_eq_true] at hc
    obtain ⟨⟨⟨he, hee⟩, hsd⟩, hes⟩ := hc
    have hee := Nat.eq_of_beq_eq_true hee
    have hsd := Nat.eq_of_beq_eq_true hsd
    subst hee hsd
    split at h
    rotate_left
    · cases h
    rename_i es' l hB
    split at h
    rotate_left
    · cases h
    rename_i m0 hlit
    split at h
    rotate_left
    · cases h
    rename_i hc2
    simp only [Bool.and_eq_true] at hc2
    simp only [Option.some.injEq] at h
    subst h
    have h1 := Sh.sames_eq _ _ hes
    have h2 := Sh.sames_eq _ _ hc2.1
    have h3 := E.same_eq _ _ hc2.2
    subst h1 h2
    rw [hcB] at hB
    have hj := getD_some hB (by simp)
    obtain ⟨xs, hxs, hxl⟩ := litLen_den (ρ := η.ρ) l _ hlit
    obtain ⟨b, cc, m, g1, g2, g3, g4, g5⟩ := AbsT_c (show AbsT η M (.c (.row j [.int .u8] n)) x from hX)
    obtain ⟨b', c', xs', k1, k2, k3, k4, k5⟩ := hw.blk j _ hj
    rw [g1] at k1
    cases k1
    rw [hxs] at k2
    cases k2
    have hc0 : 0 < cc := by omega
    have hm : m = xs.length := by
      rw [← h3, den_lenE] at g2
      simp only [E.den, hxs, D.len, D.int.injEq, true_and] at g2
      omega
    have hx2 : x = .slice (some ⟨b, 0, none⟩) m cc := by
      rcases g5 with ⟨_, h⟩ | ⟨h, _⟩
      · exact h
      · omega
    subst hx2
    obtain ⟨h5, vs, T, h6, h7, h8, h9, h10⟩ := k5 hc0
    have hu8 := u8of he
    let w' : World := w.freeze ⟨b, vs.length, none⟩ 1
    have hb' : w'.heap[b]? = some (.cells vs.toArray T (vs.length, vs.length + 1)) := by
      simp [w', World.freeze, Array.getElem?_modify, h6]
    have hoth : ∀ k, k ≠ b → w'.heap[k]? = w.heap[k]? := fun k hk => by
      show (w.freeze ⟨b, vs.length, none⟩ 1).heap[k]? = _
      unfold World.freeze
      rw [if_neg (by decide)]
      simp only [Array.getElem?_modify]
      rw [if_neg (Ne.symm hk)]
    have hsz : w'.heap.size = w.heap.size := by simp [w', World.freeze]
    have hos : w'.os = w.os := by simp [w', World.freeze]
    have htp : w'.tape = w.tape := by simp [w', World.freeze]
    have hou : w'.output = w.output := by simp [w', World.freeze]
    have hrun : (convert s s (.slice (some ⟨b, 0, none⟩) m cc)).run P w = .ok (.slice (some ⟨b, 0, none⟩) m cc) w' := by
      have hshape : w.shape? b = some (T, vs.length) := by simp [World.shape?, h6]
      simp [convert, run_underlying hs, run_underlying hu8, markStringish, hshape, w', Result.andThen]
    have hnone : ∀ o, M b o = none := fun o => by rw [h10 o]; simp
    let M' : Mem := fun k o => if k = b then (if o < xs.length then vs[o]? else none) else M k o
    have hM : M.le M' := fun k o v hv => by
      by_cases ek : k = b
      · subst ek; rw [hnone] at hv; cases hv
      · simp only [M', if_neg ek]; exact hv
    have hwr : WR Z η M' (blks.set j .dead) w' := by
      refine hw.update hj (by simp) g1 hc0 hsz hos htp hou hoth hM (fun k hk o => by simp only [M', if_neg hk]) ?_ trivial (by simp)
      intro o v hv
      simp only [M', if_true] at hv
      split at hv
      · exact ⟨by rw [cell_of_heap hb']; simpa using hv, h8 v (List.mem_of_getElem? hv)⟩
      · cases hv
    refine ⟨_, w', η, M', _, hrun, Env.le.refl _, hM, hwr, rfl, mk_lst ?_⟩
    rw [hxs, Rep_lst]
    refine ⟨xs, rfl, by omega, .inr ⟨b, 0, none, cc, by rw [hm], fun _ => rfl, k3, k4, fun i y hy => ?_⟩⟩
    have hi : i < xs.length := (List.getElem?_eq_some_iff.1 hy).1
    refine RepCells.mk (h9 i y hy).length fun q sq hq => ?_
    obtain ⟨v, d, q1, q2, q3⟩ := (h9 i y hy).get q sq hq
    have hq0 : q = 0 := by
      cases q with
      | zero => rfl
      | succ q => simp at hq
    subst hq0
    refine ⟨v, d, q1, ?_, Rep.mono hM _ _ _ q3⟩
    show M' b (0 + i * 1 + (0 + 0)) = some v
    simp only [M', if_true]
    rw [if_pos (by omega), ← q2]
    show vs[_]? = vs[i * 1 + (0 + 0)]?
    congr 1
    omega
  · cases h

theorem GoodRow.setRow {es : List Sh} {xs : List D} {vs us : List Value} (h : GoodRow M es xs vs) {i : Nat} {x : D} (hi : i < xs.length) (hu : us.length = es.length) (hr : RepCells M es (fun o => us[o]?) 0 (x.cells es)) (hl : vs.length = xs.length * es.length) : GoodRow M es (xs.set i x) (setVs vs (i * es.length) us) := by
  have hroom : i * es.length + us.length ≤ vs.length := by
    have : (i + 1) * es.length ≤ xs.length * es.length := Nat.mul_le_mul_right _ hi
    rw [Nat.add_mul] at this; omega
  intro k y hy
  rw [List.getElem?_set] at hy
  by_cases e : i = k
  · subst e
    rw [if_pos rfl, if_pos hi] at hy
    cases hy
    refine RepCells.mk hr.length fun j s hj => ?_
    obtain ⟨v, d, h1, h2, h3⟩ := hr.get j s hj
    have hjl : j < es.length := (List.getElem?_eq_some_iff.1 hj).1
    refine ⟨v, d, h1, ?_, h3⟩
    show (setVs vs (i * es.length) us)[i * es.length + (0 + j)]? = _
    rw [setVs_get us vs _ _ hroom, if_pos (by omega)]
    rw [← h2]; congr 1; omega
  · rw [if_neg e] at hy
    have := h k y hy
    refine RepCells.mk this.length fun j s hj => ?_
    obtain ⟨v, d, h1, h2, h3⟩ := this.get j s hj
    have hjl : j < es.length := (List.getElem?_eq_some_iff.1 hj).1
    refine ⟨v, d, h1, ?_, h3⟩
    show (setVs vs (i * es.length) us)[k * es.length + (0 + j)]? = _
    rw [setVs_get us vs _ _ hroom, if_neg]
    · exact h2
    · rintro ⟨h4, h5⟩
      rcases Nat.lt_or_ge k i with hlt | hge
      · have : (k + 1) * es.length ≤ i * es.length := Nat.mul_le_mul_right _ hlt
        rw [Nat.add_mul] at this; omega
      · have : (i + 1) * es.length ≤ k * es.length := Nat.mul_le_mul_right _ (by omega)
        rw [Nat.add_mul] at this; omega

theorem prepAs_len {B : Nat → Blk} : ∀ {ks : List CK} {as : List A} {r : List E × List Nat × List (Option Nat)}, prepAs B ks as = some r → as.length = ks.length ∧ r.1.length = ks.length
  | [], [], r, h => by simp only [prepAs, Option.some.injEq] at h; subst h; exact ⟨rfl, rfl⟩
  | k :: ks, a :: as, r, h => by
    simp only [prepAs] at h
    split at h
    · rename_i hp hps
      simp only [Option.some.injEq] at h
      subst h
      have := prepAs_len hps
      simp [this.1]; exact this.2
    · cases h
  | [], _ :: _, r, h => by simp [prepAs] at h
  | _ :: _, [], r, h => by simp [prepAs] at h
theorem fillE_rows {c : Ctx} {e : TypeId} {es : List Sh} (hcB : c.B = fun j => blks.getD j .dead) : ∀ (parts : List (Nat × Operand)) (l l' : List E) (f : List Nat), fillE c e es l parts = some (l', f) → ∀ j ∈ f, ∃ es l fr, blks.getD j .dead = .row es l fr
  | [], l, l', f, h => by
    simp only [fillE, Option.some.injEq, Prod.mk.injEq] at h
    obtain ⟨_, rfl⟩ := h
    intro j hj; cases hj
  | (i, q) :: rest, l, l', f, h => by
    simp only [fillE] at h
    split at h
    · split at h
      · split at h
        · rename_i hp
          split at h
          · split at h
            · rename_i hrest
              simp only [Option.some.injEq, Prod.mk.injEq] at h
              obtain ⟨_, rfl⟩ := h
              rw [hcB] at hp
              exact fun j hj => (List.mem_append.1 hj).elim (rows_of_prepAs hp j) (fillE_rows hcB rest _ _ _ hrest j)
            · cases h
          · cases h
        · cases h
      · cases h
    · cases h
theorem fillE_sound {c : Ctx} (hcP : c.P = P) {e : TypeId} {es : List Sh} {blks0 : List Blk} (hcB : c.B = fun j => blks0.getD j .dead) {M0 : Mem} (hM : M0.le M) {a : Act} (hx : ∀ q, AbsV η M0 (c.x q) (a.eval q)) (hF : WR Z η M blks w) (h0 : 0 < es.length) :
    ∀ (parts : List (Nat × Operand)) (l l' : List E) (f : List Nat) (cells : Array Value), fillE c e es l parts = some (l', f) → Frz blks0 blks f → GoodRow M es (l.map (·.den η.ρ)) cells.toList → cells.size = l.length * es.length → (∀ v ∈ cells.toList, One v) →
      ∃ cells', Instr.fill (fun i => some (i * es.length, es.length)) cells (parts.map fun p => (p.1, a.eval p.2)) = some cells' ∧ GoodRow M es (l'.map (·.den η.ρ)) cells'.toList ∧ cells'.size = l.length * es.length ∧ l'.length = l.length ∧ ∀ v ∈ cells'.toList, One v
  | [], l, l', f, cells, h, _, hg, hs, ho => by
    simp only [fillE, Option.some.injEq, Prod.mk.injEq] at h
    obtain ⟨rfl, _⟩ := h
    exact ⟨cells, rfl, hg, hs, rfl, ho⟩
  | (i, q) :: rest, l, l', f, cells, h, hf, hg, hs, ho => by
    simp only [fillE] at h
    split at h
    rotate_left
    · cases h
    rename_i t ht
    split at h
    rotate_left
    · cases h
    rename_i as has
    split at h
    rotate_left
    · cases h
    rename_i xs f1 hp
    split at h
    rotate_left
    · cases h
    rename_i hi
    split at h
    rotate_left
    · cases h
    rename_i l2 f2 hrest
    simp only [Option.some.injEq, Prod.mk.injEq] at h
    obtain ⟨rfl, rfl⟩ := h
    have hv : AbsT η M0 t (a.eval q) := by
      have := fixA_abs (P := c.P) (T := e) (hx q)
      rw [ht] at this
      exact this
    have hcs := (as_cells has hv).mono (Env.le.refl _) hM
    rw [hcB] at hp
    obtain ⟨g1, g2⟩ := prepAs_sound hF hp hf.left (fun j hj => by cases hj) hcs
    obtain ⟨g3, g4⟩ := cellsR_data g1
    have hpl := (prepAs_len hp).2
    simp only [List.length_map] at hpl
    have hcells : ((elemE es xs).den η.ρ).cells es = xs.map (·.den η.ρ) := elemE_cells hpl h0
    have hset := GoodRow.setRow (us := (a.eval q).cells.toList) hg (i := i) (x := (elemE es xs).den η.ρ) (by simpa using hi) g3 (by rw [hcells]; exact g4) (by simpa using hs)
    have hfold := foldl_fill (i * es.length) (a.eval q).cells.toList 0 cells
    rw [← Array.toList_zipIdx, Array.foldl_toList, Nat.add_zero] at hfold
    rw [← List.map_set] at hset
    obtain ⟨cells', r1, r2, r3, r4, r5⟩ := fillE_sound hcP hcB hM hx hF h0 rest (l.set i (elemE es xs)) _ _ ((a.eval q).cells.zipIdx.foldl (fun cs (p : Value × Nat) => cs.setIfInBounds (i * es.length + p.2) p.1) cells) hrest hf.right (by rw [hfold]; exact hset)
      (by rw [← Array.length_toList, hfold, setVs_length]; simpa using hs) (by rw [hfold]; exact setVs_one _ _ _ ho hcs.one)
    refine ⟨cells', ?_, r2, by simpa using r3, by simpa using r4, r5⟩
    simp only [List.map_cons, Instr.fill]
    have hsz2 : (a.eval q).cells.size = es.length := by rw [← Array.length_toList]; exact g3
    have hroom : i * es.length + es.length ≤ cells.size := by
      rw [hs]
      have : (i + 1) * es.length ≤ l.length * es.length := Nat.mul_le_mul_right _ hi
      rwa [Nat.add_mul, Nat.one_mul] at this
    rw [if_neg (by simp [hsz2]; omega)]
    exact r1

theorem buildSliceA_sound {c : Ctx} (hcP : c.P = P) (hcB : c.B = fun j => blks.getD j .dead) {a : Act} (hx : ∀ q, AbsV η M (c.x q) (a.eval q)) {T : TypeId} {n : Nat} {parts : Array (Nat × Operand)} {out : Out} (h : buildSliceA c T n parts = some out) (hw : WR Z η M blks w) (hnb : blks[c.nb]? = some .none) :
    Done P Z η M blks w (Instr.buildSlice T n (parts.map fun p => (p.1, a.eval p.2))) out := by
  unfold buildSliceA at h
  rw [hcP] at h
  split at h
  rotate_left
  · cases h
  rename_i e hu
  split at h
  rotate_left
  · cases h
  rename_i es z hes hz
  split at h
  rotate_left
  · cases h
  rename_i zl hzl
  split at h
  rotate_left
  · cases h
  rename_i xs hxs
  split at h
  rotate_left
  · cases h
  rename_i hc
  obtain ⟨c1, c2, c3⟩ := hc
  split at h
  rotate_left
  · cases h
  rename_i l f hf
  simp only [Option.some.injEq] at h
  subst h
  obtain ⟨i, hi, hz'⟩ := Option.bind_eq_some_iff.1 hz
  obtain ⟨hsz, _⟩ := isz hi
  have hza := zeroAs_abs (η := η) (M := M) hzl
  obtain ⟨r1, r2, r3⟩ := dataAs_rep hxs hza
  have hzs : z.cells.size = es.length := by simpa using r1
  obtain ⟨M1, m1, w1, fz⟩ := freezeAll f blks hw (fun j hj => by
    obtain ⟨es, l, fr, he⟩ := fillE_rows hcB _ _ _ _ hf j hj
    exact ⟨es, l, fr, he, .inl (getD_some he (by simp))⟩)
  have hget : ∀ (k o : Nat), k < n → o < es.length → ((Array.range (n * es.length)).map fun j => z.cells[j % z.cells.size]!).toList[k * es.length + o]? = z.cells.toList[o]? := by
    intro k o hk ho
    have hlt : k * es.length + o < n * es.length := by
      have : (k + 1) * es.length ≤ n * es.length := Nat.mul_le_mul_right _ hk
      rw [Nat.add_mul] at this; omega
    rw [Array.toList_map, Array.toList_range, List.getElem?_map, List.getElem?_range hlt]
    simp only [Option.map_some]
    rw [hzs, show (k * es.length + o) % es.length = o by rw [Nat.mul_comm, Nat.mul_add_mod]; exact Nat.mod_eq_of_lt ho]
    rw [getElem!_pos z.cells o (by omega)]
    simp [show o < z.cells.size by omega]
  have hone0 : ∀ v ∈ ((Array.range (n * es.length)).map fun j => z.cells[j % z.cells.size]!).toList, One v := by
    intro v hv
    simp only [Array.toList_map, List.mem_map] at hv
    obtain ⟨j, _, rfl⟩ := hv
    have hlt : j % z.cells.size < z.cells.size := Nat.mod_lt _ (by omega)
    rw [getElem!_pos z.cells _ hlt]
    exact hza.one _ (by simp)
  have hgood0 : GoodRow M1 es ((List.replicate n (elemE es xs)).map (·.den η.ρ)) ((Array.range (n * es.length)).map fun j => z.cells[j % z.cells.size]!).toList := by
    intro k y hy
    rw [List.map_replicate, List.getElem?_replicate] at hy
    split at hy
    · rename_i hk
      cases hy
      rw [elemE_cells r2 c1]
      refine RepCells.mk (by simpa using r2) fun j s hj => ?_
      have hjl : j < es.length := (List.getElem?_eq_some_iff.1 hj).1
      obtain ⟨v, hv, hrep⟩ := r3 j s xs[j] hj (List.getElem?_eq_getElem (by omega))
      refine ⟨v, xs[j].den η.ρ, by simp [show j < xs.length by omega], ?_, Rep.mono m1 _ _ _ hrep⟩
      show ((Array.range (n * es.length)).map fun j => z.cells[j % z.cells.size]!).toList[k * es.length + (0 + j)]? = _
      rw [Nat.zero_add, hget k j hk hjl]; exact hv
    · cases hy
  obtain ⟨cells', s1, s2, s3, s4, s5⟩ := fillE_sound (P := P) hcP hcB m1 hx w1 c1 parts.toList _ l f _ hf fz hgood0 (by simp) hone0
  simp only [List.length_replicate] at s3 s4
  have hnbf : ∀ p ∈ f.map (fun j => (j, frozenB (c.B j))), p.1 ≠ c.nb := by
    intro p hp e2
    obtain ⟨j, hj, rfl⟩ := List.mem_map.1 hp
    obtain ⟨_, _, _, he⟩ := fillE_rows hcB _ _ _ _ hf j hj
    simp only at e2
    rw [e2, List.getD_eq_getElem?_getD, hnb] at he
    cases he
  have hBf : (f.map fun j => (j, frozenB (blks.getD j .dead))) = f.map fun j => (j, frozenB (c.B j)) := by rw [hcB]
  rw [hBf] at w1
  have hnb1 : (applyU blks (f.map fun j => (j, frozenB (c.B j))))[c.nb]? = some .none := by rw [applyU_other _ _ _ hnbf]; exact hnb
  have hden : (consE l).den η.ρ = .lst (l.map (·.den η.ρ)) := consE_den _ _
  have hwr := alloc_row w1 hnb1 e (es := es) (l := consE l) (xs := l.map (·.den η.ρ)) (vs := cells'.toList) (c := n) hden (by simp; omega) (by unfold maxLen; have : n * 1 ≤ n * es.length := Nat.mul_le_mul_left _ c1; omega) (by rw [Array.length_toList]; exact s3) s5 s2
  have hrun : (Instr.buildSlice T n (parts.map fun p => (p.1, a.eval p.2))).run P w = .ok (.slice (some ⟨w.heap.size, 0, none⟩) n n) (w.alloc (.cells cells' e)) := by
    have h24 : ¬ (16777216 < n * i.size) := by rw [← hsz, ← c2]; omega
    have hs1 : Instr.fill (fun j => some (j * i.size, i.size)) ((Array.range (n * i.size)).map fun j => z.cells[j % z.cells.size]!) (parts.toList.map fun p => (p.1, a.eval p.2)) = some cells' := by
      rw [← hsz, ← c2]; exact s1
    by_cases hz0 : n * i.size = 0
    · have e0 : ∀ g : Nat → Value, Array.map g (Array.range 0) = #[] := fun g => by apply Array.ext'; simp
      rw [hz0, e0] at hs1
      simp [Instr.buildSlice, run_underlying hu, sizeOf, typeInfo, hi, h24, hz0, e0, hs1, newRow]
    · simp [Instr.buildSlice, run_underlying hu, sizeOf, typeInfo, hi, h24, hz0, zeroValue, hz', hs1, newRow]
  rw [show cells'.toList.toArray = cells' by simp] at hwr
  refine ⟨.slice (some ⟨w.heap.size, 0, none⟩) n n, _, _, M1, _, hrun, Env.le_set (w1.blk _ _ hnb1), m1, by rw [applyU_append]; exact hwr, rfl, AbsT_mk (a := .row c.nb es (lenE (consE l))) ?_ rfl⟩
  refine ⟨w.heap.size, n, n, Env.set_same _ _ _, ?_, Nat.le_refl _, by unfold maxLen; have : n * 1 ≤ n * es.length := Nat.mul_le_mul_left _ c1; omega, ?_⟩
  · rw [den_lenE]
    simp only [E.den, Env.set, hden, D.len, List.length_map, s4]
  · rcases Nat.eq_zero_or_pos n with h0 | h0
    · exact .inr ⟨h0, _, by rw [h0]⟩
    · exact .inl ⟨h0, rfl⟩
end

end Go.Proofs.Ytindphofgojfbaa.Sy
