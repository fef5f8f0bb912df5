/-
  A part of a symbolic walk that is proved sound: what the functions of a program do with data. No conditions.
-/
import Derived.Test.YtindphofgojfbaaSyN
set_option linter.unusedSimpArgs false
set_option linter.unusedVariables false
namespace Go.Proofs.Ytindphofgojfbaa.Sy
open Go.RowKit
section
variable {Z : Base} {η : Env} {M : Mem} {blks : List Blk} {w : World} {P : Program} {G : Globs}

theorem WR.fresh (h : WR Z η M blks w) (o : Nat) : M w.heap.size o = none := by
  cases hm : M w.heap.size o with
  | none => rfl
  | some v => have := lt_of_cell (h.mem _ _ _ hm); omega

theorem alloc_cells (h : WR Z η M blks w) {nb : Nat} (hnb : blks[nb]? = some .none) {l : List A} {vs : List Value} (hl : AbsL η M l vs) (T : TypeId) :
    WR Z (η.set nb (w.heap.size, 1)) M (blks.set nb (.cells l)) (w.alloc (.cells vs.toArray T)) := by
  have hal : η.al nb = none := h.blk nb _ hnb
  exact h.alloc hnb ⟨w.heap.size, 1, vs, T, Env.set_same _ _ _, rfl, .inl h.size, heap_new _ _, hl.mono (Env.le_set hal) (Mem.le.refl _), h.fresh⟩ (by simp)
theorem alloc_row (h : WR Z η M blks w) {nb : Nat} (hnb : blks[nb]? = some .none) {es : List Sh} {l : E} {xs : List D} {vs : List Value} {c : Nat} (T : TypeId) (hd : l.den η.ρ = .lst xs) (h1 : xs.length ≤ c) (h2 : c ≤ maxLen) (h3 : vs.length = c * es.length)
    (h4 : ∀ v ∈ vs, One v) (h5 : GoodRow M es xs vs) :
    WR Z (η.set nb (w.heap.size, c)) M (blks.set nb (.row es l false)) (w.alloc (.cells vs.toArray T)) :=
  h.alloc hnb ⟨w.heap.size, c, xs, Env.set_same _ _ _, hd, h1, h2, fun _ => ⟨.inl h.size, vs, T, heap_new _ _, h3, h4, h5, fun o => by rw [h.fresh o]; simp⟩⟩ (by simp)

theorem newBlk_sound (h : WR Z η M blks w) {nb : Nat} (hnb : blks[nb]? = some .none) {T : TypeId} {l : List A} {vs : List Value} {B : Blk} {p : Nat → A} (hl : AbsL η M l vs) (hn : newBlk P T l = some (B, p)) :
    ∃ c, WR Z (η.set nb (w.heap.size, c)) M (blks.set nb B) (w.alloc (.cells vs.toArray T)) ∧ AbsA (η.set nb (w.heap.size, c)) M (p nb) (.pointer (some ⟨w.heap.size, 0, none⟩)) := by
  unfold newBlk at hn
  split at hn
  · rename_i n e hu
    split at hn
    · rename_i s hs
      split at hn
      · rename_i xs hxs
        split at hn
        · cases hn
        · rename_i hn0
          cases hn
          obtain ⟨r1, r2, r3⟩ := dataAs_rep hxs hl
          simp at r1 r2
          have hmax : n ≤ maxLen := by omega
          refine ⟨n, alloc_row h hnb T (xs := xs.map (·.den η.ρ)) (consE_den _ _) (by simp [r2]) hmax (by simp [r1]) hl.one ?_, ⟨_, _, 0, Env.set_same _ _ _, rfl, by simp⟩⟩
          intro i x hx
          simp only [List.getElem?_map, Option.map_eq_some_iff] at hx
          obtain ⟨e', he', rfl⟩ := hx
          have hi : i < n := by rw [← r2]; exact (List.getElem?_eq_some_iff.1 he').1
          obtain ⟨v, hv, hr⟩ := r3 i s e' (by simp [hi]) he'
          rw [D.cells_one rfl]
          refine RepCells.mk rfl fun j s' hj => ?_
          cases j with
          | zero => simp at hj; subst hj; exact ⟨v, _, rfl, by simpa using hv, hr⟩
          | succ j => simp at hj
      · cases hn
    · cases hn
      exact ⟨1, alloc_cells h hnb hl T, _, _, Env.set_same _ _ _, rfl⟩
    · cases hn
  · cases hn
    exact ⟨1, alloc_cells h hnb hl T, _, _, Env.set_same _ _ _, rfl⟩
  · cases hn

theorem run_alloc {T : TypeId} {z : Value} {i : TypeInfo} (hi : P.info? T = some i) (hz : i.zero = some z) : (Instr.alloc T true (.tuple #[])).run P w = .ok (.pointer (some ⟨w.heap.size, 0, none⟩)) (w.alloc (.cells z.cells T)) := by
  simp [Instr.alloc, zeroValue, typeInfo, hi, hz, newVar, newRow]
theorem run_box {T : TypeId} {v : Value} : (Instr.box T v).run P w = .ok (.pointer (some ⟨w.heap.size, 0, none⟩)) (w.alloc (.cells v.cells T)) := by
  simp [Instr.box, newVar, newRow]

theorem fieldAddrA_sound {S : TypeId} {f : Nat} {g : Field} (hf : fieldOf P S f = some g) (hg : sizeT P g.type ≠ 0) {a r : A} {v : Value} (h : fieldAddrA g.offset a = some r) (ha : AbsA η M a v) :
    ∃ v', (Instr.fieldAt S v f).run P w = .ok v' w ∧ AbsA η M r v' ∧ One v' := by
  unfold fieldOf at hf
  split at hf
  · rename_i fs hu
    have hgu : (sizeOf g.type).run P w = .ok (sizeT P g.type) w := by
      cases hi : P.info? g.type with
      | none => simp [sizeT, Program.cellsOf, hi] at hg
      | some i => simp [sizeOf, typeInfo, hi, sizeT, Program.cellsOf]
    have key : ∀ b o, (Instr.fieldAt S (.pointer (some ⟨b, o, none⟩)) f).run P w = .ok (.pointer (some ⟨b, o + g.offset, none⟩)) w := by
      intro b o
      simp [Instr.fieldAt, run_underlying hu, hf, Instr.sureAddr, fieldPlace, hgu, hg, add_mk]
    unfold fieldAddrA at h
    split at h <;> cases h
    · obtain ⟨b, c, h1, rfl⟩ := ha
      exact ⟨_, key _ _, ⟨b, c, h1, rfl⟩, rfl⟩
    · obtain ⟨b, q, rfl, h1⟩ := ha
      exact ⟨_, key _ _, ⟨b, q, by simp [Nat.add_assoc], h1⟩, rfl⟩
    · obtain ⟨b, c, m, h1, h2, rfl⟩ := ha
      exact ⟨_, key _ _, ⟨b, c, m, h1, h2, by simp [Nat.add_assoc]⟩, rfl⟩
  · cases hf

theorem idxObs_ok {i n : E} {k : IntKind} {x y : Int} (hi : i.den η.ρ = .int k x) (hn : n.den η.ρ = .int .i64 y) (h : ∀ e ∈ idxObs i n, EvOK P G η.ρ e) : 0 ≤ x ∧ x < y := by
  unfold idxObs at h
  have h1 := obs_ok (fun e he => h e (List.mem_append_left _ he))
  have h2 := obs_ok (fun e he => h e (List.mem_append_right _ he))
  rw [den_mkCmp] at h1 h2
  simp [E.den, hi, hn, D.toI, cmpB] at h1 h2
  exact ⟨h1, h2⟩

theorem sz_of_info {e : TypeId} (h : (P.info? e).isSome = true) : (sizeOf e).run P w = .ok (sizeT P e) w := by
  cases hie : P.info? e with
  | none => rw [hie] at h; cases h
  | some ie => simp [sizeOf, typeInfo, hie, sizeT, Program.cellsOf]
theorem indexAddrA_sound {T : TypeId} {x r : A} {i : E} {k : IntKind} {evs : List Ev} (h : indexAddrA P T x i = some (r, evs)) {v : Value} {n : Int} (hx : AbsA η M x v) (hi : i.den η.ρ = .int k n) (hev : ∀ e ∈ evs, EvOK P G η.ρ e) :
    ∃ v', (Instr.indexAt T v (.int k n)).run P w = .ok v' w ∧ AbsA η M r v' ∧ One v' := by
  have hiI : (i.den η.ρ).toI = n := by rw [hi]; rfl
  unfold indexAddrA at h
  split at h
  · rename_i e hu
    split at h
    · rename_i es l
      split at h
      · rename_i hsz
        cases h
        simp only [AbsA] at hx
        rw [Rep_lst] at hx
        obtain ⟨xs, hd, hmax, hx⟩ := hx
        have hlen : (lenE l).den η.ρ = .int .i64 xs.length := by rw [den_lenE]; simp [E.den, hd, D.len]
        obtain ⟨o1, o2⟩ := idxObs_ok hi hlen hev
        rcases hx with ⟨rfl, rfl⟩ | ⟨b, off, sp, cap, rfl, hsp, hc1, hc2, hrep⟩
        · simp at o2; omega
        · have hn : n.toNat < xs.length := by omega
          have hsp' := hsp (by omega)
          subst hsp'
          refine ⟨.pointer (some ⟨b, off + n.toNat * es.length, none⟩), ?_, ⟨b, off + n.toNat * es.length, by simp, ?_⟩, rfl⟩
          · simp [Instr.indexAt, asIntOf, run_underlying hu, o1, o2, sz_of_info hsz.2, hsz.1, add_mk]
          · have := hrep n.toNat xs[n.toNat] (List.getElem?_eq_getElem hn)
            rw [den_getE]
            simp only [E.den, hd, hi, D.toL, D.toI, List.getD_eq_getElem?_getD, List.getElem?_eq_getElem hn, Option.getD_some]
            exact this
      · cases h
    · rename_i j es n0
      split at h
      · rename_i hsz
        cases h
        obtain ⟨b, c, m, h1, h2, h3, h4, h5⟩ := hx
        obtain ⟨o1, o2⟩ := idxObs_ok hi h2 hev
        have hc0 : 0 < c := by omega
        rcases h5 with ⟨_, rfl⟩ | ⟨h5, _⟩
        · refine ⟨.pointer (some ⟨b, n.toNat * es.length, none⟩), ?_, ⟨b, c, n.toNat, h1, by rw [hiI]; omega, by simp⟩, rfl⟩
          simp [Instr.indexAt, asIntOf, run_underlying hu, o1, o2, sz_of_info hsz.2, hsz.1, add_mk]
        · omega
      · cases h
    · cases h
  · rename_i len e hu
    split at h
    · rename_i es l
      split at h
      · rename_i hc
        cases h
        obtain ⟨b, q, xs, rfl, hd, hrep⟩ := hx
        have hlen : (lenE l).den η.ρ = .int .i64 xs.length := by rw [den_lenE]; simp [E.den, hd, D.len]
        obtain ⟨o1, o2⟩ := idxObs_ok hi hlen hev
        have hl2 : (xs.length : Int) = len := by
          rw [E.same_eq _ _ hc.2.2] at hlen
          simpa [E.den] using hlen.symm
        have hn : n.toNat < xs.length := by omega
        refine ⟨.pointer (some ⟨b, q + n.toNat * es.length, none⟩), ?_, ⟨b, q + n.toNat * es.length, by simp, ?_⟩, rfl⟩
        · have o3 : n < (len : Int) := by omega
          simp [Instr.indexAt, asIntOf, run_underlying hu, Instr.sureAddr, o1, o3, sz_of_info hc.2.1, hc.1, add_mk]
        · have := hrep n.toNat xs[n.toNat] (List.getElem?_eq_getElem hn)
          rw [den_getE]
          simp only [E.den, hd, hi, D.toL, D.toI, List.getD_eq_getElem?_getD, List.getElem?_eq_getElem hn, Option.getD_some]
          exact this
      · cases h
    · rename_i j sz k0
      split at h
      · rename_i hsz
        cases h
        obtain ⟨b, c, m, h1, h2, rfl⟩ := hx
        simp [E.den, D.toI] at h2
        obtain rfl : m = 0 := by omega
        obtain ⟨o1, o2⟩ := idxObs_ok hi (by rfl : (E.ki .i64 (len : Int)).den η.ρ = .int .i64 len) hev
        refine ⟨.pointer (some ⟨b, n.toNat * sz, none⟩), ?_, ⟨b, c, n.toNat, h1, by rw [hiI]; omega, by simp⟩, rfl⟩
        simp [Instr.indexAt, asIntOf, run_underlying hu, Instr.sureAddr, o1, o2, sz_of_info hsz.2, hsz.1, add_mk]
      · cases h
    · rename_i j o
      split at h
      · rename_i k0 m
        split at h
        · rename_i hm
          cases h
          obtain ⟨b, c, h1, rfl⟩ := hx
          simp [E.den] at hi
          obtain ⟨rfl, rfl⟩ := hi
          refine ⟨.pointer (some ⟨b, o + m * sizeT P e, none⟩), ?_, ⟨b, c, h1, rfl⟩, rfl⟩
          have : ((m : Int)) < len := by omega
          simp [Instr.indexAt, asIntOf, run_underlying hu, Instr.sureAddr, sz_of_info hm.2, add_mk, this]
          intro hh; omega
        · cases h
      · cases h
    · cases h
  · cases h
theorem convA_sound {s d : TypeId} {x r : A} (h : convA P s d x = some r) {v : Value} (hx : AbsT η M (.c x) v) : ∃ v', (convert s d v).run P w = .ok v' w ∧ AbsT η M (.c r) v' := by
  unfold convA at h
  split at h
  · rename_i k0 k k1 e h1 h2
    cases h
    obtain ⟨n, rfl, hn, _⟩ := abs_int hx
    refine ⟨.int k (k.wrap n), ?_, mk_int ?_ (wrap_within _ _).1 (wrap_within _ _).2⟩
    · simp [convert, run_underlying h1, run_underlying h2, Conv.intToInt]
    · split
      · simp [E.den] at hn ⊢; rw [hn.2]
      · simp [E.den, hn, D.toI]
  · rename_i e h1 h2
    cases h
    obtain ⟨n, rfl, hn, hs⟩ := abs_str hx
    refine ⟨.string n, ?_, mk_str hn hs⟩
    simp [convert, run_underlying h1, run_underlying h2]
  · cases h
theorem unA_sound {op : UnOp} {x r : A} (h : unA op x = some r) {v : Value} (hx : AbsT η M (.c x) v) : ∃ v', (Op.unary op v).run P w = .ok v' w ∧ AbsT η M (.c r) v' := by
  unfold unA at h
  split at h
  · cases h
    obtain ⟨b, rfl, hb⟩ := abs_bool hx
    exact ⟨.bool !b, by simp [Op.unary], mk_bool (by rw [den_mkNot]; simp [E.den, hb, D.toB])⟩
  · rename_i k k' m
    cases h
    obtain ⟨n, rfl, hn, _⟩ := abs_int hx
    simp [E.den] at hn
    obtain ⟨rfl, rfl⟩ := hn
    exact ⟨.int k' (k'.wrap (0 - m)), by simp [Op.unary, Op.intArith], mk_int rfl (wrap_within _ _).1 (wrap_within _ _).2⟩
  · rename_i k e _
    cases h
    obtain ⟨n, rfl, hn, _⟩ := abs_int hx
    exact ⟨.int k (k.wrap (0 - n)), by simp [Op.unary, Op.intArith], mk_int (by simp [E.den, hn, D.toI]) (wrap_within _ _).1 (wrap_within _ _).2⟩
  · rename_i k e
    cases h
    obtain ⟨n, rfl, hn, h1, h2⟩ := abs_int hx
    exact ⟨.int k (arI .xor k (if k.signed then -1 else k.max) n), by simp [Op.unary, Op.intBits, arI], mk_int (by simp [E.den, hn, D.toI]) (wrap_within _ _).1 (wrap_within _ _).2⟩
  · cases h
end

end Go.Proofs.Ytindphofgojfbaa.Sy
