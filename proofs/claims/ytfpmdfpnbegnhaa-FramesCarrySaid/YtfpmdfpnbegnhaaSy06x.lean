/-
  bytes.IndexByte and slices.Grow at a nil slice: what they do with data. No conditions.
-/
import Derived.Test.YtfpmdfpnbegnhaaFrame
import Derived.Test.YtfpmdfpnbegnhaaSyO3
import Derived.Lib.BytesEntry
import Derived.Laws.StandIn
import Derived.Lib.AppendZerosOnto
set_option maxRecDepth 100000
set_option linter.unusedSimpArgs false
set_option linter.unusedVariables false
namespace Go.Proofs.Ytfpmdfpnbegnhaa
open Go.Proofs.Ytfpmdfpnbegnhaa.Sy Go.RowKit

theorem idx_calls (v : Value) (c : Int) (n : Int) (w : World) (h : (Extern.BytealgIndexByte.indexByte #[v, .int .u8 c]).run Try.prog w = .ok (.int .i64 n) w) :
    Calls Try.prog 32 #[v, .int .u8 c] w fun e w' => e = .returned (.int .i64 n) ∧ w' = w := by
  have hx : ∀ (args : Array Value) (w : World), (callFunc 44 args).run Try.prog w = ((Extern.BytealgIndexByte.indexByte args).run Try.prog w).andThen fun v w' => .ok (.value v) w' :=
    fun args w => run_callFunc_standIn Try.func44 (by kernel_rfl) (by rfl) (by kernel_rfl) (by kernel_rfl) args w
  go_enter Try.func32, Try.ntmps32
  go_wp2
  refine bodyPost_ret (by simp [results, Try.results32, go_sem, *]; try rfl) rfl ?_
  exact ⟨rfl, rfl⟩
def idxI : List Int → Int → Int
  | [], _ => -1
  | x :: l, c => if x = c then 0 else if idxI l c = -1 then -1 else idxI l c + 1
def inB0 (l : List Int) : Prop := ∀ x ∈ l, 0 ≤ x ∧ x ≤ 255
theorem idx_lib : ∀ (l : List Int) (c : Int), inB0 l → 0 ≤ c → c ≤ 255 → Lib.indexByte (Lib.bytesOf l) c.toNat.toUInt8 = idxI l c
  | [], c, _, _, _ => rfl
  | x :: l, c, h, h0, h1 => by
    have hx := h x (by simp)
    have ih := idx_lib l c (fun y hy => h y (by simp [hy])) h0 h1
    have e : (x.toNat.toUInt8 == c.toNat.toUInt8) = decide (x = c) := by
      by_cases hc : x = c
      · subst hc; simp
      · simp only [hc, decide_false, beq_eq_false_iff_ne, ne_eq]
        intro he
        have h2 := congrArg UInt8.toNat he
        simp [Nat.toUInt8, UInt8.toNat_ofNat] at h2
        omega
    show (if x.toNat.toUInt8 == c.toNat.toUInt8 then 0 else if Lib.indexByte (Lib.bytesOf l) c.toNat.toUInt8 == -1 then -1 else Lib.indexByte (Lib.bytesOf l) c.toNat.toUInt8 + 1) = _
    rw [e, ih]
    simp [idxI]
theorem lst_cells {M : Mem} {l : List Int} {b off : Nat} (h : ∀ (i : Nat) x, (l.map U8d)[i]? = some x → RepCells M [.int .u8] (fun o => M b (off + i * [Sh.int .u8].length + o)) 0 (x.cells [.int .u8])) : ∀ i, i < l.length → M b (off + i) = some (.int .u8 (l.getD i 0)) := by
  intro i hi
  have h0 := h i (U8d (l.getD i 0)) (by simp [List.getD_eq_getElem?_getD, hi])
  obtain ⟨v, d, h1, h2, h3⟩ := h0.get 0 (.int .u8) rfl
  rw [D.cells_one rfl] at h1
  simp at h1
  subst h1
  rw [Rep_int] at h3
  obtain ⟨n, rfl, e, _⟩ := h3
  cases e
  simpa using h2
theorem outs_nil : ∀ (ts : List TS) (vs : List Value), outsT ts = [] → outVals ts vs = []
  | [], vs, _ => rfl
  | t :: ts, [], h => by cases t <;> rfl
  | t :: ts, v :: vs, h => by
    cases t with
    | p l => simp [outsT] at h
    | _ => exact outs_nil ts vs h
theorem fun_pure {ts us : List TS} {rs : List D} {M : Mem} {w : World} {vs : List Value} {v : Value} (hM : MemOK M w) (hpl : outsT ts = []) (hr : ResR M w us v rs []) : FunPost M w (ownS []) ts vs us (.ok rs) (.returned v) w := by
  refine ⟨v, M, [], [], rs, [], rfl, by simp, BelowX.refl _ _ _, hM, Mem.le.refl _, fun _ _ _ h => .inl h, hr, ?_, (fun i j p q hi => by simp at hi), (fun p hp => by cases hp)⟩
  rw [hpl, outs_nil ts vs hpl]
  exact .nil
theorem idx_rng (l : List Int) (c : Int) : -1 ≤ idxI l c ∧ idxI l c ≤ l.length := by
  induction l with
  | nil => simp [idxI]
  | cons x l ih => simp only [idxI, List.length_cons]; split <;> (try split) <;> omega
theorem idx_fn (l : List Int) (c : Int) (hl : inB0 l) (h0 : 0 ≤ c) (h1 : c ≤ 255) : Fun Try.prog [] 32 [.c (.lst [.int .u8]), .c (.int .u8)] [.lst (l.map U8d), U8d c] [.c (.int .i64)] (.ok [I64d (idxI l c)]) := by
  intro w M vs ps hM hG hA hI
  obtain ⟨hps, _⟩ := hA.plain rfl
  subst hps
  obtain ⟨v1, v2, rfl, ha, hb⟩ : ∃ v1 v2, vs = [v1, v2] ∧ Rep M (.lst [.int .u8]) v1 (.lst (l.map U8d)) ∧ Rep M (.int .u8) v2 (U8d c) := by
    generalize hq : ([] : List (Nat × Nat)) = q at hA
    cases hA with
    | cons ha hA => cases hA with
      | cons hb hA => cases hA; exact ⟨_, _, rfl, ha.1, hb.1⟩
  rw [Rep_int] at hb
  obtain ⟨n, rfl, e, _⟩ := hb
  cases e
  rw [Rep_lst] at ha
  obtain ⟨l', e, hlen, hv⟩ := ha
  cases e
  have hrun : (Extern.BytealgIndexByte.indexByte #[v1, .int .u8 c]).run Try.prog w = .ok (.int .i64 (idxI l c)) w := by
    rcases hv with ⟨rfl, hnil⟩ | ⟨b, off, sp, cap, rfl, hsp, hcap, hm, hcells⟩
    · have : l = [] := by simpa using hnil
      subst this
      exact Lib.run_indexByteNil w 0 0 c
    · have hc := lst_cells hcells
      by_cases hz : 0 < cap
      · rw [← idx_lib l c hl h0 h1, hsp hz, List.length_map]
        exact Lib.run_indexByteSlice w b off l.length cap l rfl (fun i hi => (hM _ _ _ (hc i hi)).1) c
      · have : l = [] := by
          have : (l.map U8d).length = 0 := by omega
          simpa using this
        subst this
        exact Lib.run_indexByteNil w 0 cap c
  refine (idx_calls v1 c _ w hrun).mono ?_
  rintro e w' ⟨rfl, rfl⟩
  have hr := idx_rng l c
  simp only [List.length_map, maxLen] at hlen
  refine fun_pure hM rfl ⟨_, rfl, ?_, rfl⟩
  rw [Rep_int]
  exact ⟨_, rfl, rfl, by rw [min_i64]; omega, by rw [max_i64]; omega⟩
theorem grow_row (ad : Option Addr) (c : Nat) (vs : Array Value) (n : Int) (w W : World) (h0 : 0 ≤ n) (h1 : n ≤ 4294967296) (hcm : c ≤ 9223372036854775807) (hvs : vs.size = c) (hld : ∀ w', w'.heap = w.heap → (Builtin.firstCells 1 c (.slice ad c c)).run Try.prog w' = .ok vs w')
    (hW : W = w.drew.alloc (.cells (vs ++ Builtin.zeroCells #[.int .u8 0] (n.toNat - c) ++ Builtin.zeroCells #[.int .u8 0] (grownCap w n.toNat c 5 - n.toNat)) 5)) :
    Calls Try.prog 45 #[.slice ad 0 c, .int .i64 n] w fun e w' => (n ≤ c ∧ e = .returned (.slice ad 0 c) ∧ w' = w) ∨
      ((c : Int) < n ∧ e = .returned (.slice (some ⟨w.heap.size, 0, none⟩) 0 (grownCap w n.toNat c 5)) ∧ w' = W) := by
  go_enter Try.func45, Try.ntmps45
  by_cases hlt : (c : Int) < n
  · have happ : ∀ ty, (Builtin.append_ #[22, 3] ty #[.slice ad c c, .int .i64 (n - (c : Int))]).run Try.prog w = .ok (.slice (some ⟨w.heap.size, 0, none⟩) n.toNat (grownCap w n.toNat c 5)) W := by
      intro ty
      have h := Lib.run_append_grow_zeros (P := Try.prog) w 22 3 ty 5 Try.t5 (.int .u8 0) .i64 .i64 (by kernel_rfl) (by kernel_rfl) (by kernel_rfl) (by kernel_rfl) ad c c vs.toList (by rw [Array.toArray_toList]; exact hld w.drew rfl) (n.toNat - c) (by omega) (by decide) (by omega) (by omega)
        (by rw [show Try.t5.bytes = 1 by kernel_rfl]; omega) (by rw [show Try.t5.bytes = 1 by kernel_rfl]; have := nextslicecap_le (need := c + (n.toNat - c)) (old := c) (by omega); omega)
      rw [show ((n.toNat - c : Nat) : Int) = n - c by omega, show c + (n.toNat - c) = n.toNat by omega, Array.toArray_toList] at h
      rw [hW]
      exact h
    clear hW
    have h3 : (0 : Int) ≤ n.toNat := by omega
    go_wp2_with (at_builtin; refine Lib.wpList_append_run _ rfl _ _ _ _ rfl _ _ rfl rfl _ _ (happ _) ?_)
    all_goals (go_ret; first | exact .inr ⟨hlt, rfl, rfl⟩ | exact .inr ⟨rfl, rfl⟩ | simp)
  · have h3 : ¬ (0 < n - (c : Int)) := by omega
    clear hW
    go_wp2
    all_goals (go_ret; first | exact .inl ⟨by omega, rfl, rfl⟩ | exact .inl ⟨rfl, rfl⟩ | simp)
theorem grow_fn (n : Int) (h0 : 0 ≤ n) (h1 : n ≤ 4294967296) : Fun Try.prog [] 45 [.r [.int .u8], .c (.int .i64)] [.lst [], I64d n] [.r [.int .u8]] (.ok [.lst []]) := by
  intro w M vs ps hM hG hA hI
  obtain ⟨v, p, rfl, rfl, hrow⟩ : ∃ v p, vs = [v, .int .i64 n] ∧ ps = [p] ∧ RowAt M w [.int .u8] v [] p := by
    generalize hq : [(.lst [] : D), I64d n] = q at hA
    cases hA with
    | cons ha hA => cases hA with
      | cons hb hA =>
        cases hA
        cases hq
        obtain ⟨xs, p, e, rfl, hr⟩ := ha
        cases e
        obtain ⟨hb, rfl⟩ := hb
        rw [Rep_int] at hb
        obtain ⟨n', rfl, e, _⟩ := hb
        cases e
        exact ⟨_, p, rfl, by simp, hr⟩
  obtain ⟨b, c⟩ := p
  obtain ⟨_, hmax, hv, hrest⟩ := hrow
  obtain ⟨ad, us, rfl, hus, hone, hld⟩ : ∃ (ad : Option Addr) (us : Array Value), v = .slice ad 0 c ∧ us.size = c ∧ (∀ u ∈ us.toList, Go.Proofs.Ytfpmdfpnbegnhaa.Sy.One u) ∧ ∀ w', w'.heap = w.heap → (Builtin.firstCells 1 c (.slice ad c c)).run Try.prog w' = .ok us w' := by
    rcases hv with ⟨hc, rfl⟩ | ⟨hc, a, rfl⟩
    · obtain ⟨us, T, k1, k2, k3, _, _⟩ := hrest hc
      refine ⟨_, us.toArray, rfl, by simp [k2], by simpa using k3, fun w' hw' => ?_⟩
      refine run_firstCells_some w' 1 c ⟨b, 0, none⟩ c c us (by simp [k2]) fun j u hj => ?_
      have : (⟨b, 0, none⟩ : Addr).add j = ⟨b, j, none⟩ := by unfold Addr.add; split <;> simp_all
      rw [this]
      simp only [World.cell?, hw', k1]
      simpa using hj
    · simp only at hc
      subst hc
      refine ⟨a, #[], rfl, rfl, by simp, fun w' _ => ?_⟩
      cases a with
      | none => exact run_firstCells_none w' 1 0 0 0
      | some a => exact run_firstCells_some w' 1 0 a 0 0 [] rfl (fun j u hj => by simp at hj)
  refine (grow_row ad c us n w _ h0 h1 (by unfold maxLen at hmax; omega) hus hld rfl).mono ?_
  rintro e w' (⟨hle, rfl, rfl⟩ | ⟨hlt, rfl, rfl⟩)
  · refine ⟨_, M, [(b, c)], [], [.lst []], [], rfl, rfl, BelowX.refl _ _ _, hM, Mem.le.refl _, fun _ _ _ h => .inl h, ⟨_, rfl, ⟨[], (b, c), rfl, rfl, ⟨by simp, hmax, hv, hrest⟩⟩⟩, .nil, hI, fun p hp hp0 => .inr ?_⟩
    exact ⟨p, by simpa using hp, hp0, rfl⟩
  · obtain ⟨g1, g2⟩ := grown_bounds (w := w) (need := n.toNat) (old := c) (e := 5) (by omega)
    have hold : ∀ k, k < w.heap.size → (w.drew.alloc (.cells (us ++ Builtin.zeroCells #[.int .u8 0] (n.toNat - c) ++ Builtin.zeroCells #[.int .u8 0] (grownCap w n.toNat c 5 - n.toNat)) 5)).heap[k]? = w.heap[k]? := fun k hk => heap_old w.drew _ hk
    have hz : ∀ k, (Builtin.zeroCells #[Value.int .u8 0] k).size = k := fun k => by simp [Builtin.zeroCells]
    have hzo : ∀ k, ∀ u ∈ (Builtin.zeroCells #[Value.int .u8 0] k).toList, Go.Proofs.Ytfpmdfpnbegnhaa.Sy.One u := fun k => zero_one (z := .int .u8 0) rfl k
    have hnew := heap_new w.drew (.cells (us ++ Builtin.zeroCells #[.int .u8 0] (n.toNat - c) ++ Builtin.zeroCells #[.int .u8 0] (grownCap w n.toNat c 5 - n.toNat)) 5)
    rw [show w.drew.heap.size = w.heap.size from rfl] at hnew
    generalize hW : w.drew.alloc (.cells (us ++ Builtin.zeroCells #[.int .u8 0] (n.toNat - c) ++ Builtin.zeroCells #[.int .u8 0] (grownCap w n.toNat c 5 - n.toNat)) 5) = W at *
    have hbel : BelowX w.heap.size (ownS [(b, c)]) w W := by
      refine ⟨by rw [← hW]; rfl, by rw [← hW]; rfl, by rw [← hW]; rfl, ?_, fun k hk _ => hold k hk⟩
      have := (Array.getElem?_eq_some_iff.1 hnew).1
      omega
    have hMW : MemOK M W := fun b o v hv => by
      obtain ⟨h1, h2⟩ := hM b o v hv
      exact ⟨by rw [cell_congr (hold b (lt_of_cell h1))]; exact h1, h2⟩
    have hrow : RowAt M W [.int .u8] (.slice (some ⟨w.heap.size, 0, none⟩) 0 (grownCap w n.toNat c 5)) [] (w.heap.size, grownCap w n.toNat c 5) := by
      refine ⟨by simp, g2, .inl ⟨by simp only; omega, rfl⟩, fun _ => ⟨(us ++ Builtin.zeroCells #[.int .u8 0] (n.toNat - c) ++ Builtin.zeroCells #[.int .u8 0] (grownCap w n.toNat c 5 - n.toNat)).toList, 5, ?_, ?_, ?_, (fun i x hx => by simp at hx), fun o => ?_⟩⟩
      · rw [Array.toArray_toList]; exact hnew
      · rw [Array.length_toList, Array.size_append, Array.size_append, hz, hz, hus]
        simp; omega
      · intro u hu
        simp only [Array.toList_append, List.mem_append] at hu
        rcases hu with (hu | hu) | hu
        · exact hone u hu
        · exact hzo _ u hu
        · exact hzo _ u hu
      · cases hm : M w.heap.size o with
        | none => rfl
        | some v => have := lt_of_cell (hM _ _ _ hm).1; omega
    refine ⟨_, M, [(w.heap.size, grownCap w n.toNat c 5)], [], [.lst []], [], rfl, rfl, hbel, hMW, Mem.le.refl _, fun _ _ _ h => .inl h, ⟨_, rfl, ⟨[], _, rfl, rfl, hrow⟩⟩, .nil, (fun i j p q hi hj => by
      cases i with
      | zero => cases j with
        | zero => intros; rfl
        | succ j => simp at hj
      | succ i => simp at hi), fun p hp _ => .inl (by simp at hp; subst hp; exact Nat.le_refl _)⟩
end Go.Proofs.Ytfpmdfpnbegnhaa
