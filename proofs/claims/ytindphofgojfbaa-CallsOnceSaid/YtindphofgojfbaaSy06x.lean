/-
  bytes.IndexByte and slices.Grow at a nil slice: what they do with data. No conditions.
-/
import Derived.Test.YtindphofgojfbaaFrame
import Derived.Test.YtindphofgojfbaaSyO3
import Derived.Lib.BytesEntry
import Derived.Laws.StandIn
import Derived.Lib.AppendZerosOnto
import Derived.Test.YtindphofgojfbaaV26b
import Derived.Test.YtindphofgojfbaaO14
import Derived.Test.YtindphofgojfbaaS26
import Derived.Test.YtindphofgojfbaaId
import Derived.Test.YtindphofgojfbaaSyXq
import Derived.Recover
import Derived.Tactics
import Derived.Tactics2
set_option maxRecDepth 100000
set_option linter.unusedSimpArgs false
set_option linter.unusedVariables false
namespace Go.Proofs.Ytindphofgojfbaa
open Go.Proofs.Ytindphofgojfbaa.Sy Go.RowKit
theorem idx_calls (v : Value) (c : Int) (n : Int) (w : World) (h : (Extern.BytealgIndexByte.indexByte #[v, .int .u8 c]).run Try.prog w = .ok (.int .i64 n) w) :
    Calls Try.prog 40 #[v, .int .u8 c] w fun e w' => e = .returned (.int .i64 n) ∧ w' = w := by
  have hx : ∀ (args : Array Value) (w : World), (callFunc 65 args).run Try.prog w = ((Extern.BytealgIndexByte.indexByte args).run Try.prog w).andThen fun v w' => .ok (.value v) w' :=
    fun args w => run_callFunc_standIn Try.func65 (by kernel_rfl) (by rfl) (by kernel_rfl) (by kernel_rfl) args w
  go_enter Try.func40, Try.ntmps40
  go_wp2
  refine bodyPost_ret (by simp [results, Try.results40, go_sem, *]; try rfl) rfl ?_
  exact ⟨rfl, rfl⟩
def idxI : List Int → Int → Int
  | [], _ => -1
  | x :: l, c => if x = c then 0 else if idxI l c = -1 then -1 else idxI l c + 1
def inB0 (l : List Int) : Prop := ∀ x ∈ l, 0 ≤ x ∧ x ≤ 255
theorem idx_lib : ∀ (l : List Int) (c : Int), inB0 l → 0 ≤ c → c ≤ 255 → Lib.indexByte (Lib.bytesOf l) c.toNat.toUInt8 = idxI l c
  | [], c, _, _, _ => rfl
  | x :: l, c, h, h0, h1 => by
    have hx := h x (by simp)
    have ih := idx_lib l c (fun y hy => h y (by simp [hy])) h0 h1
    have e : (x.toNat.toUInt8 == c.toNat.toUInt8) = decide (x = c) := by
      by_cases hc : x = c
      · subst hc; simp
      · simp only [hc, decide_false, beq_eq_false_iff_ne, ne_eq]
        intro he
        have h2 := congrArg UInt8.toNat he
        simp [Nat.toUInt8, UInt8.toNat_ofNat] at h2
        omega
    show (if x.toNat.toUInt8 == c.toNat.toUInt8 then 0 else if Lib.indexByte (Lib.bytesOf l) c.toNat.toUInt8 == -1 then -1 else Lib.indexByte (Lib.bytesOf l) c.toNat.toUInt8 + 1) = _
    rw [e, ih]
    simp [idxI]
theorem lst_cells {M : Mem} {l : List Int} {b off : Nat} (h : ∀ (i : Nat) x, (l.map U8d)[i]? = some x → RepCells M [.int .u8] (fun o => M b (off + i * [Sh.int .u8].length + o)) 0 (x.cells [.int .u8])) : ∀ i, i < l.length → M b (off + i) = some (.int .u8 (l.getD i 0)) := by
  intro i hi
  have h0 := h i (U8d (l.getD i 0)) (by simp [List.getD_eq_getElem?_getD, hi])
  obtain ⟨v, d, h1, h2, h3⟩ := h0.get 0 (.int .u8) rfl
  rw [D.cells_one rfl] at h1
  simp at h1
  subst h1
  rw [Rep_int] at h3
  obtain ⟨n, rfl, e, _⟩ := h3
  cases e
  simpa using h2
theorem outs_nil : ∀ (ts : List TS) (vs : List Value), outsT ts = [] → outVals ts vs = []
  | [], vs, _ => rfl
  | t :: ts, [], h => by cases t <;> rfl
  | t :: ts, v :: vs, h => by
    cases t with
    | p l => simp [outsT] at h
    | i n s => simp [outsT] at h
    | _ => exact outs_nil ts vs h
theorem fun_pure {ts us : List TS} {rs : List D} {M : Mem} {w : World} {vs : List Value} {v : Value} (hM : MemOK M w) (hpl : outsT ts = []) (hr : ResR M w us v rs []) : FunPost M w (ownS []) ts vs us (.ok rs) (.returned v) w := by
  refine ⟨v, M, [], [], rs, [], rfl, by simp, BelowX.refl _ _ _, hM, Mem.le.refl _, fun _ _ _ h => .inl h, hr, ?_, (fun i j p q hi => by simp at hi), (fun p hp => by cases hp)⟩
  rw [hpl, outs_nil ts vs hpl]
  exact .nil
theorem idx_rng (l : List Int) (c : Int) : -1 ≤ idxI l c ∧ idxI l c ≤ l.length := by
  induction l with
  | nil => simp [idxI]
  | cons x l ih => simp only [idxI, List.length_cons]; split <;> (try split) <;> omega
theorem idx_fn (l : List Int) (c : Int) (hl : inB0 l) (h0 : 0 ≤ c) (h1 : c ≤ 255) : Fun Try.prog [] 40 [.c (.lst [.int .u8]), .c (.int .u8)] [.lst (l.map U8d), U8d c] [.c (.int .i64)] (.ok [I64d (idxI l c)]) := by
  intro w M vs ps hM hG hA hI
  obtain ⟨hps, _⟩ := hA.plain rfl
  subst hps
  obtain ⟨v1, v2, rfl, ha, hb⟩ : ∃ v1 v2, vs = [v1, v2] ∧ Rep M (.lst [.int .u8]) v1 (.lst (l.map U8d)) ∧ Rep M (.int .u8) v2 (U8d c) := by
    generalize hq : ([] : List (Nat × Nat)) = q at hA
    cases hA with
    | cons ha hA => cases hA with
      | cons hb hA => cases hA; exact ⟨_, _, rfl, ha.1, hb.1⟩
  rw [Rep_int] at hb
  obtain ⟨n, rfl, e, _⟩ := hb
  cases e
  rw [Rep_lst] at ha
  obtain ⟨l', e, hlen, hv⟩ := ha
  cases e
  have hrun : (Extern.BytealgIndexByte.indexByte #[v1, .int .u8 c]).run Try.prog w = .ok (.int .i64 (idxI l c)) w := by
    rcases hv with ⟨rfl, hnil⟩ | ⟨b, off, sp, cap, rfl, hsp, hcap, hm, hcells⟩
    · have : l = [] := by simpa using hnil
      subst this
      exact Lib.run_indexByteNil w 0 0 c
    · have hc := lst_cells hcells
      by_cases hz : 0 < cap
      · rw [← idx_lib l c hl h0 h1, hsp hz, List.length_map]
        exact Lib.run_indexByteSlice w b off l.length cap l rfl (fun i hi => (hM _ _ _ (hc i hi)).1) c
      · have : l = [] := by
          have : (l.map U8d).length = 0 := by omega
          simpa using this
        subst this
        exact Lib.run_indexByteNil w 0 cap c
  refine (idx_calls v1 c _ w hrun).mono ?_
  rintro e w' ⟨rfl, rfl⟩
  have hr := idx_rng l c
  simp only [List.length_map, maxLen] at hlen
  refine fun_pure hM rfl ⟨_, rfl, ?_, rfl⟩
  rw [Rep_int]
  exact ⟨_, rfl, rfl, by rw [min_i64]; omega, by rw [max_i64]; omega⟩


end Go.Proofs.Ytindphofgojfbaa
set_option maxRecDepth 100000
set_option linter.unusedSimpArgs false
set_option linter.unusedVariables false
namespace Go.Proofs.Ytindphofgojfbaa.X14
open Go.Proofs.Ytindphofgojfbaa Go.Proofs.Ytindphofgojfbaa.Sy Go.Proofs.Ytindphofgojfbaa.L7 Go.Proofs.Ytindphofgojfbaa.Id Go.Proofs.Ytindphofgojfbaa.R26 Go.Proofs.Ytindphofgojfbaa.L7n Go.Proofs.Ytindphofgojfbaa.O14 Go.RowKit Go.WideShapes Go.ChangeShapes Go.ChangeAt
theorem hP : NoNum Try.prog := by unfold NoNum; kernel_rfl
def sgs : Nat → Option (List TS × List TS) := M26.sgs
theorem quiet_dec : Quiet Try.prog 24 := by
  refine ⟨⟨_, Try.func24, rfl⟩, fun p q w => ?_⟩
  refine callsD_of_wpS Try.func24 rfl fun c₀ cs hu => ?_
  apply wpS_seq
  apply wpS_region
  simp [wpOpsS, go_sem, recoverD, hu, Try.ntmps24, Exit.thenS]
  refine wpS_of_wp ?_
  go_wp2
  cases c₀
  simp_all [bodyPostS, results, Try.results24]
def vcdec : VC := (.cal 23 [(.c (.lst [(.int .u8)]))] [(.v 0)] [(.c (.lst [(.int .u8)])), (.c (.int .i64))] 1
 (.ite (.cmp .neq (.v 2) (.ki .i64 0))
  (.ret [(.rc (.cons (.ki .i64 0) (.cons (.ki .i64 0) (.cons (.ki .i64 0) (.cons (.ki .i64 0) (.cons (.ki .i64 0) (.cons (.ki .i64 0) (.cons (.ki .i64 0) (.cons (.ki .i64 0) (.cons (.ks ⟨List.toArray []⟩) (.cons (.ks ⟨List.toArray []⟩) (.cons (.ks ⟨List.toArray []⟩) (.cons (.kb false) (.cons .nil (.cons (.ki .i64 0) (.cons (.ki .i64 0) (.cons (.ki .i64 0) (.cons (.ki .i64 0) (.cons (.ki .i64 0) (.cons (.ks ⟨List.toArray []⟩) (.cons (.ki .i64 0) (.cons (.ki .i64 0) (.cons (.ki .i64 0) (.cons (.ki .i64 0) (.cons .nil (.cons .nil .nil)))))))))))))))))))))))))), (.v 2)])
  (.cal 25 [(.c (.lst [(.int .u8)]))] [(.v 1)] [(.g [(.int .i64), (.int .i64), (.int .i64), (.int .i64), (.int .i64), (.int .i64), (.int .i64), (.int .i64), .str, .str, .str, .bool, (.lst [(.int .i64), (.int .i64)]), (.int .i64), (.int .i64), (.int .i64), (.int .i64), (.int .i64), .str, (.int .i64), (.int .i64), (.int .i64), (.int .i64), (.lst [(.int .i64), (.int .i64)]), (.lst [.str, .str, .str, (.int .i64), (.int .i64), (.int .i64)])])] 3
   (.cal 17 [(.g [(.int .i64), (.int .i64), (.int .i64), (.int .i64), (.int .i64), (.int .i64), (.int .i64), (.int .i64), .str, .str, .str, .bool, (.lst [(.int .i64), (.int .i64)]), (.int .i64), (.int .i64), (.int .i64), (.int .i64), (.int .i64), .str, (.int .i64), (.int .i64), (.int .i64), (.int .i64), (.lst [(.int .i64), (.int .i64)]), (.lst [.str, .str, .str, (.int .i64), (.int .i64), (.int .i64)])])] [(.rc (.cons (.v 3) (.cons (.v 4) (.cons (.v 5) (.cons (.v 6) (.cons (.v 7) (.cons (.v 8) (.cons (.v 9) (.cons (.v 10) (.cons (.v 11) (.cons (.v 12) (.cons (.v 13) (.cons (.v 14) (.cons (.v 15) (.cons (.v 16) (.cons (.v 17) (.cons (.v 18) (.cons (.v 19) (.cons (.v 20) (.cons (.v 21) (.cons (.v 22) (.cons (.v 23) (.cons (.v 24) (.cons (.v 25) (.cons (.v 26) (.cons (.v 27) .nil))))))))))))))))))))))))))] [(.c (.int .i64))] 28
    (.ite (.cmp .neq (.v 28) (.ki .i64 0))
     (.ret [(.rc (.cons (.ki .i64 0) (.cons (.ki .i64 0) (.cons (.ki .i64 0) (.cons (.ki .i64 0) (.cons (.ki .i64 0) (.cons (.ki .i64 0) (.cons (.ki .i64 0) (.cons (.ki .i64 0) (.cons (.ks ⟨List.toArray []⟩) (.cons (.ks ⟨List.toArray []⟩) (.cons (.ks ⟨List.toArray []⟩) (.cons (.kb false) (.cons .nil (.cons (.ki .i64 0) (.cons (.ki .i64 0) (.cons (.ki .i64 0) (.cons (.ki .i64 0) (.cons (.ki .i64 0) (.cons (.ks ⟨List.toArray []⟩) (.cons (.ki .i64 0) (.cons (.ki .i64 0) (.cons (.ki .i64 0) (.cons (.ki .i64 0) (.cons .nil (.cons .nil .nil)))))))))))))))))))))))))), (.v 28)])
     (.ret [(.rc (.cons (.v 3) (.cons (.v 4) (.cons (.v 5) (.cons (.v 6) (.cons (.v 7) (.cons (.v 8) (.cons (.v 9) (.cons (.v 10) (.cons (.v 11) (.cons (.v 12) (.cons (.v 13) (.cons (.v 14) (.cons (.v 15) (.cons (.v 16) (.cons (.v 17) (.cons (.v 18) (.cons (.v 19) (.cons (.v 20) (.cons (.v 21) (.cons (.v 22) (.cons (.v 23) (.cons (.v 24) (.cons (.v 25) (.cons (.v 26) (.cons (.v 27) .nil)))))))))))))))))))))))))), (.ki .i64 0)]))))))
theorem dec_q (ds rs : List D) (h : vcdec.den Try.prog [] (fun r' => r' = .ok rs) [] (flatD [(.c (.lst [(.int .u8)]))] ds)) : Fun Try.prog [] 10 [(.c (.lst [(.int .u8)]))] ds [(.g [(.int .i64), (.int .i64), (.int .i64), (.int .i64), (.int .i64), (.int .i64), (.int .i64), (.int .i64), .str, .str, .str, .bool, (.lst [(.int .i64), (.int .i64)]), (.int .i64), (.int .i64), (.int .i64), (.int .i64), (.int .i64), .str, (.int .i64), (.int .i64), (.int .i64), (.int .i64), (.lst [(.int .i64), (.int .i64)]), (.lst [.str, .str, .str, (.int .i64), (.int .i64), (.int .i64)])]), (.c (.int .i64))] (.ok rs) :=
  fun_of_q hP Try.func10 rfl (n := 3) (a := 2) (b := 3) (t := 15) rfl rfl rfl rfl rfl rfl rfl (sg := sgs) quiet_dec (by decide) (by kernel_rfl) h
def nIdx : NEnt := ⟨40, [.c (.lst [.int .u8]), .c (.int .u8)], [.c (.int .i64)], fun ds => match ds with
  | [.lst l, .int .u8 c] => (match bOf l with | some b => (if decide (0 ≤ c) && decide (c ≤ 255) then some (.ok [.int .i64 (idxI b c)]) else none) | none => none)
  | _ => none⟩
theorem nIdx_ok : NEntOK Try.prog [] nIdx := by
  intro ds r h
  simp only [nIdx] at h
  split at h
  · rename_i l c
    split at h
    · rename_i b hb
      split at h
      · rename_i hl
        cases h
        simp only [Bool.and_eq_true, decide_eq_true_eq] at hl
        obtain ⟨h1, h2⟩ := bOf_eq hb
        subst h1
        exact idx_fn b c h2 hl.1 hl.2
      · cases h
    · cases h
  · cases h
def natX : List NEnt := nIdx :: nats
theorem natX_ok : ∀ e ∈ natX, NEntOK Try.prog [] e := by
  intro e he
  rcases List.mem_cons.1 he with rfl | he
  · exact nIdx_ok
  · exact nats_ok e he
def entX : List Ent := [⟨20, [(.g [(.int .i64), (.int .i64), (.int .i64), (.int .i64), (.int .i64), (.int .i64), (.int .i64), (.int .i64), .str, .str, .str, .bool, (.lst [(.int .i64), (.int .i64)]), (.int .i64), (.int .i64), (.int .i64), (.int .i64), (.int .i64), .str, (.int .i64), (.int .i64), (.int .i64), (.int .i64), (.lst [(.int .i64), (.int .i64)]), (.lst [.str, .str, .str, (.int .i64), (.int .i64), (.int .i64)])])], [(.c (.lst [(.int .u8)])), (.c (.int .i64))], M26.vcmencode⟩,
  ⟨39, [(.g [(.int .i64), (.int .i64), (.int .i64), (.int .i64), (.int .i64), (.int .i64), (.int .i64), (.int .i64), .str, .str, .str, .bool, (.lst [(.int .i64), (.int .i64)]), (.int .i64), (.int .i64), (.int .i64), (.int .i64), (.int .i64), .str, (.int .i64), (.int .i64), (.int .i64), (.int .i64), (.lst [(.int .i64), (.int .i64)]), (.lst [.str, .str, .str, (.int .i64), (.int .i64), (.int .i64)])])], [(.c (.lst [(.int .u8)]))], M26.vcencoded⟩,
  ⟨62, [(.g [(.int .i64), (.int .i64), (.int .i64), (.int .i64), (.int .i64), .str, (.int .i64), (.int .i64), (.int .i64), (.int .i64), (.lst [(.int .i64), (.int .i64)])])], [(.c (.lst [(.int .u8)]))], M26.vcencprof⟩,
  ⟨63, [(.g [.str, .str, .str, (.int .i64), (.int .i64), (.int .i64)])], [(.c (.lst [(.int .u8)]))], M26.vcenctok⟩,
  ⟨58, [(.p [(.r [(.int .i64), (.lst [(.int .u8)])])]), (.c (.int .i64)), (.c (.int .i64))], [], M26.vcrnum⟩,
  ⟨59, [(.p [(.r [(.int .i64), (.lst [(.int .u8)])])]), (.c (.int .i64)), (.c .str)], [], M26.vcrtext⟩,
  ⟨61, [(.p [(.r [(.int .i64), (.lst [(.int .u8)])])]), (.c (.int .i64)), (.c (.lst [(.lst [(.int .u8)])]))], [], M26.vcritems⟩,
  ⟨64, [(.c (.lst [(.int .i64), (.lst [(.int .u8)])]))], [(.c (.lst [(.int .u8)]))], M26.vcrbytes⟩,
  ⟨17, [(.g [(.int .i64), (.int .i64), (.int .i64), (.int .i64), (.int .i64), (.int .i64), (.int .i64), (.int .i64), .str, .str, .str, .bool, (.lst [(.int .i64), (.int .i64)]), (.int .i64), (.int .i64), (.int .i64), (.int .i64), (.int .i64), .str, (.int .i64), (.int .i64), (.int .i64), (.int .i64), (.lst [(.int .i64), (.int .i64)]), (.lst [.str, .str, .str, (.int .i64), (.int .i64), (.int .i64)])])], [(.c (.int .i64))], V26.vcmval⟩,
  ⟨32, [(.g [(.int .i64), (.int .i64), (.int .i64), (.int .i64), (.int .i64), (.int .i64), (.int .i64), (.int .i64), .str, .str, .str, .bool, (.lst [(.int .i64), (.int .i64)]), (.int .i64), (.int .i64), (.int .i64), (.int .i64), (.int .i64), .str, (.int .i64), (.int .i64), (.int .i64), (.int .i64), (.lst [(.int .i64), (.int .i64)]), (.lst [.str, .str, .str, (.int .i64), (.int .i64), (.int .i64)])]), (.c (.int .i64))], [(.c .bool)], V26.vcmnum⟩,
  ⟨33, [(.g [(.int .i64), (.int .i64), (.int .i64), (.int .i64), (.int .i64), (.int .i64), (.int .i64), (.int .i64), .str, .str, .str, .bool, (.lst [(.int .i64), (.int .i64)]), (.int .i64), (.int .i64), (.int .i64), (.int .i64), (.int .i64), .str, (.int .i64), (.int .i64), (.int .i64), (.int .i64), (.lst [(.int .i64), (.int .i64)]), (.lst [.str, .str, .str, (.int .i64), (.int .i64), (.int .i64)])]), (.c (.int .i64))], [(.c .bool)], V26.vcmnam⟩,
  ⟨34, [(.g [(.int .i64), (.int .i64), (.int .i64), (.int .i64), (.int .i64), (.int .i64), (.int .i64), (.int .i64), .str, .str, .str, .bool, (.lst [(.int .i64), (.int .i64)]), (.int .i64), (.int .i64), (.int .i64), (.int .i64), (.int .i64), .str, (.int .i64), (.int .i64), (.int .i64), (.int .i64), (.lst [(.int .i64), (.int .i64)]), (.lst [.str, .str, .str, (.int .i64), (.int .i64), (.int .i64)])]), (.c (.int .i64))], [(.c (.int .i64))], V26.vcmlis⟩,
  ⟨31, [(.g [(.int .i64), (.int .i64), (.int .i64), (.int .i64), (.int .i64), (.int .i64), (.int .i64), (.int .i64), .str, .str, .str, .bool, (.lst [(.int .i64), (.int .i64)]), (.int .i64), (.int .i64), (.int .i64), (.int .i64), (.int .i64), .str, (.int .i64), (.int .i64), (.int .i64), (.int .i64), (.lst [(.int .i64), (.int .i64)]), (.lst [.str, .str, .str, (.int .i64), (.int .i64), (.int .i64)])])], [(.c (.int .i64))], V26.vcpres⟩,
  ⟨30, [(.c (.int .i64)), (.c (.int .i64))], [(.c (.int .i64)), (.c .bool)], V26.vcusd⟩,
  ⟨53, [(.c (.int .i64))], [(.c (.int .i64)), (.c .bool)], V26.vcuic⟩,
  ⟨56, [(.g [.str, .str, .str, (.int .i64), (.int .i64), (.int .i64)])], [(.c (.int .i64))], V26.vcentry⟩,
  ⟨78, [(.g [.str, .str, .str, (.int .i64), (.int .i64), (.int .i64)])], [(.c (.int .i64))], V26.vctval⟩,
  ⟨12, [(.g [(.int .i64), (.int .i64), (.int .i64), (.int .i64), (.int .i64), (.int .i64), (.int .i64), (.int .i64), .str, .str, .str, .bool, (.lst [(.int .i64), (.int .i64)]), (.int .i64), (.int .i64), (.int .i64), (.int .i64), (.int .i64), .str, (.int .i64), (.int .i64), (.int .i64), (.int .i64), (.lst [(.int .i64), (.int .i64)]), (.lst [.str, .str, .str, (.int .i64), (.int .i64), (.int .i64)])]), (.c (.int .i64))], [(.g [(.int .i64), (.int .i64), (.int .i64), (.int .i64), (.int .i64), (.int .i64), (.int .i64), (.int .i64), .str, .str, .str, .bool, (.lst [(.int .i64), (.int .i64)]), (.int .i64), (.int .i64), (.int .i64), (.int .i64), (.int .i64), .str, (.int .i64), (.int .i64), (.int .i64), (.int .i64), (.lst [(.int .i64), (.int .i64)]), (.lst [.str, .str, .str, (.int .i64), (.int .i64), (.int .i64)])])], M26.vcmresult⟩,
  ⟨25, [(.c (.lst [(.int .u8)]))], [(.g [(.int .i64), (.int .i64), (.int .i64), (.int .i64), (.int .i64), (.int .i64), (.int .i64), (.int .i64), .str, .str, .str, .bool, (.lst [(.int .i64), (.int .i64)]), (.int .i64), (.int .i64), (.int .i64), (.int .i64), (.int .i64), .str, (.int .i64), (.int .i64), (.int .i64), (.int .i64), (.lst [(.int .i64), (.int .i64)]), (.lst [.str, .str, .str, (.int .i64), (.int .i64), (.int .i64)])])], M26.vcdecoded⟩,
  ⟨43, [(.c (.lst [(.int .u8)]))], [(.c (.lst [(.int .i64), (.lst [(.int .u8)])]))], M26.vctakerec⟩,
  ⟨50, [.i 25 (.int .i64), .c (.lst [.int .u8])], [], S26.vcset⟩,
  ⟨45, [(.c (.lst [(.int .u8)]))], [(.c (.int .i64))], M26.vctakenum⟩,
  ⟨44, [(.c .bool)], [], M26.vcchk⟩,
  ⟨38, [(.c (.lst [(.int .u8)]))], [(.r [(.int .u8)]), (.c (.int .i64))], M26.vcpack⟩,
  ⟨23, [(.c (.lst [(.int .u8)]))], [(.c (.lst [(.int .u8)])), (.c (.int .i64))], M26.vcunpack⟩,
  ⟨41, [(.c (.lst [(.int .u8)])), (.c .bool)], [(.r [(.int .u8)]), (.c (.int .i64))], M26.vccontent⟩,
  ⟨57, [(.r [(.int .u8)]), (.c (.int .u8))], [(.r [(.int .u8)])], M26.vcfput⟩,
  ⟨42, [(.c (.lst [(.int .u8)]))], [(.c (.int .i64))], M26.vcfsum⟩]
theorem entX_ok : ∀ e ∈ entX, EntOK Try.prog [] e := by
  intro e he
  simp only [entX, List.mem_cons, List.not_mem_nil, or_false] at he
  rcases he with rfl | rfl | rfl | rfl | rfl | rfl | rfl | rfl | rfl | rfl | rfl | rfl | rfl | rfl | rfl | rfl | rfl | rfl | rfl | rfl | rfl | rfl | rfl | rfl | rfl | rfl | rfl | rfl
  · exact M26.mencode_ent
  · exact M26.encoded_ent
  · exact M26.encprof_ent
  · exact M26.enctok_ent
  · exact M26.rnum_ent
  · exact M26.rtext_ent
  · exact M26.ritems_ent
  · exact M26.rbytes_ent
  · exact V26.mval_ent
  · exact V26.mnum_ent
  · exact V26.mnam_ent
  · exact V26.mlis_ent
  · exact V26.pres_ent
  · exact V26.usd_ent
  · exact V26.uic_ent
  · exact V26.entry_ent
  · exact V26.tval_ent
  · exact M26.mresult_ent
  · exact M26.decoded_ent
  · exact M26.takerec_ent
  · exact S26.set_ent
  · exact M26.takenum_ent
  · exact M26.chk_ent
  · exact M26.pack_ent
  · exact M26.unpack_ent
  · exact M26.content_ent
  · exact M26.fput_ent
  · exact M26.fsum_ent
def phiX : Phi := evalG (natPhi natX) 400 entX
theorem phiX_ok : PhiOK Try.prog [] phiX := evalG_sound (natPhi_sound natX_ok) entX_ok
def nDec : NEnt := ⟨10, [(.c (.lst [(.int .u8)]))], [(.g [(.int .i64), (.int .i64), (.int .i64), (.int .i64), (.int .i64), (.int .i64), (.int .i64), (.int .i64), .str, .str, .str, .bool, (.lst [(.int .i64), (.int .i64)]), (.int .i64), (.int .i64), (.int .i64), (.int .i64), (.int .i64), .str, (.int .i64), (.int .i64), (.int .i64), (.int .i64), (.lst [(.int .i64), (.int .i64)]), (.lst [.str, .str, .str, (.int .i64), (.int .i64), (.int .i64)])]), (.c (.int .i64))], runQ phiX vcdec 400 [(.c (.lst [(.int .u8)]))]⟩
theorem nDec_ok : NEntOK Try.prog [] nDec := runQ_sound phiX_ok dec_q
def fb : Nat → List Int
  | 1 => [192, 2, 2, 2, 4, 2, 2, 6, 2, 4, 10, 92, 192]
  | 2 => [192, 2, 2, 2, 4, 2, 4, 6, 2, 4, 45, 197, 192]
  | 3 => [192, 2, 2, 2, 4, 2, 6, 6, 2, 4, 219, 220, 173, 192]
  | 4 => [192, 2, 2, 2, 4, 2, 8, 6, 2, 4, 98, 247, 192]
  | 5 => [192, 2, 2, 2, 4, 2, 10, 6, 2, 4, 143, 159, 192]
  | 6 => [192, 2, 2, 2, 4, 2, 12, 6, 2, 4, 168, 6, 192]
  | 7 => [192, 2, 2, 2, 4, 2, 14, 6, 2, 4, 69, 110, 192]
  | 8 => [192, 2, 2, 2, 4, 2, 16, 6, 2, 4, 252, 147, 192]
  | 9 => [192, 2, 2, 2, 4, 2, 18, 6, 2, 4, 17, 251, 192]
  | 10 => [192, 2, 2, 2, 4, 2, 20, 6, 2, 4, 54, 98, 192]
  | _ => []
def fs : Nat → List Int
  | 1 => [192, 2, 2, 4, 4, 2, 2, 6, 2, 4, 10, 2, 2, 126, 77, 192]
  | 2 => [192, 2, 2, 4, 4, 2, 4, 6, 2, 4, 10, 2, 2, 223, 104, 192]
  | 3 => [192, 2, 2, 4, 4, 2, 6, 6, 2, 4, 10, 2, 2, 191, 139, 192]
  | 4 => [192, 2, 2, 4, 4, 2, 8, 6, 2, 4, 10, 2, 2, 141, 3, 192]
  | 5 => [192, 2, 2, 4, 4, 2, 10, 6, 2, 4, 10, 2, 2, 237, 224, 192]
  | 6 => [192, 2, 2, 4, 4, 2, 12, 6, 2, 4, 10, 2, 2, 76, 197, 192]
  | 7 => [192, 2, 2, 4, 4, 2, 14, 6, 2, 4, 10, 2, 2, 44, 38, 192]
  | 8 => [192, 2, 2, 4, 4, 2, 16, 6, 2, 4, 10, 2, 2, 41, 213, 192]
  | 9 => [192, 2, 2, 4, 4, 2, 18, 6, 2, 4, 10, 2, 2, 73, 54, 192]
  | 10 => [192, 2, 2, 4, 4, 2, 20, 6, 2, 4, 10, 2, 2, 232, 19, 192]
  | _ => []
theorem enc_b {i : Nat} (h1 : 1 ≤ i) (h2 : i ≤ 10) : Fun Try.prog [] 20 [tM] [msD (beatM (i : Int))] [.c (.lst [.int .u8]), tI] (.ok [bD (fb i), I64d 0]) := by
  match i, h1, h2 with
  | 1, _, _ => exact fun_of_evalG natX_ok entX_ok 400 (by kernel_rfl)
  | 2, _, _ => exact fun_of_evalG natX_ok entX_ok 400 (by kernel_rfl)
  | 3, _, _ => exact fun_of_evalG natX_ok entX_ok 400 (by kernel_rfl)
  | 4, _, _ => exact fun_of_evalG natX_ok entX_ok 400 (by kernel_rfl)
  | 5, _, _ => exact fun_of_evalG natX_ok entX_ok 400 (by kernel_rfl)
  | 6, _, _ => exact fun_of_evalG natX_ok entX_ok 400 (by kernel_rfl)
  | 7, _, _ => exact fun_of_evalG natX_ok entX_ok 400 (by kernel_rfl)
  | 8, _, _ => exact fun_of_evalG natX_ok entX_ok 400 (by kernel_rfl)
  | 9, _, _ => exact fun_of_evalG natX_ok entX_ok 400 (by kernel_rfl)
  | 10, _, _ => exact fun_of_evalG natX_ok entX_ok 400 (by kernel_rfl)
  | k + 11, _, h => exact absurd h (by omega)
theorem dec_b {i : Nat} (h1 : 1 ≤ i) (h2 : i ≤ 10) : Fun Try.prog [] 10 [.c (.lst [.int .u8])] [bD (fb i)] [tM, tI] (.ok [msD (beatM (i : Int)), I64d 0]) := by
  match i, h1, h2 with
  | 1, _, _ => exact nDec_ok _ _ (by kernel_rfl)
  | 2, _, _ => exact nDec_ok _ _ (by kernel_rfl)
  | 3, _, _ => exact nDec_ok _ _ (by kernel_rfl)
  | 4, _, _ => exact nDec_ok _ _ (by kernel_rfl)
  | 5, _, _ => exact nDec_ok _ _ (by kernel_rfl)
  | 6, _, _ => exact nDec_ok _ _ (by kernel_rfl)
  | 7, _, _ => exact nDec_ok _ _ (by kernel_rfl)
  | 8, _, _ => exact nDec_ok _ _ (by kernel_rfl)
  | 9, _, _ => exact nDec_ok _ _ (by kernel_rfl)
  | 10, _, _ => exact nDec_ok _ _ (by kernel_rfl)
  | k + 11, _, h => exact absurd h (by omega)
theorem len_b {i : Nat} (h1 : 1 ≤ i) (h2 : i ≤ 10) : (fb i).length ≤ 8198 := by
  match i, h1, h2 with
  | 1, _, _ => decide
  | 2, _, _ => decide
  | 3, _, _ => decide
  | 4, _, _ => decide
  | 5, _, _ => decide
  | 6, _, _ => decide
  | 7, _, _ => decide
  | 8, _, _ => decide
  | 9, _, _ => decide
  | 10, _, _ => decide
  | k + 11, _, h => exact absurd h (by omega)
theorem enc_s {i : Nat} (h1 : 1 ≤ i) (h2 : i ≤ 10) : Fun Try.prog [] 20 [tM] [msD (resM (i : Int))] [.c (.lst [.int .u8]), tI] (.ok [bD (fs i), I64d 0]) := by
  match i, h1, h2 with
  | 1, _, _ => exact fun_of_evalG natX_ok entX_ok 400 (by kernel_rfl)
  | 2, _, _ => exact fun_of_evalG natX_ok entX_ok 400 (by kernel_rfl)
  | 3, _, _ => exact fun_of_evalG natX_ok entX_ok 400 (by kernel_rfl)
  | 4, _, _ => exact fun_of_evalG natX_ok entX_ok 400 (by kernel_rfl)
  | 5, _, _ => exact fun_of_evalG natX_ok entX_ok 400 (by kernel_rfl)
  | 6, _, _ => exact fun_of_evalG natX_ok entX_ok 400 (by kernel_rfl)
  | 7, _, _ => exact fun_of_evalG natX_ok entX_ok 400 (by kernel_rfl)
  | 8, _, _ => exact fun_of_evalG natX_ok entX_ok 400 (by kernel_rfl)
  | 9, _, _ => exact fun_of_evalG natX_ok entX_ok 400 (by kernel_rfl)
  | 10, _, _ => exact fun_of_evalG natX_ok entX_ok 400 (by kernel_rfl)
  | k + 11, _, h => exact absurd h (by omega)
theorem dec_s {i : Nat} (h1 : 1 ≤ i) (h2 : i ≤ 10) : Fun Try.prog [] 10 [.c (.lst [.int .u8])] [bD (fs i)] [tM, tI] (.ok [msD (resM (i : Int)), I64d 0]) := by
  match i, h1, h2 with
  | 1, _, _ => exact nDec_ok _ _ (by kernel_rfl)
  | 2, _, _ => exact nDec_ok _ _ (by kernel_rfl)
  | 3, _, _ => exact nDec_ok _ _ (by kernel_rfl)
  | 4, _, _ => exact nDec_ok _ _ (by kernel_rfl)
  | 5, _, _ => exact nDec_ok _ _ (by kernel_rfl)
  | 6, _, _ => exact nDec_ok _ _ (by kernel_rfl)
  | 7, _, _ => exact nDec_ok _ _ (by kernel_rfl)
  | 8, _, _ => exact nDec_ok _ _ (by kernel_rfl)
  | 9, _, _ => exact nDec_ok _ _ (by kernel_rfl)
  | 10, _, _ => exact nDec_ok _ _ (by kernel_rfl)
  | k + 11, _, h => exact absurd h (by omega)
theorem len_s {i : Nat} (h1 : 1 ≤ i) (h2 : i ≤ 10) : (fs i).length ≤ 8198 := by
  match i, h1, h2 with
  | 1, _, _ => decide
  | 2, _, _ => decide
  | 3, _, _ => decide
  | 4, _, _ => decide
  | 5, _, _ => decide
  | 6, _, _ => decide
  | 7, _, _ => decide
  | 8, _, _ => decide
  | 9, _, _ => decide
  | 10, _, _ => decide
  | k + 11, _, h => exact absurd h (by omega)

end Go.Proofs.Ytindphofgojfbaa.X14
