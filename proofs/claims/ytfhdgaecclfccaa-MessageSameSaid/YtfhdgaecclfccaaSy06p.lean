/-
  Checksums, stuffing, frames and streams over lists of bytes. No program, no conditions.
-/
import Derived.Test.YtfhdgaecclfccaaSyO3
import Derived.Test.YtfhdgaecclfccaaFrame
import Derived.Lib.BytesEntry
import Derived.Laws.StandIn
import Derived.Lib.AppendZerosOnto
import Derived.Test.YtfhdgaecclfccaaBytes
set_option linter.unusedSimpArgs false
set_option linter.unusedVariables false
namespace Go.Proofs.Ytfhdgaecclfccaa
def inB (l : List Int) : Prop := ∀ x ∈ l, 0 ≤ x ∧ x ≤ 255
theorem inB.cons {x : Int} {l : List Int} (h : inB (x :: l)) : (0 ≤ x ∧ x ≤ 255) ∧ inB l := ⟨h x (by simp), fun y hy => h y (by simp [hy])⟩
theorem inB.app {a b : List Int} (h : inB (a ++ b)) : inB a ∧ inB b := ⟨fun y hy => h y (by simp [hy]), fun y hy => h y (by simp [hy])⟩

theorem inB.get {l : List Int} (h : inB l) {k : Nat} (hk : k < l.length) : 0 ≤ l.getD k 0 ∧ l.getD k 0 ≤ 255 := by
  refine h _ ?_
  simp [List.getD_eq_getElem?_getD, hk]
theorem inB.set {l : List Int} (h : inB l) {k : Nat} {v : Int} (h0 : 0 ≤ v) (h1 : v ≤ 255) : inB (l.set k v) := fun x hx => by
  rcases List.mem_or_eq_of_mem_set hx with h2 | h2
  · exact h x h2
  · omega
end Go.Proofs.Ytfhdgaecclfccaa
set_option maxRecDepth 100000
set_option linter.unusedSimpArgs false
set_option linter.unusedVariables false
namespace Go.Proofs.Ytfhdgaecclfccaa
open Go.Proofs.Ytfhdgaecclfccaa.Sy Go.RowKit
theorem idx_calls (v : Value) (c : Int) (n : Int) (w : World) (h : (Extern.BytealgIndexByte.indexByte #[v, .int .u8 c]).run Try.prog w = .ok (.int .i64 n) w) :
    Calls Try.prog 67 #[v, .int .u8 c] w fun e w' => e = .returned (.int .i64 n) ∧ w' = w := by
  have hx : ∀ (args : Array Value) (w : World), (callFunc 86 args).run Try.prog w = ((Extern.BytealgIndexByte.indexByte args).run Try.prog w).andThen fun v w' => .ok (.value v) w' :=
    fun args w => run_callFunc_standIn Try.func86 (by kernel_rfl) (by rfl) (by kernel_rfl) (by kernel_rfl) args w
  go_enter Try.func67, Try.ntmps67
  go_wp2
  refine bodyPost_ret (by simp [results, Try.results67, go_sem, *]; try rfl) rfl ?_
  exact ⟨rfl, rfl⟩
def idxI : List Int → Int → Int
  | [], _ => -1
  | x :: l, c => if x = c then 0 else if idxI l c = -1 then -1 else idxI l c + 1
def inB0 (l : List Int) : Prop := ∀ x ∈ l, 0 ≤ x ∧ x ≤ 255
theorem idx_lib : ∀ (l : List Int) (c : Int), inB0 l → 0 ≤ c → c ≤ 255 → Lib.indexByte (Lib.bytesOf l) c.toNat.toUInt8 = idxI l c
  | [], c, _, _, _ => rfl
  | x :: l, c, h, h0, h1 => by
    have hx := h x (by simp)
    have ih := idx_lib l c (fun y hy => h y (by simp [hy])) h0 h1
    have e : (x.toNat.toUInt8 == c.toNat.toUInt8) = decide (x = c) := by
      by_cases hc : x = c
      · subst hc; simp
      · simp only [hc, decide_false, beq_eq_false_iff_ne, ne_eq]
        intro he
        have h2 := congrArg UInt8.toNat he
        simp [Nat.toUInt8, UInt8.toNat_ofNat] at h2
        omega
    show (if x.toNat.toUInt8 == c.toNat.toUInt8 then 0 else if Lib.indexByte (Lib.bytesOf l) c.toNat.toUInt8 == -1 then -1 else Lib.indexByte (Lib.bytesOf l) c.toNat.toUInt8 + 1) = _
    rw [e, ih]
    simp [idxI]
theorem lst_cells {M : Mem} {l : List Int} {b off : Nat} (h : ∀ (i : Nat) x, (l.map U8d)[i]? = some x → RepCells M [.int .u8] (fun o => M b (off + i * [Sh.int .u8].length + o)) 0 (x.cells [.int .u8])) : ∀ i, i < l.length → M b (off + i) = some (.int .u8 (l.getD i 0)) := by
  intro i hi
  have h0 := h i (U8d (l.getD i 0)) (by simp [List.getD_eq_getElem?_getD, hi])
  obtain ⟨v, d, h1, h2, h3⟩ := h0.get 0 (.int .u8) rfl
  rw [D.cells_one rfl] at h1
  simp at h1
  subst h1
  rw [Rep_int] at h3
  obtain ⟨n, rfl, e, _⟩ := h3
  cases e
  simpa using h2
theorem outs_nil : ∀ (ts : List TS) (vs : List Value), outsT ts = [] → outVals ts vs = []
  | [], vs, _ => rfl
  | t :: ts, [], h => by cases t <;> rfl
  | t :: ts, v :: vs, h => by
    cases t with
    | p l => simp [outsT] at h
    | i n s => simp [outsT] at h
    | _ => exact outs_nil ts vs h
theorem fun_pure {ts us : List TS} {rs : List D} {M : Mem} {w : World} {vs : List Value} {v : Value} (hM : MemOK M w) (hpl : outsT ts = []) (hr : ResR M w us v rs []) : FunPost M w (ownS []) ts vs us (.ok rs) (.returned v) w := by
  refine ⟨v, M, [], [], rs, [], rfl, by simp, BelowX.refl _ _ _, hM, Mem.le.refl _, fun _ _ _ h => .inl h, hr, ?_, (fun i j p q hi => by simp at hi), (fun p hp => by cases hp)⟩
  rw [hpl, outs_nil ts vs hpl]
  exact .nil
theorem idx_rng (l : List Int) (c : Int) : -1 ≤ idxI l c ∧ idxI l c ≤ l.length := by
  induction l with
  | nil => simp [idxI]
  | cons x l ih => simp only [idxI, List.length_cons]; split <;> (try split) <;> omega
theorem idx_fn (l : List Int) (c : Int) (hl : inB0 l) (h0 : 0 ≤ c) (h1 : c ≤ 255) : Fun Try.prog [] 67 [.c (.lst [.int .u8]), .c (.int .u8)] [.lst (l.map U8d), U8d c] [.c (.int .i64)] (.ok [I64d (idxI l c)]) := by
  intro w M vs ps hM hG hA hI
  obtain ⟨hps, _⟩ := hA.plain rfl
  subst hps
  obtain ⟨v1, v2, rfl, ha, hb⟩ : ∃ v1 v2, vs = [v1, v2] ∧ Rep M (.lst [.int .u8]) v1 (.lst (l.map U8d)) ∧ Rep M (.int .u8) v2 (U8d c) := by
    generalize hq : ([] : List (Nat × Nat)) = q at hA
    cases hA with
    | cons ha hA => cases hA with
      | cons hb hA => cases hA; exact ⟨_, _, rfl, ha.1, hb.1⟩
  rw [Rep_int] at hb
  obtain ⟨n, rfl, e, _⟩ := hb
  cases e
  rw [Rep_lst] at ha
  obtain ⟨l', e, hlen, hv⟩ := ha
  cases e
  have hrun : (Extern.BytealgIndexByte.indexByte #[v1, .int .u8 c]).run Try.prog w = .ok (.int .i64 (idxI l c)) w := by
    rcases hv with ⟨rfl, hnil⟩ | ⟨b, off, sp, cap, rfl, hsp, hcap, hm, hcells⟩
    · have : l = [] := by simpa using hnil
      subst this
      exact Lib.run_indexByteNil w 0 0 c
    · have hc := lst_cells hcells
      by_cases hz : 0 < cap
      · rw [← idx_lib l c hl h0 h1, hsp hz, List.length_map]
        exact Lib.run_indexByteSlice w b off l.length cap l rfl (fun i hi => (hM _ _ _ (hc i hi)).1) c
      · have : l = [] := by
          have : (l.map U8d).length = 0 := by omega
          simpa using this
        subst this
        exact Lib.run_indexByteNil w 0 cap c
  refine (idx_calls v1 c _ w hrun).mono ?_
  rintro e w' ⟨rfl, rfl⟩
  have hr := idx_rng l c
  simp only [List.length_map, maxLen] at hlen
  refine fun_pure hM rfl ⟨_, rfl, ?_, rfl⟩
  rw [Rep_int]
  exact ⟨_, rfl, rfl, by rw [min_i64]; omega, by rw [max_i64]; omega⟩

end Go.Proofs.Ytfhdgaecclfccaa
set_option maxRecDepth 100000
set_option linter.unusedSimpArgs false
set_option linter.unusedVariables false
namespace Go.Proofs.Ytfhdgaecclfccaa
open Go.Proofs.Ytfhdgaecclfccaa.Sy
theorem hP : NoNum Try.prog := by unfold NoNum; kernel_rfl
def sgs : Nat → Option (List TS × List TS) := fun f => if Nat.beq f 58 then some ([.r [.int .u8], .c (.int .u8)], [.r [.int .u8]]) else if Nat.beq f 40 then some ([.c (.lst [.int .u8])], [.r [.int .u8], .c (.int .i64)]) else if Nat.beq f 68 then some ([.c (.lst [.int .u8]), .c .bool], [.r [.int .u8], .c (.int .i64)]) else none
def vcpack : VC := (.ite (.cmp .gtr (.len (.v 0)) (.ki .i64 4096))
 (.ret [.nil, (.ki .i64 3)])
 (.loop [(.lst [(.int .u8)]), (.int .i64)] [(.cons (.ki .u8 192) .nil), (.ki .i64 0)]
  (.ite (.cmp .lss (.v 2) (.len (.v 0)))
   (.ev [(.ob (.cmp .geq (.v 2) (.ki .i64 0))), (.ob (.cmp .lss (.v 2) (.len (.v 0))))]
    (.cal 58 [(.r [(.int .u8)]), (.c (.int .u8))] [(.v 1), (.get (.v 0) (.v 2))] [(.r [(.int .u8)])] 3
     (.back 0 [(.v 3), (.ar .add .i64 (.v 2) (.ki .i64 1))])))
   (.cal 59 [(.c (.lst [(.int .u8)]))] [(.v 0)] [(.c (.int .i64))] 3
    (.cal 58 [(.r [(.int .u8)]), (.c (.int .u8))] [(.v 1), (.conv .u8 (.shf .shr .i64 (.v 3) (.ki .u64 8)))] [(.r [(.int .u8)])] 4
     (.cal 58 [(.r [(.int .u8)]), (.c (.int .u8))] [(.v 4), (.conv .u8 (.v 3))] [(.r [(.int .u8)])] 5
      (.ev [(.ob (.cmp .leq (.len (.app (.v 5) (.cons (.ki .u8 192) .nil))) (.ki .i64 4294967296)))]
       (.ret [(.app (.v 5) (.cons (.ki .u8 192) .nil)), (.ki .i64 0)]))))))))
theorem pack_ent : EntOK Try.prog [] ⟨40, [(.c (.lst [(.int .u8)]))], [(.r [(.int .u8)]), (.c (.int .i64))], vcpack⟩ :=
  ent_of_gen hP Try.func40 rfl (by decide) (sg := sgs) (by kernel_rfl)
def vccontent : VC := (.ev [(.ob (.cmp .leq (.len (.app .nil (.v 0))) (.ki .i64 4294967296)))]
 (.ev [(.ob (.cmp .leq (.len (.app (.app .nil (.v 0)) (.cons (.conv .u8 (.ar .quo .i64 (.v 1) (.ki .i64 256))) (.cons (.conv .u8 (.ar .rem .i64 (.v 1) (.ki .i64 256))) .nil)))) (.ki .i64 4294967296)))]
  (.ret [(.app (.app .nil (.v 0)) (.cons (.conv .u8 (.ar .quo .i64 (.v 1) (.ki .i64 256))) (.cons (.conv .u8 (.ar .rem .i64 (.v 1) (.ki .i64 256))) .nil)))])))
def vcunpack : VC := (.ite (.cmp .eql (.len (.v 0)) (.ki .i64 0))
 (.ret [.nil, (.ki .i64 6)])
 (.ev [(.ob (.cmp .lss (.ki .i64 0) (.len (.v 0))))]
  (.ite (.cmp .neq (.get (.v 0) (.ki .i64 0)) (.ki .u8 192))
   (.ret [.nil, (.ki .i64 5)])
   (.ev [(.ob (.cmp .leq (.ki .i64 0) (.len (.v 0)))), (.ob (.cmp .leq (.len (.v 0)) (.len (.v 0)))), (.ob (.cmp .leq (.ki .i64 0) (.len (.v 0)))), (.ob (.cmp .leq (.len (.v 0)) (.len (.v 0)))), (.ob (.cmp .leq (.ki .i64 1) (.len (.v 0))))]
    (.cal 67 [(.c (.lst [(.int .u8)])), (.c (.int .u8))] [(.sub (.v 0) (.ki .i64 1) (.len (.v 0))), (.ki .u8 192)] [(.c (.int .i64))] 1
     (.ite (.cmp .geq (.v 1) (.ki .i64 0))
      (.ev [(.ob (.cmp .leq (.ki .i64 0) (.v 1))), (.ob (.cmp .leq (.v 1) (.len (.sub (.v 0) (.ki .i64 1) (.len (.v 0)))))), (.ob (.cmp .leq (.ki .i64 0) (.v 1))), (.ob (.cmp .leq (.v 1) (.v 1)))]
       (.cal 68 [(.c (.lst [(.int .u8)])), (.c .bool)] [(.sub (.sub (.v 0) (.ki .i64 1) (.len (.v 0))) (.ki .i64 0) (.v 1)), (.kb true)] [(.r [(.int .u8)]), (.c (.int .i64))] 2
        (.ite (.cmp .neq (.v 3) (.ki .i64 0))
         (.ret [.nil, (.v 3)])
         (.ite (.cmp .gtr (.len (.v 0)) (.ar .add .i64 (.len (.sub (.sub (.v 0) (.ki .i64 1) (.len (.v 0))) (.ki .i64 0) (.v 1))) (.ki .i64 2)))
          (.ret [.nil, (.ki .i64 5)])
          (.ite (.cmp .lss (.len (.v 2)) (.ki .i64 2))
           (.ret [.nil, (.ki .i64 6)])
           (.ite (.cmp .gtr (.ar .sub .i64 (.len (.v 2)) (.ki .i64 2)) (.ki .i64 4096))
            (.ret [.nil, (.ki .i64 3)])
            (.ev [(.ob (.cmp .leq (.ki .i64 0) (.ar .sub .i64 (.len (.v 2)) (.ki .i64 2)))), (.ob (.cmp .leq (.ar .sub .i64 (.len (.v 2)) (.ki .i64 2)) (.len (.v 2)))), (.ob (.cmp .geq (.ar .sub .i64 (.len (.v 2)) (.ki .i64 2)) (.ki .i64 0))), (.ob (.cmp .lss (.ar .sub .i64 (.len (.v 2)) (.ki .i64 2)) (.len (.v 2)))), (.ob (.cmp .lss (.ar .sub .i64 (.len (.v 2)) (.ki .i64 2)) (.len (.v 2)))), (.ob (.cmp .geq (.ar .add .i64 (.ar .sub .i64 (.len (.v 2)) (.ki .i64 2)) (.ki .i64 1)) (.ki .i64 0))), (.ob (.cmp .lss (.ar .add .i64 (.ar .sub .i64 (.len (.v 2)) (.ki .i64 2)) (.ki .i64 1)) (.len (.v 2)))), (.ob (.cmp .lss (.ar .add .i64 (.ar .sub .i64 (.len (.v 2)) (.ki .i64 2)) (.ki .i64 1)) (.len (.v 2))))]
             (.cal 59 [(.c (.lst [(.int .u8)]))] [(.sub (.v 2) (.ki .i64 0) (.ar .sub .i64 (.len (.v 2)) (.ki .i64 2)))] [(.c (.int .i64))] 4
              (.ite (.cmp .neq (.v 4) (.ar .or .i64 (.shf .shl .i64 (.conv .i64 (.get (.v 2) (.ar .sub .i64 (.len (.v 2)) (.ki .i64 2)))) (.ki .u64 8)) (.conv .i64 (.get (.v 2) (.ar .add .i64 (.ar .sub .i64 (.len (.v 2)) (.ki .i64 2)) (.ki .i64 1))))))
               (.ret [.nil, (.ki .i64 7)])
               (.ev [(.ob (.cmp .leq (.ki .i64 0) (.ar .sub .i64 (.len (.v 2)) (.ki .i64 2)))), (.ob (.cmp .leq (.ar .sub .i64 (.len (.v 2)) (.ki .i64 2)) (.len (.v 2)))), (.ob (.cmp .leq (.ki .i64 0) (.ar .sub .i64 (.len (.v 2)) (.ki .i64 2)))), (.ob (.cmp .leq (.ar .sub .i64 (.len (.v 2)) (.ki .i64 2)) (.ar .sub .i64 (.len (.v 2)) (.ki .i64 2))))]
                (.ret [(.sub (.v 2) (.ki .i64 0) (.ar .sub .i64 (.len (.v 2)) (.ki .i64 2))), (.ki .i64 0)])))))))))))
      (.cal 68 [(.c (.lst [(.int .u8)])), (.c .bool)] [(.sub (.v 0) (.ki .i64 1) (.len (.v 0))), (.kb false)] [(.r [(.int .u8)]), (.c (.int .i64))] 2
       (.ite (.cmp .neq (.v 3) (.ki .i64 0))
        (.ret [.nil, (.v 3)])
        (.ite (.cmp .gtr (.len (.v 0)) (.ar .add .i64 (.len (.sub (.v 0) (.ki .i64 1) (.len (.v 0)))) (.ki .i64 2)))
         (.ret [.nil, (.ki .i64 5)])
         (.ite (.cmp .lss (.len (.v 2)) (.ki .i64 2))
          (.ret [.nil, (.ki .i64 6)])
          (.ite (.cmp .gtr (.ar .sub .i64 (.len (.v 2)) (.ki .i64 2)) (.ki .i64 4096))
           (.ret [.nil, (.ki .i64 3)])
           (.ev [(.ob (.cmp .leq (.ki .i64 0) (.ar .sub .i64 (.len (.v 2)) (.ki .i64 2)))), (.ob (.cmp .leq (.ar .sub .i64 (.len (.v 2)) (.ki .i64 2)) (.len (.v 2)))), (.ob (.cmp .geq (.ar .sub .i64 (.len (.v 2)) (.ki .i64 2)) (.ki .i64 0))), (.ob (.cmp .lss (.ar .sub .i64 (.len (.v 2)) (.ki .i64 2)) (.len (.v 2)))), (.ob (.cmp .lss (.ar .sub .i64 (.len (.v 2)) (.ki .i64 2)) (.len (.v 2)))), (.ob (.cmp .geq (.ar .add .i64 (.ar .sub .i64 (.len (.v 2)) (.ki .i64 2)) (.ki .i64 1)) (.ki .i64 0))), (.ob (.cmp .lss (.ar .add .i64 (.ar .sub .i64 (.len (.v 2)) (.ki .i64 2)) (.ki .i64 1)) (.len (.v 2)))), (.ob (.cmp .lss (.ar .add .i64 (.ar .sub .i64 (.len (.v 2)) (.ki .i64 2)) (.ki .i64 1)) (.len (.v 2))))]
            (.cal 59 [(.c (.lst [(.int .u8)]))] [(.sub (.v 2) (.ki .i64 0) (.ar .sub .i64 (.len (.v 2)) (.ki .i64 2)))] [(.c (.int .i64))] 4
             (.ite (.cmp .neq (.v 4) (.ar .or .i64 (.shf .shl .i64 (.conv .i64 (.get (.v 2) (.ar .sub .i64 (.len (.v 2)) (.ki .i64 2)))) (.ki .u64 8)) (.conv .i64 (.get (.v 2) (.ar .add .i64 (.ar .sub .i64 (.len (.v 2)) (.ki .i64 2)) (.ki .i64 1))))))
              (.ret [.nil, (.ki .i64 7)])
              (.ev [(.ob (.cmp .leq (.ki .i64 0) (.ar .sub .i64 (.len (.v 2)) (.ki .i64 2)))), (.ob (.cmp .leq (.ar .sub .i64 (.len (.v 2)) (.ki .i64 2)) (.len (.v 2)))), (.ob (.cmp .leq (.ki .i64 0) (.ar .sub .i64 (.len (.v 2)) (.ki .i64 2)))), (.ob (.cmp .leq (.ar .sub .i64 (.len (.v 2)) (.ki .i64 2)) (.ar .sub .i64 (.len (.v 2)) (.ki .i64 2))))]
               (.ret [(.sub (.v 2) (.ki .i64 0) (.ar .sub .i64 (.len (.v 2)) (.ki .i64 2))), (.ki .i64 0)]))))))))))))))))
theorem unpack_ent : EntOK Try.prog [] ⟨42, [(.c (.lst [(.int .u8)]))], [(.c (.lst [(.int .u8)])), (.c (.int .i64))], vcunpack⟩ :=
  ent_of_gen hP Try.func42 rfl (by decide) (sg := sgs) (by kernel_rfl)

end Go.Proofs.Ytfhdgaecclfccaa
set_option maxRecDepth 100000
set_option linter.unusedSimpArgs false
set_option linter.unusedVariables false
namespace Go.Proofs.Ytfhdgaecclfccaa
open Go.Proofs.Ytfhdgaecclfccaa.Sy Go.RowKit Go.WideShapes Go.ChangeShapes Go.ChangeAt

end Go.Proofs.Ytfhdgaecclfccaa
set_option maxRecDepth 100000
set_option linter.unusedSimpArgs false
set_option linter.unusedVariables false
namespace Go.Proofs.Ytfhdgaecclfccaa
open Go.Proofs.Ytfhdgaecclfccaa.Sy Go.RowKit Go.WideShapes Go.ChangeShapes Go.ChangeAt

end Go.Proofs.Ytfhdgaecclfccaa
