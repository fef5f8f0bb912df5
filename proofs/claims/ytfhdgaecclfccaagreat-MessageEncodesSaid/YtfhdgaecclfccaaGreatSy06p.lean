/-
  Checksums, stuffing, frames and streams over lists of bytes. No program, no conditions.
-/
import Derived.Test.YtfhdgaecclfccaaGreatSyO3
import Derived.Test.YtfhdgaecclfccaaGreatFrame
import Derived.Lib.BytesEntry
import Derived.Laws.StandIn
import Derived.Lib.AppendZerosOnto
import Derived.Test.YtfhdgaecclfccaaGreatBytes
set_option linter.unusedSimpArgs false
set_option linter.unusedVariables false
namespace Go.Proofs.YtfhdgaecclfccaaGreat
def xorI (x y : Int) : Int := ((x.toNat ^^^ y.toNat : Nat) : Int)
def step1 (r : Int) : Int := if 32768 ≤ r then xorI (2 * r - 65536) 4129 else 2 * r
def stepN : Nat → Int → Int
  | 0, r => r
  | n + 1, r => stepN n (step1 r)
def byteS (r c : Int) : Int := stepN 8 (xorI r (c * 256))
def sumS (l : List Int) : Int := l.foldl byteS 65535
def inB (l : List Int) : Prop := ∀ x ∈ l, 0 ≤ x ∧ x ≤ 255
theorem inB.cons {x : Int} {l : List Int} (h : inB (x :: l)) : (0 ≤ x ∧ x ≤ 255) ∧ inB l := ⟨h x (by simp), fun y hy => h y (by simp [hy])⟩
theorem inB.app {a b : List Int} (h : inB (a ++ b)) : inB a ∧ inB b := ⟨fun y hy => h y (by simp [hy]), fun y hy => h y (by simp [hy])⟩

theorem xor_rng {x y : Int} (h0 : 0 ≤ x) (h1 : x ≤ 65535) (h2 : 0 ≤ y) (h3 : y ≤ 65535) : 0 ≤ xorI x y ∧ xorI x y ≤ 65535 := by
  unfold xorI
  have := Nat.xor_lt_two_pow (n := 16) (x := x.toNat) (y := y.toNat) (by omega) (by omega)
  omega
theorem step1_rng {r : Int} (h0 : 0 ≤ r) (h1 : r ≤ 65535) : 0 ≤ step1 r ∧ step1 r ≤ 65535 := by
  unfold step1
  split
  · exact xor_rng (by omega) (by omega) (by omega) (by omega)
  · omega
theorem stepN_rng : ∀ (n : Nat) {r : Int}, 0 ≤ r → r ≤ 65535 → 0 ≤ stepN n r ∧ stepN n r ≤ 65535
  | 0, r, h0, h1 => ⟨h0, h1⟩
  | n + 1, r, h0, h1 => by
    have := step1_rng h0 h1
    exact stepN_rng n this.1 this.2
theorem byteS_rng {r c : Int} (h0 : 0 ≤ r) (h1 : r ≤ 65535) (h2 : 0 ≤ c) (h3 : c ≤ 255) : 0 ≤ byteS r c ∧ byteS r c ≤ 65535 := by
  have := xor_rng h0 h1 (y := c * 256) (by omega) (by omega)
  exact stepN_rng 8 this.1 this.2
theorem fold_rng : ∀ (l : List Int) {r : Int}, inB l → 0 ≤ r → r ≤ 65535 → 0 ≤ l.foldl byteS r ∧ l.foldl byteS r ≤ 65535
  | [], r, _, h0, h1 => ⟨h0, h1⟩
  | c :: l, r, h, h0, h1 => by
    obtain ⟨h2, h3⟩ := h.cons
    have := byteS_rng h0 h1 h2.1 h2.2
    exact fold_rng l h3 this.1 this.2
theorem sumS_rng {l : List Int} (h : inB l) : 0 ≤ sumS l ∧ sumS l ≤ 65535 := fold_rng l h (by omega) (by omega)
theorem inB.get {l : List Int} (h : inB l) {k : Nat} (hk : k < l.length) : 0 ≤ l.getD k 0 ∧ l.getD k 0 ≤ 255 := by
  refine h _ ?_
  simp [List.getD_eq_getElem?_getD, hk]
theorem inB.set {l : List Int} (h : inB l) {k : Nat} {v : Int} (h0 : 0 ≤ v) (h1 : v ≤ 255) : inB (l.set k v) := fun x hx => by
  rcases List.mem_or_eq_of_mem_set hx with h2 | h2
  · exact h x h2
  · omega
def esc (c : Int) : List Int := if c = 192 then [219, 220] else if c = 219 then [219, 221] else [c]
theorem esc_mark {c : Int} (h : c = 192) : esc c = [219, 220] := by simp [esc, h]
theorem esc_self {c : Int} (h : c = 219) : esc c = [219, 221] := by simp [esc, h]
theorem esc_other {c : Int} (h1 : ¬ c = 192) (h2 : ¬ c = 219) : esc c = [c] := by simp [esc, h1, h2]
def stuffS (l : List Int) : List Int := 192 :: (l.flatMap esc ++ [192])
def withSum (b : List Int) (n : Int) : List Int := b ++ [n / 256, n % 256]
def packS (b : List Int) : List Int := stuffS (withSum b (sumS b))
theorem withSum_len (b : List Int) (n : Int) : (withSum b n).length = b.length + 2 := by simp [withSum]
theorem esc_len (l : List Int) : (l.flatMap esc).length ≤ 2 * l.length := by
  induction l with
  | nil => simp
  | cons c l ih =>
    have : (esc c).length ≤ 2 := by unfold esc; split <;> (try split) <;> simp
    simp only [List.flatMap_cons, List.length_append, List.length_cons]
    omega
end Go.Proofs.YtfhdgaecclfccaaGreat
set_option maxRecDepth 100000
set_option linter.unusedSimpArgs false
set_option linter.unusedVariables false
namespace Go.Proofs.YtfhdgaecclfccaaGreat
open Go.Proofs.YtfhdgaecclfccaaGreat.Sy Go.RowKit
theorem idx_calls (v : Value) (c : Int) (n : Int) (w : World) (h : (Extern.BytealgIndexByte.indexByte #[v, .int .u8 c]).run Tryz.prog w = .ok (.int .i64 n) w) :
    Calls Tryz.prog 60 #[v, .int .u8 c] w fun e w' => e = .returned (.int .i64 n) ∧ w' = w := by
  have hx : ∀ (args : Array Value) (w : World), (callFunc 88 args).run Tryz.prog w = ((Extern.BytealgIndexByte.indexByte args).run Tryz.prog w).andThen fun v w' => .ok (.value v) w' :=
    fun args w => run_callFunc_standIn Tryz.func88 (by kernel_rfl) (by rfl) (by kernel_rfl) (by kernel_rfl) args w
  go_enter Tryz.func60, Tryz.ntmps60
  go_wp2
  refine bodyPost_ret (by simp [results, Tryz.results60, go_sem, *]; try rfl) rfl ?_
  exact ⟨rfl, rfl⟩
def idxI : List Int → Int → Int
  | [], _ => -1
  | x :: l, c => if x = c then 0 else if idxI l c = -1 then -1 else idxI l c + 1
def inB0 (l : List Int) : Prop := ∀ x ∈ l, 0 ≤ x ∧ x ≤ 255
theorem idx_lib : ∀ (l : List Int) (c : Int), inB0 l → 0 ≤ c → c ≤ 255 → Lib.indexByte (Lib.bytesOf l) c.toNat.toUInt8 = idxI l c
  | [], c, _, _, _ => rfl
  | x :: l, c, h, h0, h1 => by
    have hx := h x (by simp)
    have ih := idx_lib l c (fun y hy => h y (by simp [hy])) h0 h1
    have e : (x.toNat.toUInt8 == c.toNat.toUInt8) = decide (x = c) := by
      by_cases hc : x = c
      · subst hc; simp
      · simp only [hc, decide_false, beq_eq_false_iff_ne, ne_eq]
        intro he
        have h2 := congrArg UInt8.toNat he
        simp [Nat.toUInt8, UInt8.toNat_ofNat] at h2
        omega
    show (if x.toNat.toUInt8 == c.toNat.toUInt8 then 0 else if Lib.indexByte (Lib.bytesOf l) c.toNat.toUInt8 == -1 then -1 else Lib.indexByte (Lib.bytesOf l) c.toNat.toUInt8 + 1) = _
    rw [e, ih]
    simp [idxI]
theorem lst_cells {M : Mem} {l : List Int} {b off : Nat} (h : ∀ (i : Nat) x, (l.map U8d)[i]? = some x → RepCells M [.int .u8] (fun o => M b (off + i * [Sh.int .u8].length + o)) 0 (x.cells [.int .u8])) : ∀ i, i < l.length → M b (off + i) = some (.int .u8 (l.getD i 0)) := by
  intro i hi
  have h0 := h i (U8d (l.getD i 0)) (by simp [List.getD_eq_getElem?_getD, hi])
  obtain ⟨v, d, h1, h2, h3⟩ := h0.get 0 (.int .u8) rfl
  rw [D.cells_one rfl] at h1
  simp at h1
  subst h1
  rw [Rep_int] at h3
  obtain ⟨n, rfl, e, _⟩ := h3
  cases e
  simpa using h2
theorem outs_nil : ∀ (ts : List TS) (vs : List Value), outsT ts = [] → outVals ts vs = []
  | [], vs, _ => rfl
  | t :: ts, [], h => by cases t <;> rfl
  | t :: ts, v :: vs, h => by
    cases t with
    | p l => simp [outsT] at h
    | i n s => simp [outsT] at h
    | _ => exact outs_nil ts vs h
theorem fun_pure {ts us : List TS} {rs : List D} {M : Mem} {w : World} {vs : List Value} {v : Value} (hM : MemOK M w) (hpl : outsT ts = []) (hr : ResR M w us v rs []) : FunPost M w (ownS []) ts vs us (.ok rs) (.returned v) w := by
  refine ⟨v, M, [], [], rs, [], rfl, by simp, BelowX.refl _ _ _, hM, Mem.le.refl _, fun _ _ _ h => .inl h, hr, ?_, (fun i j p q hi => by simp at hi), (fun p hp => by cases hp)⟩
  rw [hpl, outs_nil ts vs hpl]
  exact .nil
theorem idx_rng (l : List Int) (c : Int) : -1 ≤ idxI l c ∧ idxI l c ≤ l.length := by
  induction l with
  | nil => simp [idxI]
  | cons x l ih => simp only [idxI, List.length_cons]; split <;> (try split) <;> omega
theorem idx_fn (l : List Int) (c : Int) (hl : inB0 l) (h0 : 0 ≤ c) (h1 : c ≤ 255) : Fun Tryz.prog [] 60 [.c (.lst [.int .u8]), .c (.int .u8)] [.lst (l.map U8d), U8d c] [.c (.int .i64)] (.ok [I64d (idxI l c)]) := by
  intro w M vs ps hM hG hA hI
  obtain ⟨hps, _⟩ := hA.plain rfl
  subst hps
  obtain ⟨v1, v2, rfl, ha, hb⟩ : ∃ v1 v2, vs = [v1, v2] ∧ Rep M (.lst [.int .u8]) v1 (.lst (l.map U8d)) ∧ Rep M (.int .u8) v2 (U8d c) := by
    generalize hq : ([] : List (Nat × Nat)) = q at hA
    cases hA with
    | cons ha hA => cases hA with
      | cons hb hA => cases hA; exact ⟨_, _, rfl, ha.1, hb.1⟩
  rw [Rep_int] at hb
  obtain ⟨n, rfl, e, _⟩ := hb
  cases e
  rw [Rep_lst] at ha
  obtain ⟨l', e, hlen, hv⟩ := ha
  cases e
  have hrun : (Extern.BytealgIndexByte.indexByte #[v1, .int .u8 c]).run Tryz.prog w = .ok (.int .i64 (idxI l c)) w := by
    rcases hv with ⟨rfl, hnil⟩ | ⟨b, off, sp, cap, rfl, hsp, hcap, hm, hcells⟩
    · have : l = [] := by simpa using hnil
      subst this
      exact Lib.run_indexByteNil w 0 0 c
    · have hc := lst_cells hcells
      by_cases hz : 0 < cap
      · rw [← idx_lib l c hl h0 h1, hsp hz, List.length_map]
        exact Lib.run_indexByteSlice w b off l.length cap l rfl (fun i hi => (hM _ _ _ (hc i hi)).1) c
      · have : l = [] := by
          have : (l.map U8d).length = 0 := by omega
          simpa using this
        subst this
        exact Lib.run_indexByteNil w 0 cap c
  refine (idx_calls v1 c _ w hrun).mono ?_
  rintro e w' ⟨rfl, rfl⟩
  have hr := idx_rng l c
  simp only [List.length_map, maxLen] at hlen
  refine fun_pure hM rfl ⟨_, rfl, ?_, rfl⟩
  rw [Rep_int]
  exact ⟨_, rfl, rfl, by rw [min_i64]; omega, by rw [max_i64]; omega⟩

end Go.Proofs.YtfhdgaecclfccaaGreat
set_option maxRecDepth 100000
set_option linter.unusedSimpArgs false
set_option linter.unusedVariables false
namespace Go.Proofs.YtfhdgaecclfccaaGreat
open Go.Proofs.YtfhdgaecclfccaaGreat.Sy
theorem hP : NoNum Tryz.prog := by unfold NoNum; kernel_rfl
def sgs : Nat → Option (List TS × List TS) := fun f => if Nat.beq f 29 then some ([.r [.int .u8], .c (.int .u8)], [.r [.int .u8]]) else if Nat.beq f 13 then some ([.c (.lst [.int .u8])], [.r [.int .u8], .c (.int .i64)]) else if Nat.beq f 61 then some ([.c (.lst [.int .u8]), .c .bool], [.r [.int .u8], .c (.int .i64)]) else if Nat.beq f 49 then some ([.c (.lst [.int .u8]), .c (.int .i64)], [.r [.int .u8]]) else none
def vcsum : VC := (.loop [(.int .u16), (.int .i64)] [(.ki .u16 65535), (.ki .i64 0)]
 (.ite (.cmp .lss (.v 2) (.len (.v 0)))
  (.ev [(.ob (.cmp .geq (.v 2) (.ki .i64 0))), (.ob (.cmp .lss (.v 2) (.len (.v 0))))]
   (.loop [(.int .u16), (.int .i64)] [(.ar .xor .u16 (.v 1) (.shf .shl .u16 (.conv .u16 (.get (.v 0) (.v 2))) (.ki .u64 8))), (.ki .i64 0)]
    (.ite (.cmp .lss (.v 4) (.ki .i64 8))
     (.ite (.cmp .neq (.ar .and .u16 (.v 3) (.ki .u16 32768)) (.ki .u16 0))
      (.back 1 [(.ar .xor .u16 (.shf .shl .u16 (.v 3) (.ki .u64 1)) (.ki .u16 4129)), (.ar .add .i64 (.v 4) (.ki .i64 1))])
      (.back 1 [(.shf .shl .u16 (.v 3) (.ki .u64 1)), (.ar .add .i64 (.v 4) (.ki .i64 1))]))
     (.back 0 [(.v 3), (.ar .add .i64 (.v 2) (.ki .i64 1))]))))
  (.ret [(.conv .i64 (.v 1))])))
theorem sum_ent : EntOK Tryz.prog [] ⟨30, [(.c (.lst [(.int .u8)]))], [(.c (.int .i64))], vcsum⟩ :=
  ent_of_gen hP Tryz.func30 rfl (by decide) (sg := sgs) (by kernel_rfl)
def vcrsum : VC := (.loop [(.int .i64), (.int .i64)] [(.ki .i64 65535), (.ki .i64 0)]
 (.ite (.cmp .lss (.v 2) (.len (.v 0)))
  (.ev [(.ob (.cmp .geq (.v 2) (.ki .i64 0))), (.ob (.cmp .lss (.v 2) (.len (.v 0))))]
   (.loop [(.int .i64), (.int .i64)] [(.ar .xor .i64 (.v 1) (.ar .mul .i64 (.conv .i64 (.get (.v 0) (.v 2))) (.ki .i64 256))), (.ki .i64 0)]
    (.ite (.cmp .lss (.v 4) (.ki .i64 8))
     (.ite (.cmp .geq (.ar .mul .i64 (.v 3) (.ki .i64 2)) (.ki .i64 65536))
      (.back 1 [(.ar .xor .i64 (.ar .sub .i64 (.ar .mul .i64 (.v 3) (.ki .i64 2)) (.ki .i64 65536)) (.ki .i64 4129)), (.ar .add .i64 (.v 4) (.ki .i64 1))])
      (.back 1 [(.ar .mul .i64 (.v 3) (.ki .i64 2)), (.ar .add .i64 (.v 4) (.ki .i64 1))]))
     (.back 0 [(.v 3), (.ar .add .i64 (.v 2) (.ki .i64 1))]))))
  (.ret [(.v 1)])))
theorem rsum_ent : EntOK Tryz.prog [] ⟨50, [(.c (.lst [(.int .u8)]))], [(.c (.int .i64))], vcrsum⟩ :=
  ent_of_gen hP Tryz.func50 rfl (by decide) (sg := sgs) (by kernel_rfl)
def vcput : VC := (.ite (.cmp .eql (.v 1) (.ki .u8 192))
 (.ev [(.ob (.cmp .leq (.len (.app (.v 0) (.cons (.ki .u8 219) (.cons (.ki .u8 220) .nil)))) (.ki .i64 4294967296)))]
  (.ret [(.app (.v 0) (.cons (.ki .u8 219) (.cons (.ki .u8 220) .nil)))]))
 (.ite (.cmp .eql (.v 1) (.ki .u8 219))
  (.ev [(.ob (.cmp .leq (.len (.app (.v 0) (.cons (.ki .u8 219) (.cons (.ki .u8 221) .nil)))) (.ki .i64 4294967296)))]
   (.ret [(.app (.v 0) (.cons (.ki .u8 219) (.cons (.ki .u8 221) .nil)))]))
  (.ev [(.ob (.cmp .leq (.len (.app (.v 0) (.cons (.v 1) .nil))) (.ki .i64 4294967296)))]
   (.ret [(.app (.v 0) (.cons (.v 1) .nil))]))))
theorem put_ent : EntOK Tryz.prog [] ⟨29, [(.r [(.int .u8)]), (.c (.int .u8))], [(.r [(.int .u8)])], vcput⟩ :=
  ent_of_gen hP Tryz.func29 rfl (by decide) (sg := sgs) (by kernel_rfl)
def vcpack : VC := (.ite (.cmp .gtr (.len (.v 0)) (.ki .i64 4096))
 (.ret [.nil, (.ki .i64 3)])
 (.loop [(.lst [(.int .u8)]), (.int .i64)] [(.cons (.ki .u8 192) .nil), (.ki .i64 0)]
  (.ite (.cmp .lss (.v 2) (.len (.v 0)))
   (.ev [(.ob (.cmp .geq (.v 2) (.ki .i64 0))), (.ob (.cmp .lss (.v 2) (.len (.v 0))))]
    (.cal 29 [(.r [(.int .u8)]), (.c (.int .u8))] [(.v 1), (.get (.v 0) (.v 2))] [(.r [(.int .u8)])] 3
     (.back 0 [(.v 3), (.ar .add .i64 (.v 2) (.ki .i64 1))])))
   (.cal 30 [(.c (.lst [(.int .u8)]))] [(.v 0)] [(.c (.int .i64))] 3
    (.cal 29 [(.r [(.int .u8)]), (.c (.int .u8))] [(.v 1), (.conv .u8 (.shf .shr .i64 (.v 3) (.ki .u64 8)))] [(.r [(.int .u8)])] 4
     (.cal 29 [(.r [(.int .u8)]), (.c (.int .u8))] [(.v 4), (.conv .u8 (.v 3))] [(.r [(.int .u8)])] 5
      (.ev [(.ob (.cmp .leq (.len (.app (.v 5) (.cons (.ki .u8 192) .nil))) (.ki .i64 4294967296)))]
       (.ret [(.app (.v 5) (.cons (.ki .u8 192) .nil)), (.ki .i64 0)]))))))))
theorem pack_ent : EntOK Tryz.prog [] ⟨13, [(.c (.lst [(.int .u8)]))], [(.r [(.int .u8)]), (.c (.int .i64))], vcpack⟩ :=
  ent_of_gen hP Tryz.func13 rfl (by decide) (sg := sgs) (by kernel_rfl)
def vccontent : VC := (.ev [(.ob (.cmp .leq (.len (.app .nil (.v 0))) (.ki .i64 4294967296)))]
 (.ev [(.ob (.cmp .leq (.len (.app (.app .nil (.v 0)) (.cons (.conv .u8 (.ar .quo .i64 (.v 1) (.ki .i64 256))) (.cons (.conv .u8 (.ar .rem .i64 (.v 1) (.ki .i64 256))) .nil)))) (.ki .i64 4294967296)))]
  (.ret [(.app (.app .nil (.v 0)) (.cons (.conv .u8 (.ar .quo .i64 (.v 1) (.ki .i64 256))) (.cons (.conv .u8 (.ar .rem .i64 (.v 1) (.ki .i64 256))) .nil)))])))
theorem content_ent : EntOK Tryz.prog [] ⟨49, [(.c (.lst [(.int .u8)])), (.c (.int .i64))], [(.r [(.int .u8)])], vccontent⟩ :=
  ent_of_gen hP Tryz.func49 rfl (by decide) (sg := sgs) (by kernel_rfl)
def vcstuff : VC := (.loop [(.lst [(.int .u8)]), (.int .i64)] [(.cons (.ki .u8 192) .nil), (.ki .i64 0)]
 (.ite (.cmp .lss (.v 2) (.len (.v 0)))
  (.ev [(.ob (.cmp .geq (.v 2) (.ki .i64 0))), (.ob (.cmp .lss (.v 2) (.len (.v 0))))]
   (.ite (.cmp .eql (.get (.v 0) (.v 2)) (.ki .u8 192))
    (.ev [(.ob (.cmp .leq (.len (.app (.v 1) (.cons (.ki .u8 219) (.cons (.ki .u8 220) .nil)))) (.ki .i64 4294967296)))]
     (.back 0 [(.app (.v 1) (.cons (.ki .u8 219) (.cons (.ki .u8 220) .nil))), (.ar .add .i64 (.v 2) (.ki .i64 1))]))
    (.ite (.cmp .eql (.get (.v 0) (.v 2)) (.ki .u8 219))
     (.ev [(.ob (.cmp .leq (.len (.app (.v 1) (.cons (.ki .u8 219) (.cons (.ki .u8 221) .nil)))) (.ki .i64 4294967296)))]
      (.back 0 [(.app (.v 1) (.cons (.ki .u8 219) (.cons (.ki .u8 221) .nil))), (.ar .add .i64 (.v 2) (.ki .i64 1))]))
     (.ev [(.ob (.cmp .geq (.v 2) (.ki .i64 0))), (.ob (.cmp .lss (.v 2) (.len (.v 0))))]
      (.ev [(.ob (.cmp .leq (.len (.app (.v 1) (.cons (.get (.v 0) (.v 2)) .nil))) (.ki .i64 4294967296)))]
       (.back 0 [(.app (.v 1) (.cons (.get (.v 0) (.v 2)) .nil)), (.ar .add .i64 (.v 2) (.ki .i64 1))]))))))
  (.ev [(.ob (.cmp .leq (.len (.app (.v 1) (.cons (.ki .u8 192) .nil))) (.ki .i64 4294967296)))]
   (.ret [(.app (.v 1) (.cons (.ki .u8 192) .nil))]))))
theorem stuff_ent : EntOK Tryz.prog [] ⟨48, [(.c (.lst [(.int .u8)]))], [(.c (.lst [(.int .u8)]))], vcstuff⟩ :=
  ent_of_gen hP Tryz.func48 rfl (by decide) (sg := sgs) (by kernel_rfl)
def vcrpack : VC := (.ite (.cmp .gtr (.len (.v 0)) (.ki .i64 4096))
 (.ret [.nil, (.ki .i64 3)])
 (.cal 50 [(.c (.lst [(.int .u8)]))] [(.v 0)] [(.c (.int .i64))] 1
  (.cal 49 [(.c (.lst [(.int .u8)])), (.c (.int .i64))] [(.v 0), (.v 1)] [(.r [(.int .u8)])] 2
   (.cal 48 [(.c (.lst [(.int .u8)]))] [(.v 2)] [(.c (.lst [(.int .u8)]))] 3
    (.ret [(.v 3), (.ki .i64 0)])))))
theorem rpack_ent : EntOK Tryz.prog [] ⟨16, [(.c (.lst [(.int .u8)]))], [(.c (.lst [(.int .u8)])), (.c (.int .i64))], vcrpack⟩ :=
  ent_of_gen hP Tryz.func16 rfl (by decide) (sg := sgs) (by kernel_rfl)
def vcunpack : VC := (.ite (.cmp .eql (.len (.v 0)) (.ki .i64 0))
 (.ret [.nil, (.ki .i64 6)])
 (.ev [(.ob (.cmp .lss (.ki .i64 0) (.len (.v 0))))]
  (.ite (.cmp .neq (.get (.v 0) (.ki .i64 0)) (.ki .u8 192))
   (.ret [.nil, (.ki .i64 5)])
   (.ev [(.ob (.cmp .leq (.ki .i64 0) (.len (.v 0)))), (.ob (.cmp .leq (.len (.v 0)) (.len (.v 0)))), (.ob (.cmp .leq (.ki .i64 0) (.len (.v 0)))), (.ob (.cmp .leq (.len (.v 0)) (.len (.v 0)))), (.ob (.cmp .leq (.ki .i64 1) (.len (.v 0))))]
    (.cal 60 [(.c (.lst [(.int .u8)])), (.c (.int .u8))] [(.sub (.v 0) (.ki .i64 1) (.len (.v 0))), (.ki .u8 192)] [(.c (.int .i64))] 1
     (.ite (.cmp .geq (.v 1) (.ki .i64 0))
      (.ev [(.ob (.cmp .leq (.ki .i64 0) (.v 1))), (.ob (.cmp .leq (.v 1) (.len (.sub (.v 0) (.ki .i64 1) (.len (.v 0)))))), (.ob (.cmp .leq (.ki .i64 0) (.v 1))), (.ob (.cmp .leq (.v 1) (.v 1)))]
       (.cal 61 [(.c (.lst [(.int .u8)])), (.c .bool)] [(.sub (.sub (.v 0) (.ki .i64 1) (.len (.v 0))) (.ki .i64 0) (.v 1)), (.kb true)] [(.r [(.int .u8)]), (.c (.int .i64))] 2
        (.ite (.cmp .neq (.v 3) (.ki .i64 0))
         (.ret [.nil, (.v 3)])
         (.ite (.cmp .gtr (.len (.v 0)) (.ar .add .i64 (.len (.sub (.sub (.v 0) (.ki .i64 1) (.len (.v 0))) (.ki .i64 0) (.v 1))) (.ki .i64 2)))
          (.ret [.nil, (.ki .i64 5)])
          (.ite (.cmp .lss (.len (.v 2)) (.ki .i64 2))
           (.ret [.nil, (.ki .i64 6)])
           (.ite (.cmp .gtr (.ar .sub .i64 (.len (.v 2)) (.ki .i64 2)) (.ki .i64 4096))
            (.ret [.nil, (.ki .i64 3)])
            (.ev [(.ob (.cmp .leq (.ki .i64 0) (.ar .sub .i64 (.len (.v 2)) (.ki .i64 2)))), (.ob (.cmp .leq (.ar .sub .i64 (.len (.v 2)) (.ki .i64 2)) (.len (.v 2)))), (.ob (.cmp .geq (.ar .sub .i64 (.len (.v 2)) (.ki .i64 2)) (.ki .i64 0))), (.ob (.cmp .lss (.ar .sub .i64 (.len (.v 2)) (.ki .i64 2)) (.len (.v 2)))), (.ob (.cmp .lss (.ar .sub .i64 (.len (.v 2)) (.ki .i64 2)) (.len (.v 2)))), (.ob (.cmp .geq (.ar .add .i64 (.ar .sub .i64 (.len (.v 2)) (.ki .i64 2)) (.ki .i64 1)) (.ki .i64 0))), (.ob (.cmp .lss (.ar .add .i64 (.ar .sub .i64 (.len (.v 2)) (.ki .i64 2)) (.ki .i64 1)) (.len (.v 2)))), (.ob (.cmp .lss (.ar .add .i64 (.ar .sub .i64 (.len (.v 2)) (.ki .i64 2)) (.ki .i64 1)) (.len (.v 2))))]
             (.cal 30 [(.c (.lst [(.int .u8)]))] [(.sub (.v 2) (.ki .i64 0) (.ar .sub .i64 (.len (.v 2)) (.ki .i64 2)))] [(.c (.int .i64))] 4
              (.ite (.cmp .neq (.v 4) (.ar .or .i64 (.shf .shl .i64 (.conv .i64 (.get (.v 2) (.ar .sub .i64 (.len (.v 2)) (.ki .i64 2)))) (.ki .u64 8)) (.conv .i64 (.get (.v 2) (.ar .add .i64 (.ar .sub .i64 (.len (.v 2)) (.ki .i64 2)) (.ki .i64 1))))))
               (.ret [.nil, (.ki .i64 7)])
               (.ev [(.ob (.cmp .leq (.ki .i64 0) (.ar .sub .i64 (.len (.v 2)) (.ki .i64 2)))), (.ob (.cmp .leq (.ar .sub .i64 (.len (.v 2)) (.ki .i64 2)) (.len (.v 2)))), (.ob (.cmp .leq (.ki .i64 0) (.ar .sub .i64 (.len (.v 2)) (.ki .i64 2)))), (.ob (.cmp .leq (.ar .sub .i64 (.len (.v 2)) (.ki .i64 2)) (.ar .sub .i64 (.len (.v 2)) (.ki .i64 2))))]
                (.ret [(.sub (.v 2) (.ki .i64 0) (.ar .sub .i64 (.len (.v 2)) (.ki .i64 2))), (.ki .i64 0)])))))))))))
      (.cal 61 [(.c (.lst [(.int .u8)])), (.c .bool)] [(.sub (.v 0) (.ki .i64 1) (.len (.v 0))), (.kb false)] [(.r [(.int .u8)]), (.c (.int .i64))] 2
       (.ite (.cmp .neq (.v 3) (.ki .i64 0))
        (.ret [.nil, (.v 3)])
        (.ite (.cmp .gtr (.len (.v 0)) (.ar .add .i64 (.len (.sub (.v 0) (.ki .i64 1) (.len (.v 0)))) (.ki .i64 2)))
         (.ret [.nil, (.ki .i64 5)])
         (.ite (.cmp .lss (.len (.v 2)) (.ki .i64 2))
          (.ret [.nil, (.ki .i64 6)])
          (.ite (.cmp .gtr (.ar .sub .i64 (.len (.v 2)) (.ki .i64 2)) (.ki .i64 4096))
           (.ret [.nil, (.ki .i64 3)])
           (.ev [(.ob (.cmp .leq (.ki .i64 0) (.ar .sub .i64 (.len (.v 2)) (.ki .i64 2)))), (.ob (.cmp .leq (.ar .sub .i64 (.len (.v 2)) (.ki .i64 2)) (.len (.v 2)))), (.ob (.cmp .geq (.ar .sub .i64 (.len (.v 2)) (.ki .i64 2)) (.ki .i64 0))), (.ob (.cmp .lss (.ar .sub .i64 (.len (.v 2)) (.ki .i64 2)) (.len (.v 2)))), (.ob (.cmp .lss (.ar .sub .i64 (.len (.v 2)) (.ki .i64 2)) (.len (.v 2)))), (.ob (.cmp .geq (.ar .add .i64 (.ar .sub .i64 (.len (.v 2)) (.ki .i64 2)) (.ki .i64 1)) (.ki .i64 0))), (.ob (.cmp .lss (.ar .add .i64 (.ar .sub .i64 (.len (.v 2)) (.ki .i64 2)) (.ki .i64 1)) (.len (.v 2)))), (.ob (.cmp .lss (.ar .add .i64 (.ar .sub .i64 (.len (.v 2)) (.ki .i64 2)) (.ki .i64 1)) (.len (.v 2))))]
            (.cal 30 [(.c (.lst [(.int .u8)]))] [(.sub (.v 2) (.ki .i64 0) (.ar .sub .i64 (.len (.v 2)) (.ki .i64 2)))] [(.c (.int .i64))] 4
             (.ite (.cmp .neq (.v 4) (.ar .or .i64 (.shf .shl .i64 (.conv .i64 (.get (.v 2) (.ar .sub .i64 (.len (.v 2)) (.ki .i64 2)))) (.ki .u64 8)) (.conv .i64 (.get (.v 2) (.ar .add .i64 (.ar .sub .i64 (.len (.v 2)) (.ki .i64 2)) (.ki .i64 1))))))
              (.ret [.nil, (.ki .i64 7)])
              (.ev [(.ob (.cmp .leq (.ki .i64 0) (.ar .sub .i64 (.len (.v 2)) (.ki .i64 2)))), (.ob (.cmp .leq (.ar .sub .i64 (.len (.v 2)) (.ki .i64 2)) (.len (.v 2)))), (.ob (.cmp .leq (.ki .i64 0) (.ar .sub .i64 (.len (.v 2)) (.ki .i64 2)))), (.ob (.cmp .leq (.ar .sub .i64 (.len (.v 2)) (.ki .i64 2)) (.ar .sub .i64 (.len (.v 2)) (.ki .i64 2))))]
               (.ret [(.sub (.v 2) (.ki .i64 0) (.ar .sub .i64 (.len (.v 2)) (.ki .i64 2))), (.ki .i64 0)]))))))))))))))))
theorem unpack_ent : EntOK Tryz.prog [] ⟨18, [(.c (.lst [(.int .u8)]))], [(.c (.lst [(.int .u8)])), (.c (.int .i64))], vcunpack⟩ :=
  ent_of_gen hP Tryz.func18 rfl (by decide) (sg := sgs) (by kernel_rfl)

end Go.Proofs.YtfhdgaecclfccaaGreat
set_option maxRecDepth 100000
set_option linter.unusedSimpArgs false
set_option linter.unusedVariables false
namespace Go.Proofs.YtfhdgaecclfccaaGreat
open Go.Proofs.YtfhdgaecclfccaaGreat.Sy Go.RowKit Go.WideShapes Go.ChangeShapes Go.ChangeAt
theorem xor16 {x y : Int} (h0 : 0 ≤ x) (h1 : x ≤ 65535) (h2 : 0 ≤ y) (h3 : y ≤ 65535) : arI .xor .u16 x y = xorI x y := by
  have hr := xor_rng h0 h1 h2 h3
  unfold arI
  simp only [BitVec.toNat_xor, bv_toNat (n := IntKind.bits .u16) h0 (show x < 2 ^ 16 by omega), bv_toNat (n := IntKind.bits .u16) h2 (show y < 2 ^ 16 by omega)]
  exact wrap_u16 hr.1 hr.2
theorem xor64 {x y : Int} (h0 : 0 ≤ x) (h1 : x ≤ 65535) (h2 : 0 ≤ y) (h3 : y ≤ 65535) : arI .xor .i64 x y = xorI x y := by
  have hr := xor_rng h0 h1 h2 h3
  unfold arI
  simp only [BitVec.toNat_xor, bv_toNat (n := IntKind.bits .i64) h0 (show x < 2 ^ 64 by omega), bv_toNat (n := IntKind.bits .i64) h2 (show y < 2 ^ 64 by omega)]
  exact wrap_i64 (by unfold xorI at hr; omega) (by unfold xorI at hr; omega)
theorem and_top {x : Int} (h0 : 0 ≤ x) (h1 : x ≤ 65535) : arI .and .u16 x 32768 = if 32768 ≤ x then 32768 else 0 := by
  unfold arI
  simp only [BitVec.toNat_and, bv_toNat (n := IntKind.bits .u16) h0 (show x < 2 ^ 16 by omega), bv_toNat (n := IntKind.bits .u16) (x := 32768) (by omega) (by decide)]
  have key : ∀ y : Nat, y < 65536 → y &&& 2 ^ 15 = if 32768 ≤ y then 32768 else 0 := by
    intro y hy
    apply Nat.eq_of_testBit_eq
    intro i
    rw [Nat.testBit_and, Nat.testBit_two_pow]
    by_cases hi : 15 = i
    · subst hi
      have h15 : y.testBit 15 = decide (32768 ≤ y) := by
        rw [Nat.testBit_eq_decide_div_mod_eq]
        by_cases hx : 32768 ≤ y
        · have : y / 2 ^ 15 % 2 = 1 := by omega
          simp [this, hx]
        · have : y / 2 ^ 15 % 2 = 0 := by omega
          simp [this, hx]
      rw [h15]
      split
      · rename_i h; simp [h]; decide
      · rename_i h; simp [h]
    · split
      · rw [show (32768 : Nat) = 2 ^ 15 by decide, Nat.testBit_two_pow]; simp [hi]
      · simp [hi]
  have e : (((x.toNat &&& (32768 : Int).toNat : Nat)) : Int) = if 32768 ≤ x then 32768 else 0 := by
    rw [show (32768 : Int).toNat = 2 ^ 15 by decide, key _ (by omega)]
    split <;> split <;> omega
  rw [e]
  split
  · exact wrap_u16 (by omega) (by omega)
  · exact wrap_u16 (by omega) (by omega)
theorem shl_u16 {x : Int} (h0 : 0 ≤ x) (h1 : x ≤ 65535) : shI .shl .u16 x 1 = if 32768 ≤ x then 2 * x - 65536 else 2 * x := by
  rw [shI_shl, wrap_u16_mod, show (2 : Int) ^ (min (1 : Int).toNat (IntKind.bits .u16)) = 2 by decide]
  split <;> omega
theorem shl8_u16 {x : Int} (h0 : 0 ≤ x) (h1 : x ≤ 255) : shI .shl .u16 x 8 = x * 256 := by
  rw [shI_shl, show (2 : Int) ^ (min (8 : Int).toNat (IntKind.bits .u16)) = 256 by decide]
  exact wrap_u16 (by omega) (by omega)
theorem shr8_i64 (x : Int) : shI .shr .i64 x 8 = x / 256 := by
  rw [shI_shr, show (2 : Int) ^ (min (8 : Int).toNat (IntKind.bits .i64)) = 256 by decide]
  exact Int.fdiv_eq_ediv_of_nonneg _ (by decide)
def sumI (b : List Int) (xs : List D) : Prop := ∃ (r : Int) (i : Nat), xs = [.int .u16 r, I64d i] ∧ i ≤ b.length ∧ 0 ≤ r ∧ r ≤ 65535 ∧ (b.drop i).foldl byteS r = sumS b
def sumM (b : List Int) (xs : List D) : Nat := b.length - (xs.getD 1 default).toI.toNat
def sumJ (c r0 : Int) (xs : List D) : Prop := ∃ (r : Int) (k : Nat), xs = [.int .u16 r, I64d k] ∧ k ≤ 8 ∧ 0 ≤ r ∧ r ≤ 65535 ∧ stepN (8 - k) r = byteS r0 c
def sumN (xs : List D) : Nat := 8 - (xs.getD 1 default).toI.toNat
theorem sum_fn (b : List Int) (hb : inB b) (hl : b.length ≤ 4294967296) : Fun Tryz.prog [] 30 [tY] [bD b] [tI] (.ok [I64d (sumS b)]) := by
  refine sum_ent _ _ ?_
  show vcsum.den _ _ _ _ _
  unfold vcsum
  simp only [dF, dE]
  refine den_loop (sumI b) (sumM b) ⟨65535, 0, rfl, by omega, by omega, by omega, rfl⟩ ?_
  simp only [AllSh]
  intro r _ _ n _ _ ⟨r', i, he, hi, h0, h1, hs⟩
  simp only [List.cons.injEq, D.int.injEq, true_and, and_true] at he
  obtain ⟨rfl, rfl⟩ := he
  (try simp only [dN])
  refine den_ite (fun h => ?_) (fun h => ?_)
  · simp only [dF, dE] at h
    have hi' : i < b.length := by omega
    have hg := get_U hi'
    have hc := hb.get hi'
    refine den_ev (evs_ob (by simp only [dF, dE]; omega) (evs_ob (by simp only [dF, dE]; omega) (evs_nil ?_)))
    have hx := xor_rng h0 h1 (y := b.getD i 0 * 256) (by omega) (by omega)
    refine den_loop (sumJ (b.getD i 0) r) sumN ⟨xorI r (b.getD i 0 * 256), 0, ?_, by omega, hx.1, hx.2, rfl⟩ ?_
    · simp only [dF, dE]
      rw [hg]
      simp only [dF, dE]
      rw [wrap_u16 hc.1 (by omega), shl8_u16 hc.1 hc.2, xor16 h0 h1 (by omega) (by omega)]
      simp
    simp only [AllSh]
    intro q _ _ m _ _ ⟨q', k, he, hk, g0, g1, hq⟩
    simp only [List.cons.injEq, D.int.injEq, true_and, and_true] at he
    obtain ⟨rfl, rfl⟩ := he
    (try simp only [dN])
    refine den_ite (fun h2 => ?_) (fun h2 => ?_)
    · simp only [dF, dE] at h2
      have hk' : k < 8 := by omega
      have hst : stepN (8 - (k + 1)) (step1 q) = byteS r (b.getD i 0) := by
        rw [← hq, show 8 - k = 8 - (k + 1) + 1 by omega]; rfl
      have hr := step1_rng g0 g1
      have hw : IntKind.wrap .i64 ((k : Int) + 1) = ((k + 1 : Nat) : Int) := by rw [wrap_i64 (by omega) (by omega)]; omega
      refine den_ite (fun h3 => ?_) (fun h3 => ?_)
      · simp only [dF, dE] at h3
        rw [and_top g0 g1] at h3
        have h4 : 32768 ≤ q := by
          rcases Int.lt_or_le q 32768 with h | h
          · rw [if_neg (by omega)] at h3; exact absurd rfl h3
          · exact h
        refine den_back rfl ⟨step1 q, k + 1, ?_, by omega, hr.1, hr.2, hst⟩ ?_
        · simp only [dF, dE]
          rw [shl_u16 g0 g1, if_pos h4, xor16 (by omega) (by omega) (by omega) (by omega), hw]
          simp [step1, h4]
        · simp only [sumN]; simp only [dF, dE]; rw [hw]; omega
      · simp only [dF, dE] at h3
        rw [and_top g0 g1] at h3
        have h4 : ¬ 32768 ≤ q := by
          intro h
          rw [if_pos h] at h3
          omega
        refine den_back rfl ⟨step1 q, k + 1, ?_, by omega, hr.1, hr.2, hst⟩ ?_
        · simp only [dF, dE]
          rw [shl_u16 g0 g1, if_neg h4, hw]
          simp [step1, h4]
        · simp only [sumN]; simp only [dF, dE]; rw [hw]; omega
    · simp only [dF, dE] at h2
      have hk8 : k = 8 := by omega
      subst hk8
      have hq' : q = byteS r (b.getD i 0) := hq
      have hw : IntKind.wrap .i64 ((i : Int) + 1) = ((i + 1 : Nat) : Int) := by rw [wrap_i64 (by omega) (by omega)]; omega
      refine den_back rfl ⟨q, i + 1, ?_, by omega, g0, g1, ?_⟩ ?_
      · simp only [dF, dE]; rw [hw]
      · rw [← hs, drop_get 0 hi', List.foldl_cons, hq']
      · simp only [sumM]; simp only [dF, dE]; rw [hw]; omega
  · simp only [dF, dE] at h
    refine den_ret ?_
    have : i = b.length := by omega
    subst this
    simp only [dF, dE]
    rw [List.drop_length] at hs
    simp only [List.foldl_nil] at hs
    rw [wrap_i64 (by omega) (by omega), hs]
def rsumI (b : List Int) (xs : List D) : Prop := ∃ (r : Int) (i : Nat), xs = [I64d r, I64d i] ∧ i ≤ b.length ∧ 0 ≤ r ∧ r ≤ 65535 ∧ (b.drop i).foldl byteS r = sumS b
def rsumJ (c r0 : Int) (xs : List D) : Prop := ∃ (r : Int) (k : Nat), xs = [I64d r, I64d k] ∧ k ≤ 8 ∧ 0 ≤ r ∧ r ≤ 65535 ∧ stepN (8 - k) r = byteS r0 c
theorem rsum_fn (b : List Int) (hb : inB b) (hl : b.length ≤ 4294967296) : Fun Tryz.prog [] 50 [tY] [bD b] [tI] (.ok [I64d (sumS b)]) := by
  refine rsum_ent _ _ ?_
  show vcrsum.den _ _ _ _ _
  unfold vcrsum
  simp only [dF, dE]
  refine den_loop (rsumI b) (sumM b) ⟨65535, 0, rfl, by omega, by omega, by omega, rfl⟩ ?_
  simp only [AllSh]
  intro r _ _ n _ _ ⟨r', i, he, hi, h0, h1, hs⟩
  simp only [List.cons.injEq, D.int.injEq, true_and, and_true] at he
  obtain ⟨rfl, rfl⟩ := he
  (try simp only [dN])
  refine den_ite (fun h => ?_) (fun h => ?_)
  · simp only [dF, dE] at h
    have hi' : i < b.length := by omega
    have hg := get_U hi'
    have hc := hb.get hi'
    refine den_ev (evs_ob (by simp only [dF, dE]; omega) (evs_ob (by simp only [dF, dE]; omega) (evs_nil ?_)))
    have hx := xor_rng h0 h1 (y := b.getD i 0 * 256) (by omega) (by omega)
    refine den_loop (rsumJ (b.getD i 0) r) sumN ⟨xorI r (b.getD i 0 * 256), 0, ?_, by omega, hx.1, hx.2, rfl⟩ ?_
    · simp only [dF, dE]
      rw [hg]
      simp only [dF, dE]
      rw [wrap_i64 (n := b.getD i 0) (by omega) (by omega), wrap_i64 (by omega) (by omega), xor64 h0 h1 (by omega) (by omega)]
      simp
    simp only [AllSh]
    intro q _ _ m _ _ ⟨q', k, he, hk, g0, g1, hq⟩
    simp only [List.cons.injEq, D.int.injEq, true_and, and_true] at he
    obtain ⟨rfl, rfl⟩ := he
    (try simp only [dN])
    refine den_ite (fun h2 => ?_) (fun h2 => ?_)
    · simp only [dF, dE] at h2
      have hk' : k < 8 := by omega
      have hst : stepN (8 - (k + 1)) (step1 q) = byteS r (b.getD i 0) := by
        rw [← hq, show 8 - k = 8 - (k + 1) + 1 by omega]; rfl
      have hr := step1_rng g0 g1
      have hw : IntKind.wrap .i64 ((k : Int) + 1) = ((k + 1 : Nat) : Int) := by rw [wrap_i64 (by omega) (by omega)]; omega
      have hw2 : IntKind.wrap .i64 (q * 2) = q * 2 := wrap_i64 (by omega) (by omega)
      refine den_ite (fun h3 => ?_) (fun h3 => ?_)
      · simp only [dF, dE] at h3
        rw [hw2] at h3
        have h4 : 32768 ≤ q := by omega
        refine den_back rfl ⟨step1 q, k + 1, ?_, by omega, hr.1, hr.2, hst⟩ ?_
        · simp only [dF, dE]
          rw [hw2, wrap_i64 (by omega) (by omega), xor64 (by omega) (by omega) (by omega) (by omega), hw, show q * 2 - 65536 = 2 * q - 65536 by omega]
          simp [step1, h4]
        · simp only [sumN]; simp only [dF, dE]; rw [hw]; omega
      · simp only [dF, dE] at h3
        rw [hw2] at h3
        have h4 : ¬ 32768 ≤ q := by omega
        refine den_back rfl ⟨step1 q, k + 1, ?_, by omega, hr.1, hr.2, hst⟩ ?_
        · simp only [dF, dE]
          rw [hw2, hw, show q * 2 = 2 * q by omega]
          simp [step1, h4]
        · simp only [sumN]; simp only [dF, dE]; rw [hw]; omega
    · simp only [dF, dE] at h2
      have hk8 : k = 8 := by omega
      subst hk8
      have hq' : q = byteS r (b.getD i 0) := hq
      have hw : IntKind.wrap .i64 ((i : Int) + 1) = ((i + 1 : Nat) : Int) := by rw [wrap_i64 (by omega) (by omega)]; omega
      refine den_back rfl ⟨q, i + 1, ?_, by omega, g0, g1, ?_⟩ ?_
      · simp only [dF, dE]; rw [hw]
      · rw [← hs, drop_get 0 hi', List.foldl_cons, hq']
      · simp only [sumM]; simp only [dF, dE]; rw [hw]; omega
  · simp only [dF, dE] at h
    refine den_ret ?_
    have : i = b.length := by omega
    subst this
    simp only [dF, dE]
    rw [List.drop_length] at hs
    simp only [List.foldl_nil] at hs
    rw [hs]
theorem put_fn (f : List Int) (c : Int) (hf : f.length ≤ 1000000000) : Fun Tryz.prog [] 29 [.r [.int .u8], .c (.int .u8)] [bD f, U8d c] [.r [.int .u8]] (.ok [bD (f ++ esc c)]) := by
  refine put_ent _ _ ?_
  show vcput.den _ _ _ _ _
  unfold vcput
  refine den_ite (fun h => ?_) (fun h => den_ite (fun h2 => ?_) (fun h2 => ?_))
  · simp only [dF, dE] at h
    refine den_ev (evs_ob (by simp only [dF, dE]; omega) (evs_nil (den_ret ?_)))
    simp only [dF, dE]
    rw [esc_mark h]; simp
  · simp only [dF, dE] at h h2
    refine den_ev (evs_ob (by simp only [dF, dE]; omega) (evs_nil (den_ret ?_)))
    simp only [dF, dE]
    rw [esc_self h2]; simp
  · simp only [dF, dE] at h h2
    refine den_ev (evs_ob (by simp only [dF, dE]; omega) (evs_nil (den_ret ?_)))
    simp only [dF, dE]
    rw [esc_other h h2]; simp
theorem content_fn (b : List Int) (n : Int) (hb : b.length ≤ 1000000000) (h0 : 0 ≤ n) (h1 : n ≤ 65535) : Fun Tryz.prog [] 49 [tY, tI] [bD b, I64d n] [.r [.int .u8]] (.ok [bD (withSum b n)]) := by
  refine content_ent _ _ ?_
  show vccontent.den _ _ _ _ _
  unfold vccontent
  refine den_ev (evs_ob (by simp only [dF, dE]; omega) (evs_nil ?_))
  refine den_ev (evs_ob (by simp only [dF, dE]; omega) (evs_nil (den_ret ?_)))
  simp only [dF, dE]
  have e1 : IntKind.wrap .u8 (IntKind.wrap .i64 (n.tdiv 256)) = n / 256 := by
    rw [Int.tdiv_eq_ediv_of_nonneg h0, wrap_i64 (by omega) (by omega), wrap_u8 (by omega) (by omega)]
  have e2 : IntKind.wrap .u8 (n.tmod 256) = n % 256 := by
    rw [Int.tmod_eq_emod_of_nonneg h0, wrap_u8 (by omega) (by omega)]
  rw [e1, e2]
  simp [withSum]


end Go.Proofs.YtfhdgaecclfccaaGreat
set_option maxRecDepth 100000
set_option linter.unusedSimpArgs false
set_option linter.unusedVariables false
namespace Go.Proofs.YtfhdgaecclfccaaGreat
open Go.Proofs.YtfhdgaecclfccaaGreat.Sy Go.RowKit Go.WideShapes Go.ChangeShapes Go.ChangeAt
def packI (b : List Int) (xs : List D) : Prop := ∃ (o : List Int) (i : Nat), xs = [bD o, I64d i] ∧ i ≤ b.length ∧ o = 192 :: (b.take i).flatMap esc
def packM (b : List Int) (xs : List D) : Nat := b.length - (xs.getD 1 default).toI.toNat
theorem stuff_step {b : List Int} {i : Nat} (h : i < b.length) : 192 :: (b.take (i + 1)).flatMap esc = (192 :: (b.take i).flatMap esc) ++ esc (b.getD i 0) := by
  rw [take_get 0 h, List.flatMap_append]; simp
theorem stuff_le (b : List Int) (i : Nat) : (192 :: (b.take i).flatMap esc).length ≤ 2 * b.length + 1 := by
  have := esc_len (b.take i)
  have h2 : (b.take i).length ≤ b.length := by rw [List.length_take]; omega
  simp only [List.length_cons]
  omega
theorem stuff_fn (b : List Int) (hb : b.length ≤ 100000000) : Fun Tryz.prog [] 48 [tY] [bD b] [tY] (.ok [bD (stuffS b)]) := by
  refine stuff_ent _ _ ?_
  show vcstuff.den _ _ _ _ _
  unfold vcstuff
  simp only [dF, dE]
  refine den_loop (packI b) (packM b) ⟨[192], 0, rfl, by omega, by simp⟩ ?_
  simp only [AllSh]
  intro l _ n _ _ ⟨o, i, he, hi, ho⟩
  simp only [List.cons.injEq, D.int.injEq, D.lst.injEq, true_and, and_true] at he
  obtain ⟨rfl, rfl⟩ := he
  have hol := stuff_le b i
  rw [← ho] at hol
  (try simp only [dN])
  refine den_ite (fun h => ?_) (fun h => ?_)
  · simp only [dF, dE] at h
    have hi' : i < b.length := by omega
    have hg := get_U hi'
    have hw : IntKind.wrap .i64 ((i : Int) + 1) = ((i + 1 : Nat) : Int) := by rw [wrap_i64 (by omega) (by omega)]; omega
    have hst := stuff_step hi'
    refine den_ev (evs_ob (by simp only [dF, dE]; omega) (evs_ob (by simp only [dF, dE]; omega) (evs_nil ?_)))
    refine den_ite (fun h2 => ?_) (fun h2 => den_ite (fun h3 => ?_) (fun h3 => ?_))
    · simp only [dF, dE] at h2
      rw [hg] at h2
      simp only [dF, dE] at h2
      refine den_ev (evs_ob (by simp only [dF, dE]; omega) (evs_nil ?_))
      refine den_back rfl ⟨_, i + 1, ?_, by omega, rfl⟩ ?_
      · simp only [dF, dE]
        rw [hst, ← ho, esc_mark h2, hw]
        simp
      · simp only [packM]; simp only [dF, dE]; rw [hw]; omega
    · simp only [dF, dE] at h2 h3
      rw [hg] at h2 h3
      simp only [dF, dE] at h2 h3
      refine den_ev (evs_ob (by simp only [dF, dE]; omega) (evs_nil ?_))
      refine den_back rfl ⟨_, i + 1, ?_, by omega, rfl⟩ ?_
      · simp only [dF, dE]
        rw [hst, ← ho, esc_self h3, hw]
        simp
      · simp only [packM]; simp only [dF, dE]; rw [hw]; omega
    · simp only [dF, dE] at h2 h3
      rw [hg] at h2 h3
      simp only [dF, dE] at h2 h3
      refine den_ev (evs_ob (by simp only [dF, dE]; omega) (evs_ob (by simp only [dF, dE]; omega) (evs_nil ?_)))
      refine den_ev (evs_ob (by simp only [dF, dE]; omega) (evs_nil ?_))
      refine den_back rfl ⟨_, i + 1, ?_, by omega, rfl⟩ ?_
      · simp only [dF, dE]
        rw [hst, ← ho, esc_other h2 h3, hg, hw]
        simp
      · simp only [packM]; simp only [dF, dE]; rw [hw]; omega
  · simp only [dF, dE] at h
    refine den_ev (evs_ob (by simp only [dF, dE]; omega) (evs_nil ?_))
    refine den_ret ?_
    simp only [dF, dE]
    rw [ho, List.take_of_length_le (by omega)]
    simp [stuffS]
theorem pack_fn (b : List Int) (hb : inB b) (hl : b.length ≤ 4294967296) : Fun Tryz.prog [] 13 [tY] [bD b] [.r [.int .u8], tI] (.ok (if 4096 < b.length then [bD [], I64d 3] else [bD (packS b), I64d 0])) := by
  refine pack_ent _ _ ?_
  show vcpack.den _ _ _ _ _
  unfold vcpack
  simp only [dF, dE]
  refine den_ite (fun h => den_ret ?_) (fun h => ?_)
  · simp only [dF, dE] at h
    simp only [dF, dE]
    rw [if_pos (by omega)]
    simp
  simp only [dF, dE] at h
  rw [if_neg (by omega)]
  refine den_loop (packI b) (packM b) ⟨[192], 0, rfl, by omega, by simp⟩ ?_
  simp only [AllSh]
  intro l _ n _ _ ⟨o, i, he, hi, ho⟩
  simp only [List.cons.injEq, D.int.injEq, D.lst.injEq, true_and, and_true] at he
  obtain ⟨rfl, rfl⟩ := he
  have hol := stuff_le b i
  rw [← ho] at hol
  (try simp only [dN])
  refine den_ite (fun h => ?_) (fun h => ?_)
  · simp only [dF, dE] at h
    have hi' : i < b.length := by omega
    have hg := get_U hi'
    have hw : IntKind.wrap .i64 ((i : Int) + 1) = ((i + 1 : Nat) : Int) := by rw [wrap_i64 (by omega) (by omega)]; omega
    have hst := stuff_step hi'
    refine den_ev (evs_ob (by simp only [dF, dE]; omega) (evs_ob (by simp only [dF, dE]; omega) (evs_nil ?_)))
    refine den_cal [bD (o ++ esc (b.getD i 0))] rfl (put_fn o (b.getD i 0) (by omega)) (by simp only [dF, dE]; rw [hg]) rfl ?_
    (try simp only [dN])
    refine den_back rfl ⟨_, i + 1, ?_, by omega, rfl⟩ ?_
    · simp only [dF, dE]
      rw [hst, ← ho, hw]
    · simp only [packM]; simp only [dF, dE]; rw [hw]; omega
  · simp only [dF, dE] at h
    have hsr := sumS_rng hb
    have ho2 : o = 192 :: b.flatMap esc := by rw [ho, List.take_of_length_le (by omega)]
    have e1 := fun c => show (esc c).length ≤ 2 by unfold esc; split <;> (try split) <;> simp
    have eh := e1 (sumS b / 256)
    refine den_cal [I64d (sumS b)] rfl (sum_fn b hb hl) rfl rfl ?_
    (try simp only [dN])
    refine den_cal [bD (o ++ esc (sumS b / 256))] rfl (put_fn o (sumS b / 256) (by omega)) (by simp only [dF, dE]; rw [shr8_i64, wrap_u8 (by omega) (by omega)]) rfl ?_
    (try simp only [dN])
    refine den_cal [bD (o ++ esc (sumS b / 256) ++ esc (sumS b % 256))] rfl (put_fn (o ++ esc (sumS b / 256)) (sumS b % 256) (by rw [List.length_append]; omega)) (by simp only [dF, dE]; rw [wrap_u8_mod]) rfl ?_
    (try simp only [dN])
    have e2 := e1 (sumS b % 256)
    refine den_ev (evs_ob (by simp only [dF, dE]; omega) (evs_nil (den_ret ?_)))
    simp only [dF, dE]
    rw [ho2]
    simp [packS, stuffS, withSum]
theorem rpack_fn (b : List Int) (hb : inB b) (hl : b.length ≤ 4294967296) : Fun Tryz.prog [] 16 [tY] [bD b] [tY, tI] (.ok (if 4096 < b.length then [bD [], I64d 3] else [bD (packS b), I64d 0])) := by
  refine rpack_ent _ _ ?_
  show vcrpack.den _ _ _ _ _
  unfold vcrpack
  simp only [dF, dE]
  refine den_ite (fun h => den_ret ?_) (fun h => ?_)
  · simp only [dF, dE] at h
    simp only [dF, dE]
    rw [if_pos (by omega)]
    simp
  simp only [dF, dE] at h
  rw [if_neg (by omega)]
  have hsr := sumS_rng hb
  refine den_cal [I64d (sumS b)] rfl (rsum_fn b hb hl) rfl rfl ?_
  (try simp only [dN])
  refine den_cal [bD (withSum b (sumS b))] rfl (content_fn b (sumS b) (by omega) hsr.1 hsr.2) rfl rfl ?_
  (try simp only [dN])
  refine den_cal [bD (packS b)] rfl (stuff_fn (withSum b (sumS b)) (by rw [withSum_len]; omega)) rfl rfl ?_
  (try simp only [dN])
  refine den_ret ?_
  simp only [dF, dE]
end Go.Proofs.YtfhdgaecclfccaaGreat
