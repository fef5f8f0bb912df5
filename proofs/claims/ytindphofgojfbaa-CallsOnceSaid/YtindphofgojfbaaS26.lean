/-
  message.set: what it does with a pointer into the middle of a block. No conditions stand ahead of what is proved.
-/
import Derived.Test.YtindphofgojfbaaFrame
import Derived.Test.YtindphofgojfbaaSyE2
import Derived.Tactics
import Derived.Tactics2
set_option maxRecDepth 100000
set_option linter.unusedSimpArgs false
set_option linter.unusedVariables false
namespace Go.Proofs.Ytindphofgojfbaa.S26
open Go.Proofs.Ytindphofgojfbaa.Sy Go.RowKit Go.WideShapes Go.ChangeShapes Go.ChangeAt
theorem noOwn {b : Nat} : ¬ ownS [] b := fun ⟨p, hp, _⟩ => by cases hp
theorem injNil : InjP [] := fun i j p q h => by simp at h
/-- A number that a call returns. -/
theorem num_calls {f : FuncId} {d : D} {s : Sh} {n : Int} (h : Fun Try.prog [] f [.c s] [d] [.c (.int .i64)] (.ok [.int .i64 n])) {w : World} {M : Mem} {v : Value} (hM : MemOK M w) (hv : Rep M s v d) :
    Calls Try.prog f #[v] w fun e w1 => e = .returned (.int .i64 n) ∧ (Lit.int .i64 n).wf = true ∧ ∃ M1, BelowX w.heap.size (ownS []) w w1 ∧ MemOK M1 w1 ∧ M.le M1 ∧ NewIn M M1 w.heap.size (ownS []) := by
  have c1 := h w M [v] [] hM (fun p hp => by cases hp) (ArgsR.cons (ps := []) ⟨hv, rfl⟩ .nil) injNil
  refine c1.mono ?_
  rintro e w1 ⟨v1, M1, ps1, ps2, rs1, rs2, rfl, hrs, hb1, hm1, hle1, hnew1, hres1, ho1, hi1, hown1⟩
  have ho1' : ArgsR M1 w1 [] [] rs2 ps2 := ho1
  cases ho1'
  obtain ⟨r, rfl, hr, rfl⟩ := hres1
  simp only [List.append_nil, List.cons.injEq, and_true] at hrs
  subst hrs
  rw [Rep_int] at hr
  obtain ⟨m, rfl, he, hw⟩ := hr
  simp only [D.int.injEq, true_and] at he
  subst he
  exact ⟨rfl, by show (decide (IntKind.i64.min ≤ _) && decide (_ ≤ IntKind.i64.max)) = true; rw [Bool.and_eq_true, decide_eq_true_eq, decide_eq_true_eq]; exact hw, M1, hb1, hm1, hle1, hnew1⟩
/-- A call that returns nothing. -/
theorem chk_calls {f : FuncId} {d : D} {s : Sh} (h : Fun Try.prog [] f [.c s] [d] [] (.ok [])) {w : World} {M : Mem} {v : Value} (hM : MemOK M w) (hv : Rep M s v d) :
    Calls Try.prog f #[v] w fun e w1 => e = .returned (.tuple #[]) ∧ ∃ M1, BelowX w.heap.size (ownS []) w w1 ∧ MemOK M1 w1 ∧ M.le M1 ∧ NewIn M M1 w.heap.size (ownS []) := by
  have c1 := h w M [v] [] hM (fun p hp => by cases hp) (ArgsR.cons (ps := []) ⟨hv, rfl⟩ .nil) injNil
  refine c1.mono ?_
  rintro e w1 ⟨v1, M1, ps1, ps2, rs1, rs2, rfl, hrs, hb1, hm1, hle1, hnew1, hres1, ho1, hi1, hown1⟩
  obtain ⟨vs0, rfl, hv0⟩ := hres1
  cases hv0
  exact ⟨rfl, M1, hb1, hm1, hle1, hnew1⟩
theorem heap_set {w : World} {b o : Nat} {cs : List Value} {T : TypeId} {x : Value} (h : w.heap[b]? = some (.cells cs.toArray T (0, 0))) : (w.setCell ⟨b, o, none⟩ x).heap[b]? = some (.cells (cs.set o x).toArray T (0, 0)) := by
  simp [World.setCell, Array.getElem?_modify, h]
theorem mem_set {w : World} {M : Mem} {b o : Nat} {cs : List Value} {T : TypeId} {x : Value} (hM : MemOK M w) (h : w.heap[b]? = some (.cells cs.toArray T (0, 0))) (hb : M b o = none) : MemOK M (w.setCell ⟨b, o, none⟩ x) := by
  intro k p v hv
  have h0 := hM k p v hv
  refine ⟨?_, h0.2⟩
  by_cases e : k = b
  · subst e
    have hp : o ≠ p := fun e => by subst e; rw [hb] at hv; cases hv
    have h1 := h0.1
    rw [cell_of_heap h] at h1
    rw [cell_of_heap (heap_set h)]
    simp only [List.getElem?_toArray] at h1 ⊢
    rw [List.getElem?_set_ne hp]
    exact h1
  · rw [← h0.1]
    exact cell_congr (Below.heap_setCell w ⟨b, o, none⟩ x k e)
def vcset : VC := .ev [.call 45 [.c (.lst [.int .u8])] [.v 1] [.c (.int .i64)] 2, .call 44 [.c .bool] [.cmp .neq (.v 2) (.ki .i64 0)] [] 3] (.ret [.v 2])
theorem set_fun {k : Nat} {d0 d1 : D} {n : Int} (h1 : Fun Try.prog [] 45 [.c (.lst [.int .u8])] [d1] [.c (.int .i64)] (.ok [.int .i64 n])) (h2 : Fun Try.prog [] 44 [.c .bool] [.bool (n != 0)] [] (.ok [])) :
    Fun Try.prog [] 50 [.i k (.int .i64), .c (.lst [.int .u8])] [d0, d1] [] (.ok [.int .i64 n]) := by
  intro w M vs ps hM hG hA hI
  cases hA with
  | @cons _ _ v0 vr _ _ p0 _ a0 ar =>
  cases ar with
  | @cons _ _ v1 _ _ _ p1 _ a1 a2 =>
  cases a2
  obtain ⟨b, o, u, T, cs, rfl, hh, hl, hu, hMb, hr, hsc, hone, rfl⟩ := a0
  obtain ⟨hv, rfl⟩ := a1
  have hb : b < w.heap.size := (Array.getElem?_eq_some_iff.1 hh).1
  have c1 := num_calls h1 hM hv
  have c2 : ∀ {w : World} {M : Mem}, MemOK M w → Calls Try.prog 44 #[.bool (n != 0)] w fun e w1 => e = .returned (.tuple #[]) ∧ ∃ M1, BelowX w.heap.size (ownS []) w w1 ∧ MemOK M1 w1 ∧ M.le M1 ∧ NewIn M M1 w.heap.size (ownS []) := fun hM => chk_calls h2 hM (by rw [Rep_bool]; exact ⟨_, rfl, rfl⟩)
  go_enter Try.func50, Try.ntmps50
  go_wp2_with (go_at_call 45; refine c1.mono ?_; rintro e w1 ⟨rfl, hwf, M1, hb1, hm1, hle1, hnew1⟩; have hh1 := (hb1.block b hb noOwn).trans hh; have k1 : w1.cell? ⟨b, o, none⟩ = some u := (by rw [cell_of_heap hh1]; simpa using hu); have f1 : w1.frozen? ⟨b, o, none⟩ = false := (by simp [World.frozen?, hh1]))
  have hMb1 : M1 b o = none := by
    cases hc : M1 b o with
    | none => rfl
    | some x =>
      rcases hnew1 b o x hc with h | h | h
      · rw [hMb] at h; cases h
      · omega
      · exact absurd h noOwn
  have hh2 := heap_set (o := o) (x := .int .i64 n) hh1
  refine (c2 (mem_set (x := .int .i64 n) hm1 hh1 hMb1)).mono ?_
  rintro e w2 ⟨rfl, M2, hb2, hm2, hle2, hnew2⟩
  have hsz : (w1.setCell ⟨b, o, none⟩ (.int .i64 n)).heap.size = w1.heap.size := by simp [World.setCell]
  have hs1 := hb1.size
  rw [hsz] at hb2 hnew2
  have hh3 := (hb2.block b (by omega) noOwn).trans hh2
  go_wp2
  refine bodyPost_ret (by simp [results, Try.results50, go_sem, *]; try rfl) rfl ?_
  have hMb2 : M2 b o = none := by
    cases hc : M2 b o with
    | none => rfl
    | some x =>
      rcases hnew2 b o x hc with h | h | h
      · rw [hMb1] at h; cases h
      · omega
      · exact absurd h noOwn
  have hol : o < cs.length := (List.getElem?_eq_some_iff.1 hu).1
  have hs2 := hb2.size
  rw [hsz] at hs2
  refine ⟨.tuple #[], M2, [], [(b, 1)], [], [.int .i64 n], rfl, rfl, ⟨hb2.os.trans hb1.os, hb2.tape.trans hb1.tape, hb2.output.trans hb1.output, by omega, fun q hq hs => ?_⟩, hm2, fun b' o' v h => hle2 _ _ _ (hle1 _ _ _ h), fun b' o' v h => ?_, ⟨[], rfl, .nil⟩, ?_, injP_one _, fun p hp hp0 => .inr ⟨p, by simpa using hp, hp0, rfl⟩⟩
  · have hqb : q ≠ b := fun e => hs ⟨(b, 1), by simp, Nat.one_pos, e.symm⟩
    rw [hb2.block q (by omega) noOwn, Below.heap_setCell w1 ⟨b, o, none⟩ _ q hqb]
    exact hb1.block q hq noOwn
  · rcases hnew2 b' o' v h with h | h | h
    · rcases hnew1 b' o' v h with h | h | h
      · exact .inl h
      · exact .inr (.inl h)
      · exact absurd h noOwn
    · exact .inr (.inl (by omega))
    · exact absurd h noOwn
  · have h0 : ArgR M2 w2 (.i k (.int .i64)) (.pointer (some ⟨b, o, none⟩)) (.int .i64 n) [(b, 1)] := by
      refine ⟨b, o, .int .i64 n, T, cs.set o (.int .i64 n), rfl, hh3, by rw [List.length_set]; exact hl, by simp [hol], hMb2, ?_, rfl, fun x hx => ?_, rfl⟩
      · rw [Rep_int]
        have hw : (decide (IntKind.i64.min ≤ n) && decide (n ≤ IntKind.i64.max)) = true := hwf
        rw [Bool.and_eq_true, decide_eq_true_eq, decide_eq_true_eq] at hw
        exact ⟨n, rfl, rfl, hw⟩
      · rcases List.mem_or_eq_of_mem_set hx with h | h
        · exact hone x h
        · subst h; rfl
    exact ArgsR.cons (qs := []) h0 .nil
/-- Its entry. -/
theorem set_ent : EntOK Try.prog [] ⟨50, [.i 25 (.int .i64), .c (.lst [.int .u8])], [], vcset⟩ := by
  intro ds r h
  match ds, h with
  | [d0, d1], h =>
    obtain ⟨n, h1, h2, h3⟩ := h
    have h4 : FR.ok [D.int .i64 n] = r := h3
    subst h4
    exact set_fun h1 h2
  | [], _ => intro w M vs ps hM hG hA hI; have := hA.lens.2; simp at this
  | [_], _ => intro w M vs ps hM hG hA hI; have := hA.lens.2; simp at this
  | _ :: _ :: _ :: _, _ => intro w M vs ps hM hG hA hI; have := hA.lens.2; simp at this


end Go.Proofs.Ytindphofgojfbaa.S26
set_option maxRecDepth 100000
set_option linter.unusedSimpArgs false
set_option linter.unusedVariables false
namespace Go.Proofs.Ytindphofgojfbaa.M26
open Go.Proofs.Ytindphofgojfbaa.Sy Go.Proofs.Ytindphofgojfbaa.S26 Go.RowKit Go.WideShapes Go.ChangeShapes Go.ChangeAt
theorem hP : NoNum Try.prog := by unfold NoNum; kernel_rfl
def sgs : Nat → Option (List TS × List TS) := fun f => if Nat.beq f 50 then some ([.i 25 (.int .i64), .c (.lst [.int .u8])], []) else if Nat.beq f 58 then some ([.p [.r [.int .i64, .lst [.int .u8]]], .c (.int .i64), .c (.int .i64)], []) else if Nat.beq f 59 then some ([.p [.r [.int .i64, .lst [.int .u8]]], .c (.int .i64), .c .str], []) else if Nat.beq f 61 then some ([.p [.r [.int .i64, .lst [.int .u8]]], .c (.int .i64), .c (.lst [.lst [.int .u8]])], []) else if Nat.beq f 57 then some ([.r [.int .u8], .c (.int .u8)], [.r [.int .u8]]) else if Nat.beq f 38 then some ([.c (.lst [.int .u8])], [.r [.int .u8], .c (.int .i64)]) else if Nat.beq f 41 then some ([.c (.lst [.int .u8]), .c .bool], [.r [.int .u8], .c (.int .i64)]) else none
def vcdecoded : VC := (.cal 43 [(.c (.lst [(.int .u8)]))] [(.v 0)] [(.c (.lst [(.int .i64), (.lst [(.int .u8)])]))] 1
 (.loop [(.int .i64), (.int .i64), (.int .i64), (.int .i64), (.int .i64), (.int .i64), (.int .i64), (.int .i64), .str, .str, .str, .bool, (.int .i64), (.int .i64), (.int .i64), (.int .i64), (.int .i64), .str, (.int .i64), (.int .i64), (.int .i64), (.int .i64), (.lst [(.int .i64), (.int .i64)]), (.lst [(.int .i64), (.int .i64)]), (.lst [.str, .str, .str, (.int .i64), (.int .i64), (.int .i64)]), (.int .i64)] [(.ki .i64 0), (.ki .i64 0), (.ki .i64 0), (.ki .i64 0), (.ki .i64 0), (.ki .i64 0), (.ki .i64 0), (.ki .i64 0), (.ks ⟨List.toArray []⟩), (.ks ⟨List.toArray []⟩), (.ks ⟨List.toArray []⟩), (.kb false), (.ki .i64 0), (.ki .i64 0), (.ki .i64 0), (.ki .i64 0), (.ki .i64 0), (.ks ⟨List.toArray []⟩), (.ki .i64 0), (.ki .i64 0), (.ki .i64 0), (.ki .i64 0), .nil, .nil, .nil, (.ki .i64 0)]
  (.ite (.cmp .lss (.v 27) (.len (.v 1)))
   (.ev [(.ob (.cmp .geq (.v 27) (.ki .i64 0))), (.ob (.cmp .lss (.v 27) (.len (.v 1))))]
    (.ite (.cmp .eql (.cell (.get (.v 1) (.v 27)) 0) (.ki .i64 9))
     (.back 0 [(.v 2), (.v 3), (.v 4), (.v 5), (.v 6), (.v 7), (.v 8), (.v 9), (.b2s (.cell (.get (.v 1) (.v 27)) 1)), (.v 11), (.v 12), (.v 13), (.v 14), (.v 15), (.v 16), (.v 17), (.v 18), (.v 19), (.v 20), (.v 21), (.v 22), (.v 23), (.v 24), (.v 25), (.v 26), (.ar .add .i64 (.v 27) (.ki .i64 1))])
     (.ite (.cmp .eql (.cell (.get (.v 1) (.v 27)) 0) (.ki .i64 10))
      (.back 0 [(.v 2), (.v 3), (.v 4), (.v 5), (.v 6), (.v 7), (.v 8), (.v 9), (.v 10), (.b2s (.cell (.get (.v 1) (.v 27)) 1)), (.v 12), (.v 13), (.v 14), (.v 15), (.v 16), (.v 17), (.v 18), (.v 19), (.v 20), (.v 21), (.v 22), (.v 23), (.v 24), (.v 25), (.v 26), (.ar .add .i64 (.v 27) (.ki .i64 1))])
      (.ite (.cmp .eql (.cell (.get (.v 1) (.v 27)) 0) (.ki .i64 11))
       (.back 0 [(.v 2), (.v 3), (.v 4), (.v 5), (.v 6), (.v 7), (.v 8), (.v 9), (.v 10), (.v 11), (.b2s (.cell (.get (.v 1) (.v 27)) 1)), (.v 13), (.v 14), (.v 15), (.v 16), (.v 17), (.v 18), (.v 19), (.v 20), (.v 21), (.v 22), (.v 23), (.v 24), (.v 25), (.v 26), (.ar .add .i64 (.v 27) (.ki .i64 1))])
       (.ite (.cmp .eql (.cell (.get (.v 1) (.v 27)) 0) (.ki .i64 12))
        (.cal 45 [(.c (.lst [(.int .u8)]))] [(.cell (.get (.v 1) (.v 27)) 1)] [(.c (.int .i64))] 28
         (.cal 44 [(.c .bool)] [(.cmp .eql (.v 28) (.ki .i64 1))] [] 29
          (.back 0 [(.v 2), (.v 3), (.v 4), (.v 5), (.v 6), (.v 7), (.v 8), (.v 9), (.v 10), (.v 11), (.v 12), (.kb true), (.v 14), (.v 15), (.v 16), (.v 17), (.v 18), (.v 19), (.v 20), (.v 21), (.v 22), (.v 23), (.v 24), (.v 25), (.v 26), (.ar .add .i64 (.v 27) (.ki .i64 1))])))
        (.ite (.cmp .eql (.cell (.get (.v 1) (.v 27)) 0) (.ki .i64 13))
         (.cal 46 [(.c (.lst [(.int .u8)]))] [(.cell (.get (.v 1) (.v 27)) 1)] [(.c (.lst [(.int .i64), (.int .i64)]))] 28
          (.loop [(.int .i64)] [(.ki .i64 0)]
           (.ite (.cmp .lss (.v 29) (.len (.v 28)))
            (.ev [(.ob (.cmp .geq (.v 29) (.ki .i64 0))), (.ob (.cmp .lss (.v 29) (.len (.v 28))))]
             (.bad 2103))
            (.back 0 [(.v 2), (.v 3), (.v 4), (.v 5), (.v 6), (.v 7), (.v 8), (.v 9), (.v 10), (.v 11), (.v 12), (.v 13), (.v 14), (.v 15), (.v 16), (.v 17), (.v 18), (.v 19), (.v 20), (.v 21), (.v 22), (.v 23), (.v 24), (.v 25), (.v 26), (.ar .add .i64 (.v 27) (.ki .i64 1))]))))
         (.ite (.cmp .eql (.cell (.get (.v 1) (.v 27)) 0) (.ki .i64 14))
          (.cal 47 [(.c (.lst [(.int .u8)]))] [(.cell (.get (.v 1) (.v 27)) 1)] [(.g [(.int .i64), (.int .i64), (.int .i64), (.int .i64), (.int .i64), .str, (.int .i64), (.int .i64), (.int .i64), (.int .i64), (.lst [(.int .i64), (.int .i64)])])] 28
           (.bad 900008))
          (.ite (.cmp .eql (.cell (.get (.v 1) (.v 27)) 0) (.ki .i64 15))
           (.cal 48 [(.c (.lst [(.int .u8)]))] [(.cell (.get (.v 1) (.v 27)) 1)] [(.c (.lst [(.lst [(.int .u8)])])), (.c (.int .i64))] 28
            (.ite (.cmp .eql (.v 29) (.ki .i64 0))
             (.cal 44 [(.c .bool)] [(.cmp .gtr (.len (.v 28)) (.ki .i64 0))] [] 30
              (.loop [(.int .i64), (.int .i64), (.int .i64), (.int .i64), (.int .i64), (.int .i64), (.int .i64), (.int .i64), .str, .str, .str, .bool, (.int .i64), (.int .i64), (.int .i64), (.int .i64), (.int .i64), .str, (.int .i64), (.int .i64), (.int .i64), (.int .i64), (.lst [.str, .str, .str, (.int .i64), (.int .i64), (.int .i64)]), (.int .i64)] [(.v 2), (.v 3), (.v 4), (.v 5), (.v 6), (.v 7), (.v 8), (.v 9), (.v 10), (.v 11), (.v 12), (.v 13), (.v 14), (.v 15), (.v 16), (.v 17), (.v 18), (.v 19), (.v 20), (.v 21), (.v 22), (.v 23), (.v 26), (.ki .i64 0)]
               (.ite (.cmp .lss (.v 53) (.len (.v 28)))
                (.ev [(.ob (.cmp .geq (.v 53) (.ki .i64 0))), (.ob (.cmp .lss (.v 53) (.len (.v 28))))]
                 (.cal 49 [(.c (.lst [(.int .u8)]))] [(.get (.v 28) (.v 53))] [(.g [.str, .str, .str, (.int .i64), (.int .i64), (.int .i64)])] 54
                  (.ev [(.ob (.cmp .leq (.len (.app (.v 52) (.cons (.rc (.cons (.v 54) (.cons (.v 55) (.cons (.v 56) (.cons (.v 57) (.cons (.v 58) (.cons (.v 59) .nil))))))) .nil))) (.ki .i64 4294967296)))]
                   (.back 1 [(.v 30), (.v 31), (.v 32), (.v 33), (.v 34), (.v 35), (.v 36), (.v 37), (.v 38), (.v 39), (.v 40), (.v 41), (.v 42), (.v 43), (.v 44), (.v 45), (.v 46), (.v 47), (.v 48), (.v 49), (.v 50), (.v 51), (.app (.v 52) (.cons (.rc (.cons (.v 54) (.cons (.v 55) (.cons (.v 56) (.cons (.v 57) (.cons (.v 58) (.cons (.v 59) .nil))))))) .nil)), (.ar .add .i64 (.v 53) (.ki .i64 1))]))))
                (.back 0 [(.v 30), (.v 31), (.v 32), (.v 33), (.v 34), (.v 35), (.v 36), (.v 37), (.v 38), (.v 39), (.v 40), (.v 41), (.v 42), (.v 43), (.v 44), (.v 45), (.v 46), (.v 47), (.v 48), (.v 49), (.v 50), (.v 51), (.v 24), (.v 25), (.v 52), (.ar .add .i64 (.v 27) (.ki .i64 1))]))))
             (.cal 44 [(.c .bool)] [(.kb false)] [] 30
              (.loop [(.int .i64), (.int .i64), (.int .i64), (.int .i64), (.int .i64), (.int .i64), (.int .i64), (.int .i64), .str, .str, .str, .bool, (.int .i64), (.int .i64), (.int .i64), (.int .i64), (.int .i64), .str, (.int .i64), (.int .i64), (.int .i64), (.int .i64), (.lst [.str, .str, .str, (.int .i64), (.int .i64), (.int .i64)]), (.int .i64)] [(.v 2), (.v 3), (.v 4), (.v 5), (.v 6), (.v 7), (.v 8), (.v 9), (.v 10), (.v 11), (.v 12), (.v 13), (.v 14), (.v 15), (.v 16), (.v 17), (.v 18), (.v 19), (.v 20), (.v 21), (.v 22), (.v 23), (.v 26), (.ki .i64 0)]
               (.ite (.cmp .lss (.v 53) (.len (.v 28)))
                (.ev [(.ob (.cmp .geq (.v 53) (.ki .i64 0))), (.ob (.cmp .lss (.v 53) (.len (.v 28))))]
                 (.cal 49 [(.c (.lst [(.int .u8)]))] [(.get (.v 28) (.v 53))] [(.g [.str, .str, .str, (.int .i64), (.int .i64), (.int .i64)])] 54
                  (.ev [(.ob (.cmp .leq (.len (.app (.v 52) (.cons (.rc (.cons (.v 54) (.cons (.v 55) (.cons (.v 56) (.cons (.v 57) (.cons (.v 58) (.cons (.v 59) .nil))))))) .nil))) (.ki .i64 4294967296)))]
                   (.back 1 [(.v 30), (.v 31), (.v 32), (.v 33), (.v 34), (.v 35), (.v 36), (.v 37), (.v 38), (.v 39), (.v 40), (.v 41), (.v 42), (.v 43), (.v 44), (.v 45), (.v 46), (.v 47), (.v 48), (.v 49), (.v 50), (.v 51), (.app (.v 52) (.cons (.rc (.cons (.v 54) (.cons (.v 55) (.cons (.v 56) (.cons (.v 57) (.cons (.v 58) (.cons (.v 59) .nil))))))) .nil)), (.ar .add .i64 (.v 53) (.ki .i64 1))]))))
                (.back 0 [(.v 30), (.v 31), (.v 32), (.v 33), (.v 34), (.v 35), (.v 36), (.v 37), (.v 38), (.v 39), (.v 40), (.v 41), (.v 42), (.v 43), (.v 44), (.v 45), (.v 46), (.v 47), (.v 48), (.v 49), (.v 50), (.v 51), (.v 24), (.v 25), (.v 52), (.ar .add .i64 (.v 27) (.ki .i64 1))]))))))
           (.cal 44 [(.c .bool)] [(.cmp .leq (.cell (.get (.v 1) (.v 27)) 0) (.ki .i64 8))] [] 28
            (.ite (.cmp .eql (.ar .sub .i64 (.cell (.get (.v 1) (.v 27)) 0) (.ki .i64 1)) (.ki .i64 0))
             (.cal 50 [(.i 25 (.int .i64)), (.c (.lst [(.int .u8)]))] [(.v 2), (.cell (.get (.v 1) (.v 27)) 1)] [] 28
              (.back 0 [(.v 28), (.v 3), (.v 4), (.v 5), (.v 6), (.v 7), (.v 8), (.v 9), (.v 10), (.v 11), (.v 12), (.v 13), (.v 14), (.v 15), (.v 16), (.v 17), (.v 18), (.v 19), (.v 20), (.v 21), (.v 22), (.v 23), (.v 24), (.v 25), (.v 26), (.ar .add .i64 (.v 27) (.ki .i64 1))]))
             (.ite (.cmp .eql (.ar .sub .i64 (.cell (.get (.v 1) (.v 27)) 0) (.ki .i64 1)) (.ki .i64 1))
              (.cal 50 [(.i 25 (.int .i64)), (.c (.lst [(.int .u8)]))] [(.v 3), (.cell (.get (.v 1) (.v 27)) 1)] [] 28
               (.back 0 [(.v 2), (.v 28), (.v 4), (.v 5), (.v 6), (.v 7), (.v 8), (.v 9), (.v 10), (.v 11), (.v 12), (.v 13), (.v 14), (.v 15), (.v 16), (.v 17), (.v 18), (.v 19), (.v 20), (.v 21), (.v 22), (.v 23), (.v 24), (.v 25), (.v 26), (.ar .add .i64 (.v 27) (.ki .i64 1))]))
              (.ite (.cmp .eql (.ar .sub .i64 (.cell (.get (.v 1) (.v 27)) 0) (.ki .i64 1)) (.ki .i64 2))
               (.cal 50 [(.i 25 (.int .i64)), (.c (.lst [(.int .u8)]))] [(.v 4), (.cell (.get (.v 1) (.v 27)) 1)] [] 28
                (.back 0 [(.v 2), (.v 3), (.v 28), (.v 5), (.v 6), (.v 7), (.v 8), (.v 9), (.v 10), (.v 11), (.v 12), (.v 13), (.v 14), (.v 15), (.v 16), (.v 17), (.v 18), (.v 19), (.v 20), (.v 21), (.v 22), (.v 23), (.v 24), (.v 25), (.v 26), (.ar .add .i64 (.v 27) (.ki .i64 1))]))
               (.ite (.cmp .eql (.ar .sub .i64 (.cell (.get (.v 1) (.v 27)) 0) (.ki .i64 1)) (.ki .i64 3))
                (.cal 50 [(.i 25 (.int .i64)), (.c (.lst [(.int .u8)]))] [(.v 5), (.cell (.get (.v 1) (.v 27)) 1)] [] 28
                 (.back 0 [(.v 2), (.v 3), (.v 4), (.v 28), (.v 6), (.v 7), (.v 8), (.v 9), (.v 10), (.v 11), (.v 12), (.v 13), (.v 14), (.v 15), (.v 16), (.v 17), (.v 18), (.v 19), (.v 20), (.v 21), (.v 22), (.v 23), (.v 24), (.v 25), (.v 26), (.ar .add .i64 (.v 27) (.ki .i64 1))]))
                (.ite (.cmp .eql (.ar .sub .i64 (.cell (.get (.v 1) (.v 27)) 0) (.ki .i64 1)) (.ki .i64 4))
                 (.cal 50 [(.i 25 (.int .i64)), (.c (.lst [(.int .u8)]))] [(.v 6), (.cell (.get (.v 1) (.v 27)) 1)] [] 28
                  (.back 0 [(.v 2), (.v 3), (.v 4), (.v 5), (.v 28), (.v 7), (.v 8), (.v 9), (.v 10), (.v 11), (.v 12), (.v 13), (.v 14), (.v 15), (.v 16), (.v 17), (.v 18), (.v 19), (.v 20), (.v 21), (.v 22), (.v 23), (.v 24), (.v 25), (.v 26), (.ar .add .i64 (.v 27) (.ki .i64 1))]))
                 (.ite (.cmp .eql (.ar .sub .i64 (.cell (.get (.v 1) (.v 27)) 0) (.ki .i64 1)) (.ki .i64 5))
                  (.cal 50 [(.i 25 (.int .i64)), (.c (.lst [(.int .u8)]))] [(.v 7), (.cell (.get (.v 1) (.v 27)) 1)] [] 28
                   (.back 0 [(.v 2), (.v 3), (.v 4), (.v 5), (.v 6), (.v 28), (.v 8), (.v 9), (.v 10), (.v 11), (.v 12), (.v 13), (.v 14), (.v 15), (.v 16), (.v 17), (.v 18), (.v 19), (.v 20), (.v 21), (.v 22), (.v 23), (.v 24), (.v 25), (.v 26), (.ar .add .i64 (.v 27) (.ki .i64 1))]))
                  (.ite (.cmp .eql (.ar .sub .i64 (.cell (.get (.v 1) (.v 27)) 0) (.ki .i64 1)) (.ki .i64 6))
                   (.cal 50 [(.i 25 (.int .i64)), (.c (.lst [(.int .u8)]))] [(.v 8), (.cell (.get (.v 1) (.v 27)) 1)] [] 28
                    (.back 0 [(.v 2), (.v 3), (.v 4), (.v 5), (.v 6), (.v 7), (.v 28), (.v 9), (.v 10), (.v 11), (.v 12), (.v 13), (.v 14), (.v 15), (.v 16), (.v 17), (.v 18), (.v 19), (.v 20), (.v 21), (.v 22), (.v 23), (.v 24), (.v 25), (.v 26), (.ar .add .i64 (.v 27) (.ki .i64 1))]))
                   (.ite (.cmp .eql (.ar .sub .i64 (.cell (.get (.v 1) (.v 27)) 0) (.ki .i64 1)) (.ki .i64 7))
                    (.cal 50 [(.i 25 (.int .i64)), (.c (.lst [(.int .u8)]))] [(.v 9), (.cell (.get (.v 1) (.v 27)) 1)] [] 28
                     (.back 0 [(.v 2), (.v 3), (.v 4), (.v 5), (.v 6), (.v 7), (.v 8), (.v 28), (.v 10), (.v 11), (.v 12), (.v 13), (.v 14), (.v 15), (.v 16), (.v 17), (.v 18), (.v 19), (.v 20), (.v 21), (.v 22), (.v 23), (.v 24), (.v 25), (.v 26), (.ar .add .i64 (.v 27) (.ki .i64 1))]))
                    (.bad 600803))))))))))))))))))
   (.ret [(.rc (.cons (.v 2) (.cons (.v 3) (.cons (.v 4) (.cons (.v 5) (.cons (.v 6) (.cons (.v 7) (.cons (.v 8) (.cons (.v 9) (.cons (.v 10) (.cons (.v 11) (.cons (.v 12) (.cons (.v 13) (.cons (.v 24) (.cons (.v 14) (.cons (.v 15) (.cons (.v 16) (.cons (.v 17) (.cons (.v 18) (.cons (.v 19) (.cons (.v 20) (.cons (.v 21) (.cons (.v 22) (.cons (.v 23) (.cons (.v 25) (.cons (.v 26) .nil))))))))))))))))))))))))))]))))
def hddecoded : List HdL := [{ kind := true, id := 4, nv := 2, tmps := [(.v (.c (.d (.lst [(.int .u8)]) (.v 0)))), (.v (.c .any)), (.v (.c (.ptr 0 0))), (.v (.c (.ptr 1 0))), (.v (.c (.ptr 2 0))), (.v (.c .any)), (.v (.c .any)), (.v (.c .any)), (.v (.c .any)), (.v (.c .any)), (.v (.c .any)), (.v (.c .any)), (.v (.c .any)), (.v (.c (.ptr 1 0))), (.v (.c (.ptr 1 1))), (.v (.c (.ptr 1 2))), (.v (.c (.ptr 1 3))), (.v (.c (.ptr 1 4))), (.v (.c (.ptr 1 5))), (.v (.c (.ptr 1 6))), (.v (.c (.ptr 1 7))), (.v (.g [(.ptr 1 0), (.ptr 1 1), (.ptr 1 2), (.ptr 1 3), (.ptr 1 4), (.ptr 1 5), (.ptr 1 6), (.ptr 1 7)])), (.v (.c (.d (.lst [(.int .u8)]) (.v 0)))), (.v (.c (.d (.lst [(.int .i64), (.lst [(.int .u8)])]) (.v 1)))), (.v (.c (.d (.int .i64) (.len (.v 1))))), (.v (.c (.d (.int .i64) (.v 27)))), (.v (.c .any)), (.v (.c .any)), (.v (.c .any)), (.v (.c .any)), (.v (.c .any)), (.v (.c .any)), (.v (.c .any)), (.v (.c .any)), (.v (.c .any)), (.v (.c .any)), (.v (.c .any)), (.v (.c .any)), (.v (.c .any)), (.v (.c .any)), (.v (.c .any)), (.v (.c .any)), (.v (.c .any)), (.v (.c .any)), (.v (.c .any)), (.v (.c .any)), (.v (.c .any)), (.v (.c .any)), (.v (.c .any)), (.v (.c .any)), (.v (.c .any)), (.v (.c .any)), (.v (.c .any)), (.v (.c .any)), (.v (.c .any)), (.v (.c .any)), (.v (.c .any)), (.v (.c .any)), (.v (.c .any)), (.v (.c .any)), (.v (.c .any)), (.v (.c .any)), (.v (.c .any)), (.v (.c .any)), (.v (.c .any)), (.v (.c .any)), (.v (.c .any)), (.v (.c .any)), (.v (.c .any)), (.v (.c .any)), (.v (.c .any)), (.v (.c .any)), (.v (.c .any)), (.v (.c .any)), (.v (.c .any)), (.v (.c .any)), (.v (.c .any)), (.v (.c .any)), (.v (.c .any)), (.v (.c .any)), (.v (.c .any)), (.v (.c .any)), (.v (.c .any)), (.v (.c .any)), (.v (.c .any)), (.v (.c .any)), (.v (.c .any)), (.v (.c .any)), (.v (.c .any)), (.v (.c .any)), (.v (.c .any)), (.v (.c .any)), (.v (.c .any)), (.v (.c .any)), (.v (.c .any)), (.v (.c .any)), (.v (.c .any)), (.v (.c .any)), (.v (.c .any)), (.v (.c .any)), (.v (.c .any)), (.v (.c .any)), (.v (.c .any)), (.v (.c .any)), (.v (.c .any)), (.v (.c .any)), (.v (.c .any)), (.v (.c .any)), (.v (.c .any)), (.v (.c .any)), (.v (.c .any)), (.v (.c .any)), (.v (.c .any)), (.v (.c .any)), (.v (.c .any)), (.v (.c .any)), (.v (.c .any)), (.v (.c .any)), (.v (.c .any)), (.v (.c .any)), (.v (.c .any)), (.v (.c .any)), (.v (.c .any)), (.v (.c .any)), (.v (.c .any)), (.v (.c .any)), (.v (.c .any)), (.v (.c .any))], blks := [(.cells [(.d (.int .i64) (.ki .i64 0)), (.d (.int .i64) (.ki .i64 0)), (.d (.int .i64) (.ki .i64 0)), (.d (.int .i64) (.ki .i64 0)), (.d (.int .i64) (.ki .i64 0)), (.d (.int .i64) (.ki .i64 0)), (.d (.int .i64) (.ki .i64 0)), (.d (.int .i64) (.ki .i64 0)), (.d .str (.ks ⟨List.toArray []⟩)), (.d .str (.ks ⟨List.toArray []⟩)), (.d .str (.ks ⟨List.toArray []⟩)), (.d .bool (.kb false)), (.nilS [(.int .i64), (.int .i64)]), (.d (.int .i64) (.ki .i64 0)), (.d (.int .i64) (.ki .i64 0)), (.d (.int .i64) (.ki .i64 0)), (.d (.int .i64) (.ki .i64 0)), (.d (.int .i64) (.ki .i64 0)), (.d .str (.ks ⟨List.toArray []⟩)), (.d (.int .i64) (.ki .i64 0)), (.d (.int .i64) (.ki .i64 0)), (.d (.int .i64) (.ki .i64 0)), (.d (.int .i64) (.ki .i64 0)), (.nilS [(.int .i64), (.int .i64)]), (.nilS [.str, .str, .str, (.int .i64), (.int .i64), (.int .i64)])]), (.cells [(.d (.int .i64) (.v 2)), (.d (.int .i64) (.v 3)), (.d (.int .i64) (.v 4)), (.d (.int .i64) (.v 5)), (.d (.int .i64) (.v 6)), (.d (.int .i64) (.v 7)), (.d (.int .i64) (.v 8)), (.d (.int .i64) (.v 9)), (.d .str (.v 10)), (.d .str (.v 11)), (.d .str (.v 12)), (.d .bool (.v 13)), (.row 3 [(.int .i64), (.int .i64)] (.len (.v 24))), (.d (.int .i64) (.v 14)), (.d (.int .i64) (.v 15)), (.d (.int .i64) (.v 16)), (.d (.int .i64) (.v 17)), (.d (.int .i64) (.v 18)), (.d .str (.v 19)), (.d (.int .i64) (.v 20)), (.d (.int .i64) (.v 21)), (.d (.int .i64) (.v 22)), (.d (.int .i64) (.v 23)), (.row 4 [(.int .i64), (.int .i64)] (.len (.v 25))), (.row 5 [.str, .str, .str, (.int .i64), (.int .i64), (.int .i64)] (.len (.v 26)))]), (.cells [(.ptr 1 0), (.ptr 1 1), (.ptr 1 2), (.ptr 1 3), (.ptr 1 4), (.ptr 1 5), (.ptr 1 6), (.ptr 1 7)]), (.row [(.int .i64), (.int .i64)] (.v 24) false), (.row [(.int .i64), (.int .i64)] (.v 25) false), (.row [.str, .str, .str, (.int .i64), (.int .i64), (.int .i64)] (.v 26) false)], shs := [(.int .i64), (.int .i64), (.int .i64), (.int .i64), (.int .i64), (.int .i64), (.int .i64), (.int .i64), .str, .str, .str, .bool, (.int .i64), (.int .i64), (.int .i64), (.int .i64), (.int .i64), .str, (.int .i64), (.int .i64), (.int .i64), (.int .i64), (.lst [(.int .i64), (.int .i64)]), (.lst [(.int .i64), (.int .i64)]), (.lst [.str, .str, .str, (.int .i64), (.int .i64), (.int .i64)]), (.int .i64)], rs := [], bs := [1], fz := [] },
{ kind := true, id := 20, nv := 29, tmps := [(.v (.c (.d (.lst [(.int .u8)]) (.v 0)))), (.v (.c .any)), (.v (.c (.ptr 0 0))), (.v (.c (.ptr 1 0))), (.v (.c (.ptr 2 0))), (.v (.c .any)), (.v (.c (.ptr 6 0))), (.v (.c .any)), (.v (.c .any)), (.v (.c .any)), (.v (.c .any)), (.v (.c .any)), (.v (.c .any)), (.v (.c (.ptr 1 0))), (.v (.c (.ptr 1 1))), (.v (.c (.ptr 1 2))), (.v (.c (.ptr 1 3))), (.v (.c (.ptr 1 4))), (.v (.c (.ptr 1 5))), (.v (.c (.ptr 1 6))), (.v (.c (.ptr 1 7))), (.v (.g [(.ptr 1 0), (.ptr 1 1), (.ptr 1 2), (.ptr 1 3), (.ptr 1 4), (.ptr 1 5), (.ptr 1 6), (.ptr 1 7)])), (.v (.c (.d (.lst [(.int .u8)]) (.v 0)))), (.v (.c (.d (.lst [(.int .i64), (.lst [(.int .u8)])]) (.v 1)))), (.v (.c (.d (.int .i64) (.len (.v 1))))), (.v (.c (.d (.int .i64) (.v 27)))), (.v (.c (.d .bool (.cmp .lss (.v 27) (.len (.v 1)))))), (.v (.c (.elem [(.int .i64), (.lst [(.int .u8)])] (.get (.v 1) (.v 27)) 0))), (.v (.g [(.d (.int .i64) (.cell (.get (.v 1) (.v 27)) 0)), (.d (.lst [(.int .u8)]) (.cell (.get (.v 1) (.v 27)) 1))])), (.v (.c (.ptr 6 0))), (.v (.c (.d (.int .i64) (.cell (.get (.v 1) (.v 27)) 0)))), (.v (.c .any)), (.v (.c .any)), (.v (.c .any)), (.v (.c .any)), (.v (.c .any)), (.v (.c .any)), (.v (.c .any)), (.v (.c .any)), (.v (.c .any)), (.v (.c .any)), (.v (.c .any)), (.v (.c .any)), (.v (.c (.d .bool (.cmp .eql (.cell (.get (.v 1) (.v 27)) 0) (.ki .i64 9))))), (.v (.c (.d .bool (.cmp .eql (.cell (.get (.v 1) (.v 27)) 0) (.ki .i64 9))))), (.v (.c .any)), (.v (.c .any)), (.v (.c .any)), (.v (.c .any)), (.v (.c (.d .bool (.cmp .eql (.cell (.get (.v 1) (.v 27)) 0) (.ki .i64 10))))), (.v (.c (.d .bool (.cmp .eql (.cell (.get (.v 1) (.v 27)) 0) (.ki .i64 10))))), (.v (.c .any)), (.v (.c .any)), (.v (.c .any)), (.v (.c .any)), (.v (.c (.d .bool (.cmp .eql (.cell (.get (.v 1) (.v 27)) 0) (.ki .i64 11))))), (.v (.c (.d .bool (.cmp .eql (.cell (.get (.v 1) (.v 27)) 0) (.ki .i64 11))))), (.v (.c .any)), (.v (.c .any)), (.v (.c .any)), (.v (.c .any)), (.v (.c (.d .bool (.cmp .eql (.cell (.get (.v 1) (.v 27)) 0) (.ki .i64 12))))), (.v (.c (.d .bool (.cmp .eql (.cell (.get (.v 1) (.v 27)) 0) (.ki .i64 12))))), (.v (.c .any)), (.v (.c .any)), (.v (.c .any)), (.v (.c .any)), (.v (.c .any)), (.v (.c .any)), (.v (.c (.d .bool (.cmp .eql (.cell (.get (.v 1) (.v 27)) 0) (.ki .i64 13))))), (.v (.c (.d .bool (.cmp .eql (.cell (.get (.v 1) (.v 27)) 0) (.ki .i64 13))))), (.v (.c (.ptr 6 1))), (.v (.c (.d (.lst [(.int .u8)]) (.cell (.get (.v 1) (.v 27)) 1)))), (.v (.c (.d (.lst [(.int .i64), (.int .i64)]) (.v 28)))), (.v (.c (.d (.int .i64) (.len (.v 28))))), (.v (.c (.d (.int .i64) (.v 29)))), (.v (.c .any)), (.v (.c .any)), (.v (.c .any)), (.v (.c .any)), (.v (.c .any)), (.v (.c .any)), (.v (.c .any)), (.v (.c .any)), (.v (.c .any)), (.v (.c .any)), (.v (.c .any)), (.v (.c .any)), (.v (.c .any)), (.v (.c .any)), (.v (.c .any)), (.v (.c .any)), (.v (.c .any)), (.v (.c .any)), (.v (.c .any)), (.v (.c .any)), (.v (.c .any)), (.v (.c .any)), (.v (.c .any)), (.v (.c .any)), (.v (.c .any)), (.v (.c .any)), (.v (.c .any)), (.v (.c .any)), (.v (.c .any)), (.v (.c .any)), (.v (.c .any)), (.v (.c .any)), (.v (.c .any)), (.v (.c .any)), (.v (.c .any)), (.v (.c .any)), (.v (.c .any)), (.v (.c .any)), (.v (.c .any)), (.v (.c .any)), (.v (.c .any)), (.v (.c .any)), (.v (.c .any)), (.v (.c .any)), (.v (.c .any)), (.v (.c .any)), (.v (.c .any)), (.v (.c .any)), (.v (.c .any)), (.v (.c .any)), (.v (.c .any)), (.v (.c .any))], blks := [(.cells [(.d (.int .i64) (.ki .i64 0)), (.d (.int .i64) (.ki .i64 0)), (.d (.int .i64) (.ki .i64 0)), (.d (.int .i64) (.ki .i64 0)), (.d (.int .i64) (.ki .i64 0)), (.d (.int .i64) (.ki .i64 0)), (.d (.int .i64) (.ki .i64 0)), (.d (.int .i64) (.ki .i64 0)), (.d .str (.ks ⟨List.toArray []⟩)), (.d .str (.ks ⟨List.toArray []⟩)), (.d .str (.ks ⟨List.toArray []⟩)), (.d .bool (.kb false)), (.nilS [(.int .i64), (.int .i64)]), (.d (.int .i64) (.ki .i64 0)), (.d (.int .i64) (.ki .i64 0)), (.d (.int .i64) (.ki .i64 0)), (.d (.int .i64) (.ki .i64 0)), (.d (.int .i64) (.ki .i64 0)), (.d .str (.ks ⟨List.toArray []⟩)), (.d (.int .i64) (.ki .i64 0)), (.d (.int .i64) (.ki .i64 0)), (.d (.int .i64) (.ki .i64 0)), (.d (.int .i64) (.ki .i64 0)), (.nilS [(.int .i64), (.int .i64)]), (.nilS [.str, .str, .str, (.int .i64), (.int .i64), (.int .i64)])]), (.cells [(.d (.int .i64) (.v 2)), (.d (.int .i64) (.v 3)), (.d (.int .i64) (.v 4)), (.d (.int .i64) (.v 5)), (.d (.int .i64) (.v 6)), (.d (.int .i64) (.v 7)), (.d (.int .i64) (.v 8)), (.d (.int .i64) (.v 9)), (.d .str (.v 10)), (.d .str (.v 11)), (.d .str (.v 12)), (.d .bool (.v 13)), (.row 3 [(.int .i64), (.int .i64)] (.len (.v 24))), (.d (.int .i64) (.v 14)), (.d (.int .i64) (.v 15)), (.d (.int .i64) (.v 16)), (.d (.int .i64) (.v 17)), (.d (.int .i64) (.v 18)), (.d .str (.v 19)), (.d (.int .i64) (.v 20)), (.d (.int .i64) (.v 21)), (.d (.int .i64) (.v 22)), (.d (.int .i64) (.v 23)), (.row 4 [(.int .i64), (.int .i64)] (.len (.v 25))), (.row 5 [.str, .str, .str, (.int .i64), (.int .i64), (.int .i64)] (.len (.v 26)))]), (.cells [(.ptr 1 0), (.ptr 1 1), (.ptr 1 2), (.ptr 1 3), (.ptr 1 4), (.ptr 1 5), (.ptr 1 6), (.ptr 1 7)]), (.row [(.int .i64), (.int .i64)] (.v 24) false), (.row [(.int .i64), (.int .i64)] (.v 25) false), (.row [.str, .str, .str, (.int .i64), (.int .i64), (.int .i64)] (.v 26) false), (.cells [(.d (.int .i64) (.cell (.get (.v 1) (.v 27)) 0)), (.d (.lst [(.int .u8)]) (.cell (.get (.v 1) (.v 27)) 1))])], shs := [(.int .i64)], rs := [], bs := [], fz := [] }]
theorem decoded_ent : EntOK Try.prog [] ⟨25, [(.c (.lst [(.int .u8)]))], [(.g [(.int .i64), (.int .i64), (.int .i64), (.int .i64), (.int .i64), (.int .i64), (.int .i64), (.int .i64), .str, .str, .str, .bool, (.lst [(.int .i64), (.int .i64)]), (.int .i64), (.int .i64), (.int .i64), (.int .i64), (.int .i64), .str, (.int .i64), (.int .i64), (.int .i64), (.int .i64), (.lst [(.int .i64), (.int .i64)]), (.lst [.str, .str, .str, (.int .i64), (.int .i64), (.int .i64)])])], vcdecoded⟩ :=
  ent_of_genH hP Try.func25 rfl (by decide) (jn := []) (hd := hddecoded) (sg := sgs) (by kernel_rfl)
def vctakerec : VC := (.cal 66 [(.c (.lst [(.int .u8)]))] [(.v 0)] [(.c (.lst [(.int .i64), (.lst [(.int .u8)])])), (.c (.int .i64))] 1
 (.cal 44 [(.c .bool)] [(.cmp .eql (.v 2) (.ki .i64 0))] [] 3
  (.loop [(.int .i64)] [(.ki .i64 0)]
   (.ite (.cmp .lss (.v 3) (.len (.v 1)))
    (.ev [(.ob (.cmp .geq (.v 3) (.ki .i64 0))), (.ob (.cmp .lss (.v 3) (.len (.v 1))))]
     (.cal 44 [(.c .bool)] [(.cmp .gtr (.len (.cell (.get (.v 1) (.v 3)) 1)) (.ki .i64 0))] [] 4
      (.back 0 [(.ar .add .i64 (.v 3) (.ki .i64 1))])))
    (.ret [(.v 1)])))))
def hdtakerec : List HdL := [{ kind := true, id := 4, nv := 3, tmps := [(.v (.c (.d (.lst [(.int .u8)]) (.v 0)))), (.v (.c .any)), (.v (.c (.nilS [(.int .i64), (.lst [(.int .u8)])]))), (.v (.c (.d (.lst [(.int .i64), (.lst [(.int .u8)])]) (.v 1)))), (.v (.c (.d (.int .i64) (.v 2)))), (.v (.c .any)), (.v (.c .any)), (.v (.c .any)), (.v (.c (.d (.lst [(.int .u8)]) (.v 0)))), (.v (.c .any)), (.v (.c (.d (.lst [(.int .i64), (.lst [(.int .u8)])]) (.v 1)))), (.v (.c (.d (.int .i64) (.v 2)))), (.v (.c (.d (.int .i64) (.v 2)))), (.v (.c (.d .bool (.cmp .eql (.v 2) (.ki .i64 0))))), (.v (.c .any)), (.v (.c (.d (.lst [(.int .i64), (.lst [(.int .u8)])]) (.v 1)))), (.v (.c (.d (.int .i64) (.len (.v 1))))), (.v (.c (.d (.int .i64) (.v 3)))), (.v (.c .any)), (.v (.c .any)), (.v (.c .any)), (.v (.c .any)), (.v (.c .any)), (.v (.c .any)), (.v (.c .any)), (.v (.c .any)), (.v (.c .any)), (.v (.c .any))], blks := [], shs := [(.int .i64)], rs := [], bs := [], fz := [] }]
theorem takerec_ent : EntOK Try.prog [] ⟨43, [(.c (.lst [(.int .u8)]))], [(.c (.lst [(.int .i64), (.lst [(.int .u8)])]))], vctakerec⟩ :=
  ent_of_genH hP Try.func43 rfl (by decide) (jn := []) (hd := hdtakerec) (sg := sgs) (by kernel_rfl)
def vcchk : VC := (.ite (.v 0)
 (.ret [])
 (.pan 133 (.rc .nil)))
theorem chk_ent : EntOK Try.prog [] ⟨44, [(.c .bool)], [], vcchk⟩ :=
  ent_of_gen hP Try.func44 rfl (by decide) (sg := sgs) (by kernel_rfl)
def vctakenum : VC := (.cal 67 [(.c (.lst [(.int .u8)]))] [(.v 0)] [(.c (.int .i64)), (.c (.int .i64))] 1
 (.cal 44 [(.c .bool)] [(.cmp .eql (.v 2) (.ki .i64 0))] [] 3
  (.ret [(.v 1)])))
theorem takenum_ent : EntOK Try.prog [] ⟨45, [(.c (.lst [(.int .u8)]))], [(.c (.int .i64))], vctakenum⟩ :=
  ent_of_gen hP Try.func45 rfl (by decide) (sg := sgs) (by kernel_rfl)
def vcencoded : VC := (.loop [(.lst [(.int .i64), (.lst [(.int .u8)])]), (.int .i64)] [.nil, (.ki .i64 0)]
 (.ite (.cmp .lss (.v 26) (.ki .i64 8))
  (.ev [(.ob (.cmp .geq (.v 26) (.ki .i64 0))), (.ob (.cmp .lss (.v 26) (.ki .i64 8)))]
   (.cal 58 [(.p [(.r [(.int .i64), (.lst [(.int .u8)])])]), (.c (.int .i64)), (.c (.int .i64))] [(.rc (.cons (.v 25) .nil)), (.ar .add .i64 (.v 26) (.ki .i64 1)), (.get (.cons (.v 0) (.cons (.v 1) (.cons (.v 2) (.cons (.v 3) (.cons (.v 4) (.cons (.v 5) (.cons (.v 6) (.cons (.v 7) .nil)))))))) (.v 26))] [] 27
    (.back 0 [(.v 27), (.ar .add .i64 (.v 26) (.ki .i64 1))])))
  (.cal 59 [(.p [(.r [(.int .i64), (.lst [(.int .u8)])])]), (.c (.int .i64)), (.c .str)] [(.rc (.cons (.v 25) .nil)), (.ki .i64 9), (.v 8)] [] 27
   (.cal 59 [(.p [(.r [(.int .i64), (.lst [(.int .u8)])])]), (.c (.int .i64)), (.c .str)] [(.rc (.cons (.v 27) .nil)), (.ki .i64 10), (.v 9)] [] 28
    (.cal 59 [(.p [(.r [(.int .i64), (.lst [(.int .u8)])])]), (.c (.int .i64)), (.c .str)] [(.rc (.cons (.v 28) .nil)), (.ki .i64 11), (.v 10)] [] 29
     (.ite (.v 11)
      (.cal 58 [(.p [(.r [(.int .i64), (.lst [(.int .u8)])])]), (.c (.int .i64)), (.c (.int .i64))] [(.rc (.cons (.v 29) .nil)), (.ki .i64 12), (.ki .i64 1)] [] 30
       (.loop [(.lst [(.lst [(.int .u8)])]), (.int .i64)] [.nil, (.ki .i64 0)]
        (.ite (.cmp .lss (.v 32) (.len (.v 12)))
         (.ev [(.ob (.cmp .geq (.v 32) (.ki .i64 0))), (.ob (.cmp .lss (.v 32) (.len (.v 12))))]
          (.ev [(.call 60 [(.c (.int .i64))] [(.cell (.get (.v 12) (.v 32)) 0)] [(.c (.lst [(.int .u8)]))] 33), (.call 60 [(.c (.int .i64))] [(.cell (.get (.v 12) (.v 32)) 1)] [(.c (.lst [(.int .u8)]))] 34), (.ob (.cmp .leq (.len (.app (.v 31) (.cons (.v 33) (.cons (.v 34) .nil)))) (.ki .i64 4294967296)))]
           (.back 1 [(.app (.v 31) (.cons (.v 33) (.cons (.v 34) .nil))), (.ar .add .i64 (.v 32) (.ki .i64 1))])))
         (.cal 61 [(.p [(.r [(.int .i64), (.lst [(.int .u8)])])]), (.c (.int .i64)), (.c (.lst [(.lst [(.int .u8)])]))] [(.rc (.cons (.v 30) .nil)), (.ki .i64 13), (.v 31)] [] 33
          (.cal 62 [(.g [(.int .i64), (.int .i64), (.int .i64), (.int .i64), (.int .i64), .str, (.int .i64), (.int .i64), (.int .i64), (.int .i64), (.lst [(.int .i64), (.int .i64)])])] [(.rc (.cons (.v 13) (.cons (.v 14) (.cons (.v 15) (.cons (.v 16) (.cons (.v 17) (.cons (.v 18) (.cons (.v 19) (.cons (.v 20) (.cons (.v 21) (.cons (.v 22) (.cons (.v 23) .nil))))))))))))] [(.c (.lst [(.int .u8)]))] 34
           (.ite (.cmp .gtr (.len (.v 34)) (.ki .i64 0))
            (.ev [(.ob (.cmp .leq (.len (.app (.v 33) (.cons (.rc (.cons (.ki .i64 14) (.cons (.v 34) .nil))) .nil))) (.ki .i64 4294967296)))]
             (.loop [(.lst [(.lst [(.int .u8)])]), (.int .i64)] [.nil, (.ki .i64 0)]
              (.ite (.cmp .lss (.v 36) (.len (.v 24)))
               (.ev [(.ob (.cmp .geq (.v 36) (.ki .i64 0))), (.ob (.cmp .lss (.v 36) (.len (.v 24))))]
                (.cal 63 [(.g [.str, .str, .str, (.int .i64), (.int .i64), (.int .i64)])] [(.rc (.cons (.cell (.get (.v 24) (.v 36)) 0) (.cons (.cell (.get (.v 24) (.v 36)) 1) (.cons (.cell (.get (.v 24) (.v 36)) 2) (.cons (.cell (.get (.v 24) (.v 36)) 3) (.cons (.cell (.get (.v 24) (.v 36)) 4) (.cons (.cell (.get (.v 24) (.v 36)) 5) .nil)))))))] [(.c (.lst [(.int .u8)]))] 37
                 (.ev [(.ob (.cmp .leq (.len (.app (.v 35) (.cons (.v 37) .nil))) (.ki .i64 4294967296)))]
                  (.back 2 [(.app (.v 35) (.cons (.v 37) .nil)), (.ar .add .i64 (.v 36) (.ki .i64 1))]))))
               (.cal 61 [(.p [(.r [(.int .i64), (.lst [(.int .u8)])])]), (.c (.int .i64)), (.c (.lst [(.lst [(.int .u8)])]))] [(.rc (.cons (.app (.v 33) (.cons (.rc (.cons (.ki .i64 14) (.cons (.v 34) .nil))) .nil)) .nil)), (.ki .i64 15), (.v 35)] [] 37
                (.cal 64 [(.c (.lst [(.int .i64), (.lst [(.int .u8)])]))] [(.v 37)] [(.c (.lst [(.int .u8)]))] 38
                 (.ret [(.v 38)]))))))
            (.loop [(.lst [(.lst [(.int .u8)])]), (.int .i64)] [.nil, (.ki .i64 0)]
             (.ite (.cmp .lss (.v 36) (.len (.v 24)))
              (.ev [(.ob (.cmp .geq (.v 36) (.ki .i64 0))), (.ob (.cmp .lss (.v 36) (.len (.v 24))))]
               (.cal 63 [(.g [.str, .str, .str, (.int .i64), (.int .i64), (.int .i64)])] [(.rc (.cons (.cell (.get (.v 24) (.v 36)) 0) (.cons (.cell (.get (.v 24) (.v 36)) 1) (.cons (.cell (.get (.v 24) (.v 36)) 2) (.cons (.cell (.get (.v 24) (.v 36)) 3) (.cons (.cell (.get (.v 24) (.v 36)) 4) (.cons (.cell (.get (.v 24) (.v 36)) 5) .nil)))))))] [(.c (.lst [(.int .u8)]))] 37
                (.ev [(.ob (.cmp .leq (.len (.app (.v 35) (.cons (.v 37) .nil))) (.ki .i64 4294967296)))]
                 (.back 2 [(.app (.v 35) (.cons (.v 37) .nil)), (.ar .add .i64 (.v 36) (.ki .i64 1))]))))
              (.cal 61 [(.p [(.r [(.int .i64), (.lst [(.int .u8)])])]), (.c (.int .i64)), (.c (.lst [(.lst [(.int .u8)])]))] [(.rc (.cons (.v 33) .nil)), (.ki .i64 15), (.v 35)] [] 37
               (.cal 64 [(.c (.lst [(.int .i64), (.lst [(.int .u8)])]))] [(.v 37)] [(.c (.lst [(.int .u8)]))] 38
                (.ret [(.v 38)])))))))))))
      (.loop [(.lst [(.lst [(.int .u8)])]), (.int .i64)] [.nil, (.ki .i64 0)]
       (.ite (.cmp .lss (.v 31) (.len (.v 12)))
        (.ev [(.ob (.cmp .geq (.v 31) (.ki .i64 0))), (.ob (.cmp .lss (.v 31) (.len (.v 12))))]
         (.ev [(.call 60 [(.c (.int .i64))] [(.cell (.get (.v 12) (.v 31)) 0)] [(.c (.lst [(.int .u8)]))] 32), (.call 60 [(.c (.int .i64))] [(.cell (.get (.v 12) (.v 31)) 1)] [(.c (.lst [(.int .u8)]))] 33), (.ob (.cmp .leq (.len (.app (.v 30) (.cons (.v 32) (.cons (.v 33) .nil)))) (.ki .i64 4294967296)))]
          (.back 1 [(.app (.v 30) (.cons (.v 32) (.cons (.v 33) .nil))), (.ar .add .i64 (.v 31) (.ki .i64 1))])))
        (.cal 61 [(.p [(.r [(.int .i64), (.lst [(.int .u8)])])]), (.c (.int .i64)), (.c (.lst [(.lst [(.int .u8)])]))] [(.rc (.cons (.v 29) .nil)), (.ki .i64 13), (.v 30)] [] 32
         (.cal 62 [(.g [(.int .i64), (.int .i64), (.int .i64), (.int .i64), (.int .i64), .str, (.int .i64), (.int .i64), (.int .i64), (.int .i64), (.lst [(.int .i64), (.int .i64)])])] [(.rc (.cons (.v 13) (.cons (.v 14) (.cons (.v 15) (.cons (.v 16) (.cons (.v 17) (.cons (.v 18) (.cons (.v 19) (.cons (.v 20) (.cons (.v 21) (.cons (.v 22) (.cons (.v 23) .nil))))))))))))] [(.c (.lst [(.int .u8)]))] 33
          (.ite (.cmp .gtr (.len (.v 33)) (.ki .i64 0))
           (.ev [(.ob (.cmp .leq (.len (.app (.v 32) (.cons (.rc (.cons (.ki .i64 14) (.cons (.v 33) .nil))) .nil))) (.ki .i64 4294967296)))]
            (.loop [(.lst [(.lst [(.int .u8)])]), (.int .i64)] [.nil, (.ki .i64 0)]
             (.ite (.cmp .lss (.v 35) (.len (.v 24)))
              (.ev [(.ob (.cmp .geq (.v 35) (.ki .i64 0))), (.ob (.cmp .lss (.v 35) (.len (.v 24))))]
               (.cal 63 [(.g [.str, .str, .str, (.int .i64), (.int .i64), (.int .i64)])] [(.rc (.cons (.cell (.get (.v 24) (.v 35)) 0) (.cons (.cell (.get (.v 24) (.v 35)) 1) (.cons (.cell (.get (.v 24) (.v 35)) 2) (.cons (.cell (.get (.v 24) (.v 35)) 3) (.cons (.cell (.get (.v 24) (.v 35)) 4) (.cons (.cell (.get (.v 24) (.v 35)) 5) .nil)))))))] [(.c (.lst [(.int .u8)]))] 36
                (.ev [(.ob (.cmp .leq (.len (.app (.v 34) (.cons (.v 36) .nil))) (.ki .i64 4294967296)))]
                 (.back 2 [(.app (.v 34) (.cons (.v 36) .nil)), (.ar .add .i64 (.v 35) (.ki .i64 1))]))))
              (.cal 61 [(.p [(.r [(.int .i64), (.lst [(.int .u8)])])]), (.c (.int .i64)), (.c (.lst [(.lst [(.int .u8)])]))] [(.rc (.cons (.app (.v 32) (.cons (.rc (.cons (.ki .i64 14) (.cons (.v 33) .nil))) .nil)) .nil)), (.ki .i64 15), (.v 34)] [] 36
               (.cal 64 [(.c (.lst [(.int .i64), (.lst [(.int .u8)])]))] [(.v 36)] [(.c (.lst [(.int .u8)]))] 37
                (.ret [(.v 37)]))))))
           (.loop [(.lst [(.lst [(.int .u8)])]), (.int .i64)] [.nil, (.ki .i64 0)]
            (.ite (.cmp .lss (.v 35) (.len (.v 24)))
             (.ev [(.ob (.cmp .geq (.v 35) (.ki .i64 0))), (.ob (.cmp .lss (.v 35) (.len (.v 24))))]
              (.cal 63 [(.g [.str, .str, .str, (.int .i64), (.int .i64), (.int .i64)])] [(.rc (.cons (.cell (.get (.v 24) (.v 35)) 0) (.cons (.cell (.get (.v 24) (.v 35)) 1) (.cons (.cell (.get (.v 24) (.v 35)) 2) (.cons (.cell (.get (.v 24) (.v 35)) 3) (.cons (.cell (.get (.v 24) (.v 35)) 4) (.cons (.cell (.get (.v 24) (.v 35)) 5) .nil)))))))] [(.c (.lst [(.int .u8)]))] 36
               (.ev [(.ob (.cmp .leq (.len (.app (.v 34) (.cons (.v 36) .nil))) (.ki .i64 4294967296)))]
                (.back 2 [(.app (.v 34) (.cons (.v 36) .nil)), (.ar .add .i64 (.v 35) (.ki .i64 1))]))))
             (.cal 61 [(.p [(.r [(.int .i64), (.lst [(.int .u8)])])]), (.c (.int .i64)), (.c (.lst [(.lst [(.int .u8)])]))] [(.rc (.cons (.v 32) .nil)), (.ki .i64 15), (.v 34)] [] 36
              (.cal 64 [(.c (.lst [(.int .i64), (.lst [(.int .u8)])]))] [(.v 36)] [(.c (.lst [(.int .u8)]))] 37
               (.ret [(.v 37)]))))))))))))))))
def hdencoded : List HdL := [{ kind := true, id := 3, nv := 25, tmps := [(.v (.g [(.d (.int .i64) (.v 0)), (.d (.int .i64) (.v 1)), (.d (.int .i64) (.v 2)), (.d (.int .i64) (.v 3)), (.d (.int .i64) (.v 4)), (.d (.int .i64) (.v 5)), (.d (.int .i64) (.v 6)), (.d (.int .i64) (.v 7)), (.d .str (.v 8)), (.d .str (.v 9)), (.d .str (.v 10)), (.d .bool (.v 11)), (.d (.lst [(.int .i64), (.int .i64)]) (.v 12)), (.d (.int .i64) (.v 13)), (.d (.int .i64) (.v 14)), (.d (.int .i64) (.v 15)), (.d (.int .i64) (.v 16)), (.d (.int .i64) (.v 17)), (.d .str (.v 18)), (.d (.int .i64) (.v 19)), (.d (.int .i64) (.v 20)), (.d (.int .i64) (.v 21)), (.d (.int .i64) (.v 22)), (.d (.lst [(.int .i64), (.int .i64)]) (.v 23)), (.d (.lst [.str, .str, .str, (.int .i64), (.int .i64), (.int .i64)]) (.v 24))])), (.v (.c (.ptr 0 0))), (.v (.c (.nilS [(.int .u8)]))), (.v (.c (.ptr 1 0))), (.v (.c .any)), (.v (.c .any)), (.v (.c .any)), (.v (.c .any)), (.v (.c .any)), (.v (.c .any)), (.v (.c .any)), (.v (.c .any)), (.v (.c .any)), (.v (.c (.ptr 0 0))), (.v (.c (.d (.int .i64) (.v 0)))), (.v (.c (.ptr 0 1))), (.v (.c (.d (.int .i64) (.v 1)))), (.v (.c (.ptr 0 2))), (.v (.c (.d (.int .i64) (.v 2)))), (.v (.c (.ptr 0 3))), (.v (.c (.d (.int .i64) (.v 3)))), (.v (.c (.ptr 0 4))), (.v (.c (.d (.int .i64) (.v 4)))), (.v (.c (.ptr 0 5))), (.v (.c (.d (.int .i64) (.v 5)))), (.v (.c (.ptr 0 6))), (.v (.c (.d (.int .i64) (.v 6)))), (.v (.c (.ptr 0 7))), (.v (.c (.d (.int .i64) (.v 7)))), (.v (.g [(.d (.int .i64) (.v 0)), (.d (.int .i64) (.v 1)), (.d (.int .i64) (.v 2)), (.d (.int .i64) (.v 3)), (.d (.int .i64) (.v 4)), (.d (.int .i64) (.v 5)), (.d (.int .i64) (.v 6)), (.d (.int .i64) (.v 7))])), (.v (.c (.d (.int .i64) (.v 26)))), (.v (.c .any)), (.v (.c .any)), (.v (.c .any)), (.v (.c .any)), (.v (.c .any)), (.v (.c .any)), (.v (.c .any)), (.v (.c .any)), (.v (.c .any)), (.v (.c .any)), (.v (.c .any)), (.v (.c .any)), (.v (.c .any)), (.v (.c .any)), (.v (.c .any)), (.v (.c .any)), (.v (.c .any)), (.v (.c .any)), (.v (.c .any)), (.v (.c .any)), (.v (.c .any)), (.v (.c .any)), (.v (.c .any)), (.v (.c .any)), (.v (.c .any)), (.v (.c .any)), (.v (.c .any)), (.v (.c .any)), (.v (.c .any)), (.v (.c .any)), (.v (.c .any)), (.v (.c .any)), (.v (.c .any)), (.v (.c .any)), (.v (.c .any)), (.v (.c .any)), (.v (.c .any)), (.v (.c .any)), (.v (.c .any)), (.v (.c .any)), (.v (.c .any)), (.v (.c .any)), (.v (.c .any)), (.v (.c .any)), (.v (.c .any)), (.v (.c .any)), (.v (.c .any)), (.v (.c .any)), (.v (.c .any)), (.v (.c .any)), (.v (.c .any)), (.v (.c .any)), (.v (.c .any)), (.v (.c .any)), (.v (.c .any)), (.v (.c .any)), (.v (.c .any)), (.v (.c .any)), (.v (.c .any)), (.v (.c .any)), (.v (.c .any)), (.v (.c .any)), (.v (.c .any)), (.v (.c .any)), (.v (.c .any)), (.v (.c .any)), (.v (.c .any))], blks := [(.cells [(.d (.int .i64) (.v 0)), (.d (.int .i64) (.v 1)), (.d (.int .i64) (.v 2)), (.d (.int .i64) (.v 3)), (.d (.int .i64) (.v 4)), (.d (.int .i64) (.v 5)), (.d (.int .i64) (.v 6)), (.d (.int .i64) (.v 7)), (.d .str (.v 8)), (.d .str (.v 9)), (.d .str (.v 10)), (.d .bool (.v 11)), (.d (.lst [(.int .i64), (.int .i64)]) (.v 12)), (.d (.int .i64) (.v 13)), (.d (.int .i64) (.v 14)), (.d (.int .i64) (.v 15)), (.d (.int .i64) (.v 16)), (.d (.int .i64) (.v 17)), (.d .str (.v 18)), (.d (.int .i64) (.v 19)), (.d (.int .i64) (.v 20)), (.d (.int .i64) (.v 21)), (.d (.int .i64) (.v 22)), (.d (.lst [(.int .i64), (.int .i64)]) (.v 23)), (.d (.lst [.str, .str, .str, (.int .i64), (.int .i64), (.int .i64)]) (.v 24))]), (.cells [(.row 2 [(.int .i64), (.lst [(.int .u8)])] (.len (.v 25)))]), (.row [(.int .i64), (.lst [(.int .u8)])] (.v 25) false)], shs := [(.lst [(.int .i64), (.lst [(.int .u8)])]), (.int .i64)], rs := [], bs := [1], fz := [] },
{ kind := true, id := 14, nv := 31, tmps := [(.v (.g [(.d (.int .i64) (.v 0)), (.d (.int .i64) (.v 1)), (.d (.int .i64) (.v 2)), (.d (.int .i64) (.v 3)), (.d (.int .i64) (.v 4)), (.d (.int .i64) (.v 5)), (.d (.int .i64) (.v 6)), (.d (.int .i64) (.v 7)), (.d .str (.v 8)), (.d .str (.v 9)), (.d .str (.v 10)), (.d .bool (.v 11)), (.d (.lst [(.int .i64), (.int .i64)]) (.v 12)), (.d (.int .i64) (.v 13)), (.d (.int .i64) (.v 14)), (.d (.int .i64) (.v 15)), (.d (.int .i64) (.v 16)), (.d (.int .i64) (.v 17)), (.d .str (.v 18)), (.d (.int .i64) (.v 19)), (.d (.int .i64) (.v 20)), (.d (.int .i64) (.v 21)), (.d (.int .i64) (.v 22)), (.d (.lst [(.int .i64), (.int .i64)]) (.v 23)), (.d (.lst [.str, .str, .str, (.int .i64), (.int .i64), (.int .i64)]) (.v 24))])), (.v (.c (.ptr 0 0))), (.v (.c (.nilS [(.int .u8)]))), (.v (.c (.ptr 1 0))), (.v (.c .any)), (.v (.c .any)), (.v (.c (.row 7 [(.lst [(.int .u8)])] (.len (.v 31))))), (.v (.c .any)), (.v (.c .any)), (.v (.c .any)), (.v (.c .any)), (.v (.c .any)), (.v (.c .any)), (.v (.c (.ptr 0 0))), (.v (.c (.d (.int .i64) (.v 0)))), (.v (.c (.ptr 0 1))), (.v (.c (.d (.int .i64) (.v 1)))), (.v (.c (.ptr 0 2))), (.v (.c (.d (.int .i64) (.v 2)))), (.v (.c (.ptr 0 3))), (.v (.c (.d (.int .i64) (.v 3)))), (.v (.c (.ptr 0 4))), (.v (.c (.d (.int .i64) (.v 4)))), (.v (.c (.ptr 0 5))), (.v (.c (.d (.int .i64) (.v 5)))), (.v (.c (.ptr 0 6))), (.v (.c (.d (.int .i64) (.v 6)))), (.v (.c (.ptr 0 7))), (.v (.c (.d (.int .i64) (.v 7)))), (.v (.g [(.d (.int .i64) (.v 0)), (.d (.int .i64) (.v 1)), (.d (.int .i64) (.v 2)), (.d (.int .i64) (.v 3)), (.d (.int .i64) (.v 4)), (.d (.int .i64) (.v 5)), (.d (.int .i64) (.v 6)), (.d (.int .i64) (.v 7))])), (.v (.c (.d (.int .i64) (.v 26)))), (.v (.c (.d .bool (.cmp .lss (.v 26) (.ki .i64 8))))), (.v (.c .any)), (.v (.c .any)), (.v (.c .any)), (.v (.c .any)), (.v (.c .any)), (.v (.c .any)), (.v (.c .any)), (.v (.c (.ptr 0 8))), (.v (.c (.d .str (.v 8)))), (.v (.c .any)), (.v (.c (.ptr 0 9))), (.v (.c (.d .str (.v 9)))), (.v (.c .any)), (.v (.c (.ptr 0 10))), (.v (.c (.d .str (.v 10)))), (.v (.c .any)), (.v (.c (.ptr 0 11))), (.v (.c (.d .bool (.v 11)))), (.v (.c .any)), (.v (.c (.ptr 0 12))), (.v (.c (.d (.lst [(.int .i64), (.int .i64)]) (.v 12)))), (.v (.c (.d (.int .i64) (.len (.v 12))))), (.v (.c (.d (.int .i64) (.v 32)))), (.v (.c .any)), (.v (.c .any)), (.v (.c .any)), (.v (.c .any)), (.v (.c .any)), (.v (.c .any)), (.v (.c .any)), (.v (.c .any)), (.v (.c .any)), (.v (.c .any)), (.v (.c .any)), (.v (.c .any)), (.v (.c .any)), (.v (.c .any)), (.v (.c .any)), (.v (.c .any)), (.v (.c .any)), (.v (.c .any)), (.v (.c .any)), (.v (.c .any)), (.v (.c .any)), (.v (.c .any)), (.v (.c .any)), (.v (.c .any)), (.v (.c .any)), (.v (.c .any)), (.v (.c .any)), (.v (.c .any)), (.v (.c .any)), (.v (.c .any)), (.v (.c .any)), (.v (.c .any)), (.v (.c .any)), (.v (.c .any)), (.v (.c .any)), (.v (.c .any)), (.v (.c .any)), (.v (.c .any)), (.v (.c .any)), (.v (.c .any)), (.v (.c .any)), (.v (.c .any)), (.v (.c .any))], blks := [(.cells [(.d (.int .i64) (.v 0)), (.d (.int .i64) (.v 1)), (.d (.int .i64) (.v 2)), (.d (.int .i64) (.v 3)), (.d (.int .i64) (.v 4)), (.d (.int .i64) (.v 5)), (.d (.int .i64) (.v 6)), (.d (.int .i64) (.v 7)), (.d .str (.v 8)), (.d .str (.v 9)), (.d .str (.v 10)), (.d .bool (.v 11)), (.d (.lst [(.int .i64), (.int .i64)]) (.v 12)), (.d (.int .i64) (.v 13)), (.d (.int .i64) (.v 14)), (.d (.int .i64) (.v 15)), (.d (.int .i64) (.v 16)), (.d (.int .i64) (.v 17)), (.d .str (.v 18)), (.d (.int .i64) (.v 19)), (.d (.int .i64) (.v 20)), (.d (.int .i64) (.v 21)), (.d (.int .i64) (.v 22)), (.d (.lst [(.int .i64), (.int .i64)]) (.v 23)), (.d (.lst [.str, .str, .str, (.int .i64), (.int .i64), (.int .i64)]) (.v 24))]), (.cells [(.row 6 [(.int .i64), (.lst [(.int .u8)])] (.len (.v 30)))]), .dead, .dead, .dead, .dead, (.row [(.int .i64), (.lst [(.int .u8)])] (.v 30) false), (.row [(.lst [(.int .u8)])] (.v 31) false)], shs := [(.lst [(.lst [(.int .u8)])]), (.int .i64)], rs := [6], bs := [], fz := [] },
{ kind := true, id := 14, nv := 30, tmps := [(.v (.g [(.d (.int .i64) (.v 0)), (.d (.int .i64) (.v 1)), (.d (.int .i64) (.v 2)), (.d (.int .i64) (.v 3)), (.d (.int .i64) (.v 4)), (.d (.int .i64) (.v 5)), (.d (.int .i64) (.v 6)), (.d (.int .i64) (.v 7)), (.d .str (.v 8)), (.d .str (.v 9)), (.d .str (.v 10)), (.d .bool (.v 11)), (.d (.lst [(.int .i64), (.int .i64)]) (.v 12)), (.d (.int .i64) (.v 13)), (.d (.int .i64) (.v 14)), (.d (.int .i64) (.v 15)), (.d (.int .i64) (.v 16)), (.d (.int .i64) (.v 17)), (.d .str (.v 18)), (.d (.int .i64) (.v 19)), (.d (.int .i64) (.v 20)), (.d (.int .i64) (.v 21)), (.d (.int .i64) (.v 22)), (.d (.lst [(.int .i64), (.int .i64)]) (.v 23)), (.d (.lst [.str, .str, .str, (.int .i64), (.int .i64), (.int .i64)]) (.v 24))])), (.v (.c (.ptr 0 0))), (.v (.c (.nilS [(.int .u8)]))), (.v (.c (.ptr 1 0))), (.v (.c .any)), (.v (.c .any)), (.v (.c (.row 6 [(.lst [(.int .u8)])] (.len (.v 30))))), (.v (.c .any)), (.v (.c .any)), (.v (.c .any)), (.v (.c .any)), (.v (.c .any)), (.v (.c .any)), (.v (.c (.ptr 0 0))), (.v (.c (.d (.int .i64) (.v 0)))), (.v (.c (.ptr 0 1))), (.v (.c (.d (.int .i64) (.v 1)))), (.v (.c (.ptr 0 2))), (.v (.c (.d (.int .i64) (.v 2)))), (.v (.c (.ptr 0 3))), (.v (.c (.d (.int .i64) (.v 3)))), (.v (.c (.ptr 0 4))), (.v (.c (.d (.int .i64) (.v 4)))), (.v (.c (.ptr 0 5))), (.v (.c (.d (.int .i64) (.v 5)))), (.v (.c (.ptr 0 6))), (.v (.c (.d (.int .i64) (.v 6)))), (.v (.c (.ptr 0 7))), (.v (.c (.d (.int .i64) (.v 7)))), (.v (.g [(.d (.int .i64) (.v 0)), (.d (.int .i64) (.v 1)), (.d (.int .i64) (.v 2)), (.d (.int .i64) (.v 3)), (.d (.int .i64) (.v 4)), (.d (.int .i64) (.v 5)), (.d (.int .i64) (.v 6)), (.d (.int .i64) (.v 7))])), (.v (.c (.d (.int .i64) (.v 26)))), (.v (.c (.d .bool (.cmp .lss (.v 26) (.ki .i64 8))))), (.v (.c .any)), (.v (.c .any)), (.v (.c .any)), (.v (.c .any)), (.v (.c .any)), (.v (.c .any)), (.v (.c .any)), (.v (.c (.ptr 0 8))), (.v (.c (.d .str (.v 8)))), (.v (.c .any)), (.v (.c (.ptr 0 9))), (.v (.c (.d .str (.v 9)))), (.v (.c .any)), (.v (.c (.ptr 0 10))), (.v (.c (.d .str (.v 10)))), (.v (.c .any)), (.v (.c (.ptr 0 11))), (.v (.c (.d .bool (.v 11)))), (.v (.c .any)), (.v (.c (.ptr 0 12))), (.v (.c (.d (.lst [(.int .i64), (.int .i64)]) (.v 12)))), (.v (.c (.d (.int .i64) (.len (.v 12))))), (.v (.c (.d (.int .i64) (.v 31)))), (.v (.c .any)), (.v (.c .any)), (.v (.c .any)), (.v (.c .any)), (.v (.c .any)), (.v (.c .any)), (.v (.c .any)), (.v (.c .any)), (.v (.c .any)), (.v (.c .any)), (.v (.c .any)), (.v (.c .any)), (.v (.c .any)), (.v (.c .any)), (.v (.c .any)), (.v (.c .any)), (.v (.c .any)), (.v (.c .any)), (.v (.c .any)), (.v (.c .any)), (.v (.c .any)), (.v (.c .any)), (.v (.c .any)), (.v (.c .any)), (.v (.c .any)), (.v (.c .any)), (.v (.c .any)), (.v (.c .any)), (.v (.c .any)), (.v (.c .any)), (.v (.c .any)), (.v (.c .any)), (.v (.c .any)), (.v (.c .any)), (.v (.c .any)), (.v (.c .any)), (.v (.c .any)), (.v (.c .any)), (.v (.c .any)), (.v (.c .any)), (.v (.c .any)), (.v (.c .any)), (.v (.c .any))], blks := [(.cells [(.d (.int .i64) (.v 0)), (.d (.int .i64) (.v 1)), (.d (.int .i64) (.v 2)), (.d (.int .i64) (.v 3)), (.d (.int .i64) (.v 4)), (.d (.int .i64) (.v 5)), (.d (.int .i64) (.v 6)), (.d (.int .i64) (.v 7)), (.d .str (.v 8)), (.d .str (.v 9)), (.d .str (.v 10)), (.d .bool (.v 11)), (.d (.lst [(.int .i64), (.int .i64)]) (.v 12)), (.d (.int .i64) (.v 13)), (.d (.int .i64) (.v 14)), (.d (.int .i64) (.v 15)), (.d (.int .i64) (.v 16)), (.d (.int .i64) (.v 17)), (.d .str (.v 18)), (.d (.int .i64) (.v 19)), (.d (.int .i64) (.v 20)), (.d (.int .i64) (.v 21)), (.d (.int .i64) (.v 22)), (.d (.lst [(.int .i64), (.int .i64)]) (.v 23)), (.d (.lst [.str, .str, .str, (.int .i64), (.int .i64), (.int .i64)]) (.v 24))]), (.cells [(.row 5 [(.int .i64), (.lst [(.int .u8)])] (.len (.v 29)))]), .dead, .dead, .dead, (.row [(.int .i64), (.lst [(.int .u8)])] (.v 29) false), (.row [(.lst [(.int .u8)])] (.v 30) false)], shs := [(.lst [(.lst [(.int .u8)])]), (.int .i64)], rs := [6], bs := [], fz := [] }]
theorem encoded_ent : EntOK Try.prog [] ⟨39, [(.g [(.int .i64), (.int .i64), (.int .i64), (.int .i64), (.int .i64), (.int .i64), (.int .i64), (.int .i64), .str, .str, .str, .bool, (.lst [(.int .i64), (.int .i64)]), (.int .i64), (.int .i64), (.int .i64), (.int .i64), (.int .i64), .str, (.int .i64), (.int .i64), (.int .i64), (.int .i64), (.lst [(.int .i64), (.int .i64)]), (.lst [.str, .str, .str, (.int .i64), (.int .i64), (.int .i64)])])], [(.c (.lst [(.int .u8)]))], vcencoded⟩ :=
  ent_of_genH hP Try.func39 rfl (by decide) (jn := []) (hd := hdencoded) (sg := sgs) (by kernel_rfl)
def vcrnum : VC := (.ite (.cmp .neq (.v 2) (.ki .i64 0))
 (.cal 60 [(.c (.int .i64))] [(.v 2)] [(.c (.lst [(.int .u8)]))] 3
  (.ev [(.ob (.cmp .leq (.len (.app (.v 0) (.cons (.rc (.cons (.v 1) (.cons (.v 3) .nil))) .nil))) (.ki .i64 4294967296)))]
   (.ret [(.rc (.cons (.app (.v 0) (.cons (.rc (.cons (.v 1) (.cons (.v 3) .nil))) .nil)) .nil))])))
 (.ret [(.rc (.cons (.v 0) .nil))]))
theorem rnum_ent : EntOK Try.prog [] ⟨58, [(.p [(.r [(.int .i64), (.lst [(.int .u8)])])]), (.c (.int .i64)), (.c (.int .i64))], [], vcrnum⟩ :=
  ent_of_gen hP Try.func58 rfl (by decide) (sg := sgs) (by kernel_rfl)
def vcrtext : VC := (.ite (.seq (.v 2) (.ks ⟨List.toArray []⟩))
 (.ret [(.rc (.cons (.v 0) .nil))])
 (.ev [(.ob (.cmp .leq (.len (.app (.v 0) (.cons (.rc (.cons (.v 1) (.cons (.s2b (.v 2)) .nil))) .nil))) (.ki .i64 4294967296)))]
  (.ret [(.rc (.cons (.app (.v 0) (.cons (.rc (.cons (.v 1) (.cons (.s2b (.v 2)) .nil))) .nil)) .nil))])))
theorem rtext_ent : EntOK Try.prog [] ⟨59, [(.p [(.r [(.int .i64), (.lst [(.int .u8)])])]), (.c (.int .i64)), (.c .str)], [], vcrtext⟩ :=
  ent_of_gen hP Try.func59 rfl (by decide) (sg := sgs) (by kernel_rfl)
def vcritems : VC := (.ite (.cmp .gtr (.len (.v 2)) (.ki .i64 0))
 (.cal 80 [(.c (.lst [(.lst [(.int .u8)])]))] [(.v 2)] [(.c (.lst [(.int .u8)])), (.c (.int .i64))] 3
  (.ev [(.ob (.cmp .leq (.len (.app (.v 0) (.cons (.rc (.cons (.v 1) (.cons (.v 3) .nil))) .nil))) (.ki .i64 4294967296)))]
   (.ret [(.rc (.cons (.app (.v 0) (.cons (.rc (.cons (.v 1) (.cons (.v 3) .nil))) .nil)) .nil))])))
 (.ret [(.rc (.cons (.v 0) .nil))]))
theorem ritems_ent : EntOK Try.prog [] ⟨61, [(.p [(.r [(.int .i64), (.lst [(.int .u8)])])]), (.c (.int .i64)), (.c (.lst [(.lst [(.int .u8)])]))], [], vcritems⟩ :=
  ent_of_gen hP Try.func61 rfl (by decide) (sg := sgs) (by kernel_rfl)
def vcencprof : VC := (.loop [(.lst [(.int .i64), (.lst [(.int .u8)])]), (.int .i64)] [.nil, (.ki .i64 0)]
 (.ite (.cmp .lss (.v 12) (.ki .i64 5))
  (.ev [(.ob (.cmp .geq (.v 12) (.ki .i64 0))), (.ob (.cmp .lss (.v 12) (.ki .i64 5)))]
   (.cal 58 [(.p [(.r [(.int .i64), (.lst [(.int .u8)])])]), (.c (.int .i64)), (.c (.int .i64))] [(.rc (.cons (.v 11) .nil)), (.ar .add .i64 (.v 12) (.ki .i64 1)), (.get (.cons (.v 0) (.cons (.v 1) (.cons (.v 2) (.cons (.v 3) (.cons (.v 4) .nil))))) (.v 12))] [] 13
    (.back 0 [(.v 13), (.ar .add .i64 (.v 12) (.ki .i64 1))])))
  (.cal 59 [(.p [(.r [(.int .i64), (.lst [(.int .u8)])])]), (.c (.int .i64)), (.c .str)] [(.rc (.cons (.v 11) .nil)), (.ki .i64 6), (.v 5)] [] 13
   (.loop [(.lst [(.int .i64), (.lst [(.int .u8)])]), (.int .i64)] [(.v 13), (.ki .i64 0)]
    (.ite (.cmp .lss (.v 15) (.ki .i64 4))
     (.ev [(.ob (.cmp .geq (.v 15) (.ki .i64 0))), (.ob (.cmp .lss (.v 15) (.ki .i64 4)))]
      (.cal 58 [(.p [(.r [(.int .i64), (.lst [(.int .u8)])])]), (.c (.int .i64)), (.c (.int .i64))] [(.rc (.cons (.v 14) .nil)), (.ar .add .i64 (.v 15) (.ki .i64 7)), (.get (.cons (.v 6) (.cons (.v 7) (.cons (.v 8) (.cons (.v 9) .nil)))) (.v 15))] [] 16
       (.back 1 [(.v 16), (.ar .add .i64 (.v 15) (.ki .i64 1))])))
     (.loop [(.lst [(.lst [(.int .u8)])]), (.int .i64)] [.nil, (.ki .i64 0)]
      (.ite (.cmp .lss (.v 17) (.len (.v 10)))
       (.ev [(.ob (.cmp .geq (.v 17) (.ki .i64 0))), (.ob (.cmp .lss (.v 17) (.len (.v 10))))]
        (.ev [(.call 60 [(.c (.int .i64))] [(.cell (.get (.v 10) (.v 17)) 0)] [(.c (.lst [(.int .u8)]))] 18), (.call 60 [(.c (.int .i64))] [(.cell (.get (.v 10) (.v 17)) 1)] [(.c (.lst [(.int .u8)]))] 19), (.ob (.cmp .leq (.len (.app (.v 16) (.cons (.v 18) (.cons (.v 19) .nil)))) (.ki .i64 4294967296)))]
         (.back 2 [(.app (.v 16) (.cons (.v 18) (.cons (.v 19) .nil))), (.ar .add .i64 (.v 17) (.ki .i64 1))])))
       (.cal 61 [(.p [(.r [(.int .i64), (.lst [(.int .u8)])])]), (.c (.int .i64)), (.c (.lst [(.lst [(.int .u8)])]))] [(.rc (.cons (.v 14) .nil)), (.ki .i64 11), (.v 16)] [] 18
        (.cal 64 [(.c (.lst [(.int .i64), (.lst [(.int .u8)])]))] [(.v 18)] [(.c (.lst [(.int .u8)]))] 19
         (.ret [(.v 19)]))))))))))
def hdencprof : List HdL := [{ kind := true, id := 3, nv := 11, tmps := [(.v (.g [(.d (.int .i64) (.v 0)), (.d (.int .i64) (.v 1)), (.d (.int .i64) (.v 2)), (.d (.int .i64) (.v 3)), (.d (.int .i64) (.v 4)), (.d .str (.v 5)), (.d (.int .i64) (.v 6)), (.d (.int .i64) (.v 7)), (.d (.int .i64) (.v 8)), (.d (.int .i64) (.v 9)), (.d (.lst [(.int .i64), (.int .i64)]) (.v 10))])), (.v (.c (.ptr 0 0))), (.v (.c (.nilS [(.int .u8)]))), (.v (.c (.ptr 1 0))), (.v (.c .any)), (.v (.c .any)), (.v (.c .any)), (.v (.c .any)), (.v (.c .any)), (.v (.c .any)), (.v (.c .any)), (.v (.c (.ptr 0 0))), (.v (.c (.d (.int .i64) (.v 0)))), (.v (.c (.ptr 0 1))), (.v (.c (.d (.int .i64) (.v 1)))), (.v (.c (.ptr 0 2))), (.v (.c (.d (.int .i64) (.v 2)))), (.v (.c (.ptr 0 3))), (.v (.c (.d (.int .i64) (.v 3)))), (.v (.c (.ptr 0 4))), (.v (.c (.d (.int .i64) (.v 4)))), (.v (.g [(.d (.int .i64) (.v 0)), (.d (.int .i64) (.v 1)), (.d (.int .i64) (.v 2)), (.d (.int .i64) (.v 3)), (.d (.int .i64) (.v 4))])), (.v (.c (.d (.int .i64) (.v 12)))), (.v (.c .any)), (.v (.c .any)), (.v (.c .any)), (.v (.c .any)), (.v (.c .any)), (.v (.c .any)), (.v (.c .any)), (.v (.c .any)), (.v (.c .any)), (.v (.c .any)), (.v (.c .any)), (.v (.c .any)), (.v (.c .any)), (.v (.c .any)), (.v (.c .any)), (.v (.c .any)), (.v (.c .any)), (.v (.c .any)), (.v (.c .any)), (.v (.c .any)), (.v (.c .any)), (.v (.c .any)), (.v (.c .any)), (.v (.c .any)), (.v (.c .any)), (.v (.c .any)), (.v (.c .any)), (.v (.c .any)), (.v (.c .any)), (.v (.c .any)), (.v (.c .any)), (.v (.c .any)), (.v (.c .any)), (.v (.c .any)), (.v (.c .any)), (.v (.c .any)), (.v (.c .any)), (.v (.c .any)), (.v (.c .any)), (.v (.c .any)), (.v (.c .any)), (.v (.c .any)), (.v (.c .any)), (.v (.c .any)), (.v (.c .any)), (.v (.c .any)), (.v (.c .any)), (.v (.c .any)), (.v (.c .any)), (.v (.c .any)), (.v (.c .any)), (.v (.c .any))], blks := [(.cells [(.d (.int .i64) (.v 0)), (.d (.int .i64) (.v 1)), (.d (.int .i64) (.v 2)), (.d (.int .i64) (.v 3)), (.d (.int .i64) (.v 4)), (.d .str (.v 5)), (.d (.int .i64) (.v 6)), (.d (.int .i64) (.v 7)), (.d (.int .i64) (.v 8)), (.d (.int .i64) (.v 9)), (.d (.lst [(.int .i64), (.int .i64)]) (.v 10))]), (.cells [(.row 2 [(.int .i64), (.lst [(.int .u8)])] (.len (.v 11)))]), (.row [(.int .i64), (.lst [(.int .u8)])] (.v 11) false)], shs := [(.lst [(.int .i64), (.lst [(.int .u8)])]), (.int .i64)], rs := [], bs := [1], fz := [] },
{ kind := true, id := 9, nv := 14, tmps := [(.v (.g [(.d (.int .i64) (.v 0)), (.d (.int .i64) (.v 1)), (.d (.int .i64) (.v 2)), (.d (.int .i64) (.v 3)), (.d (.int .i64) (.v 4)), (.d .str (.v 5)), (.d (.int .i64) (.v 6)), (.d (.int .i64) (.v 7)), (.d (.int .i64) (.v 8)), (.d (.int .i64) (.v 9)), (.d (.lst [(.int .i64), (.int .i64)]) (.v 10))])), (.v (.c (.ptr 0 0))), (.v (.c (.nilS [(.int .u8)]))), (.v (.c (.ptr 1 0))), (.v (.c .any)), (.v (.c .any)), (.v (.c .any)), (.v (.c .any)), (.v (.c .any)), (.v (.c .any)), (.v (.c .any)), (.v (.c (.ptr 0 0))), (.v (.c (.d (.int .i64) (.v 0)))), (.v (.c (.ptr 0 1))), (.v (.c (.d (.int .i64) (.v 1)))), (.v (.c (.ptr 0 2))), (.v (.c (.d (.int .i64) (.v 2)))), (.v (.c (.ptr 0 3))), (.v (.c (.d (.int .i64) (.v 3)))), (.v (.c (.ptr 0 4))), (.v (.c (.d (.int .i64) (.v 4)))), (.v (.g [(.d (.int .i64) (.v 0)), (.d (.int .i64) (.v 1)), (.d (.int .i64) (.v 2)), (.d (.int .i64) (.v 3)), (.d (.int .i64) (.v 4))])), (.v (.c (.d (.int .i64) (.v 12)))), (.v (.c (.d .bool (.cmp .lss (.v 12) (.ki .i64 5))))), (.v (.c .any)), (.v (.c .any)), (.v (.c .any)), (.v (.c .any)), (.v (.c .any)), (.v (.c .any)), (.v (.c .any)), (.v (.c (.ptr 0 5))), (.v (.c (.d .str (.v 5)))), (.v (.c .any)), (.v (.c (.ptr 0 6))), (.v (.c (.ptr 0 6))), (.v (.c (.d (.int .i64) (.v 6)))), (.v (.c (.ptr 0 6))), (.v (.c (.ptr 0 7))), (.v (.c (.d (.int .i64) (.v 7)))), (.v (.c (.ptr 0 8))), (.v (.c (.d (.int .i64) (.v 8)))), (.v (.c (.ptr 0 9))), (.v (.c (.d (.int .i64) (.v 9)))), (.v (.g [(.d (.int .i64) (.v 6)), (.d (.int .i64) (.v 7)), (.d (.int .i64) (.v 8)), (.d (.int .i64) (.v 9))])), (.v (.c (.d (.int .i64) (.v 15)))), (.v (.c .any)), (.v (.c .any)), (.v (.c .any)), (.v (.c .any)), (.v (.c .any)), (.v (.c .any)), (.v (.c .any)), (.v (.c .any)), (.v (.c .any)), (.v (.c .any)), (.v (.c .any)), (.v (.c .any)), (.v (.c .any)), (.v (.c .any)), (.v (.c .any)), (.v (.c .any)), (.v (.c .any)), (.v (.c .any)), (.v (.c .any)), (.v (.c .any)), (.v (.c .any)), (.v (.c .any)), (.v (.c .any)), (.v (.c .any)), (.v (.c .any)), (.v (.c .any)), (.v (.c .any)), (.v (.c .any)), (.v (.c .any))], blks := [(.cells [(.d (.int .i64) (.v 0)), (.d (.int .i64) (.v 1)), (.d (.int .i64) (.v 2)), (.d (.int .i64) (.v 3)), (.d (.int .i64) (.v 4)), (.d .str (.v 5)), (.d (.int .i64) (.v 6)), (.d (.int .i64) (.v 7)), (.d (.int .i64) (.v 8)), (.d (.int .i64) (.v 9)), (.d (.lst [(.int .i64), (.int .i64)]) (.v 10))]), (.cells [(.row 3 [(.int .i64), (.lst [(.int .u8)])] (.len (.v 14)))]), .dead, (.row [(.int .i64), (.lst [(.int .u8)])] (.v 14) false)], shs := [(.lst [(.int .i64), (.lst [(.int .u8)])]), (.int .i64)], rs := [], bs := [], fz := [] },
{ kind := true, id := 15, nv := 16, tmps := [(.v (.g [(.d (.int .i64) (.v 0)), (.d (.int .i64) (.v 1)), (.d (.int .i64) (.v 2)), (.d (.int .i64) (.v 3)), (.d (.int .i64) (.v 4)), (.d .str (.v 5)), (.d (.int .i64) (.v 6)), (.d (.int .i64) (.v 7)), (.d (.int .i64) (.v 8)), (.d (.int .i64) (.v 9)), (.d (.lst [(.int .i64), (.int .i64)]) (.v 10))])), (.v (.c (.ptr 0 0))), (.v (.c (.nilS [(.int .u8)]))), (.v (.c (.ptr 1 0))), (.v (.c .any)), (.v (.c .any)), (.v (.c .any)), (.v (.c .any)), (.v (.c (.row 4 [(.lst [(.int .u8)])] (.len (.v 16))))), (.v (.c .any)), (.v (.c .any)), (.v (.c (.ptr 0 0))), (.v (.c (.d (.int .i64) (.v 0)))), (.v (.c (.ptr 0 1))), (.v (.c (.d (.int .i64) (.v 1)))), (.v (.c (.ptr 0 2))), (.v (.c (.d (.int .i64) (.v 2)))), (.v (.c (.ptr 0 3))), (.v (.c (.d (.int .i64) (.v 3)))), (.v (.c (.ptr 0 4))), (.v (.c (.d (.int .i64) (.v 4)))), (.v (.g [(.d (.int .i64) (.v 0)), (.d (.int .i64) (.v 1)), (.d (.int .i64) (.v 2)), (.d (.int .i64) (.v 3)), (.d (.int .i64) (.v 4))])), (.v (.c (.d (.int .i64) (.v 12)))), (.v (.c (.d .bool (.cmp .lss (.v 12) (.ki .i64 5))))), (.v (.c .any)), (.v (.c .any)), (.v (.c .any)), (.v (.c .any)), (.v (.c .any)), (.v (.c .any)), (.v (.c .any)), (.v (.c (.ptr 0 5))), (.v (.c (.d .str (.v 5)))), (.v (.c .any)), (.v (.c (.ptr 0 6))), (.v (.c (.ptr 0 6))), (.v (.c (.d (.int .i64) (.v 6)))), (.v (.c (.ptr 0 6))), (.v (.c (.ptr 0 7))), (.v (.c (.d (.int .i64) (.v 7)))), (.v (.c (.ptr 0 8))), (.v (.c (.d (.int .i64) (.v 8)))), (.v (.c (.ptr 0 9))), (.v (.c (.d (.int .i64) (.v 9)))), (.v (.g [(.d (.int .i64) (.v 6)), (.d (.int .i64) (.v 7)), (.d (.int .i64) (.v 8)), (.d (.int .i64) (.v 9))])), (.v (.c (.d (.int .i64) (.v 15)))), (.v (.c (.d .bool (.cmp .lss (.v 15) (.ki .i64 4))))), (.v (.c .any)), (.v (.c .any)), (.v (.c .any)), (.v (.c .any)), (.v (.c .any)), (.v (.c .any)), (.v (.c .any)), (.v (.c (.ptr 0 10))), (.v (.c (.d (.lst [(.int .i64), (.int .i64)]) (.v 10)))), (.v (.c (.d (.int .i64) (.len (.v 10))))), (.v (.c (.d (.int .i64) (.v 17)))), (.v (.c .any)), (.v (.c .any)), (.v (.c .any)), (.v (.c .any)), (.v (.c .any)), (.v (.c .any)), (.v (.c .any)), (.v (.c .any)), (.v (.c .any)), (.v (.c .any)), (.v (.c .any)), (.v (.c .any)), (.v (.c .any)), (.v (.c .any)), (.v (.c .any)), (.v (.c .any)), (.v (.c .any))], blks := [(.cells [(.d (.int .i64) (.v 0)), (.d (.int .i64) (.v 1)), (.d (.int .i64) (.v 2)), (.d (.int .i64) (.v 3)), (.d (.int .i64) (.v 4)), (.d .str (.v 5)), (.d (.int .i64) (.v 6)), (.d (.int .i64) (.v 7)), (.d (.int .i64) (.v 8)), (.d (.int .i64) (.v 9)), (.d (.lst [(.int .i64), (.int .i64)]) (.v 10))]), (.cells [(.row 3 [(.int .i64), (.lst [(.int .u8)])] (.len (.v 14)))]), .dead, (.row [(.int .i64), (.lst [(.int .u8)])] (.v 14) false), (.row [(.lst [(.int .u8)])] (.v 16) false)], shs := [(.lst [(.lst [(.int .u8)])]), (.int .i64)], rs := [8], bs := [], fz := [] }]
theorem encprof_ent : EntOK Try.prog [] ⟨62, [(.g [(.int .i64), (.int .i64), (.int .i64), (.int .i64), (.int .i64), .str, (.int .i64), (.int .i64), (.int .i64), (.int .i64), (.lst [(.int .i64), (.int .i64)])])], [(.c (.lst [(.int .u8)]))], vcencprof⟩ :=
  ent_of_genH hP Try.func62 rfl (by decide) (jn := []) (hd := hdencprof) (sg := sgs) (by kernel_rfl)
def vcenctok : VC := (.cal 59 [(.p [(.r [(.int .i64), (.lst [(.int .u8)])])]), (.c (.int .i64)), (.c .str)] [(.rc (.cons .nil .nil)), (.ki .i64 1), (.v 0)] [] 6
 (.cal 59 [(.p [(.r [(.int .i64), (.lst [(.int .u8)])])]), (.c (.int .i64)), (.c .str)] [(.rc (.cons (.v 6) .nil)), (.ki .i64 2), (.v 1)] [] 7
  (.cal 59 [(.p [(.r [(.int .i64), (.lst [(.int .u8)])])]), (.c (.int .i64)), (.c .str)] [(.rc (.cons (.v 7) .nil)), (.ki .i64 3), (.v 2)] [] 8
   (.loop [(.lst [(.int .i64), (.lst [(.int .u8)])]), (.int .i64)] [(.v 8), (.ki .i64 0)]
    (.ite (.cmp .lss (.v 10) (.ki .i64 3))
     (.ev [(.ob (.cmp .geq (.v 10) (.ki .i64 0))), (.ob (.cmp .lss (.v 10) (.ki .i64 3)))]
      (.cal 58 [(.p [(.r [(.int .i64), (.lst [(.int .u8)])])]), (.c (.int .i64)), (.c (.int .i64))] [(.rc (.cons (.v 9) .nil)), (.ar .add .i64 (.v 10) (.ki .i64 4)), (.get (.cons (.v 3) (.cons (.v 4) (.cons (.v 5) .nil))) (.v 10))] [] 11
       (.back 0 [(.v 11), (.ar .add .i64 (.v 10) (.ki .i64 1))])))
     (.cal 64 [(.c (.lst [(.int .i64), (.lst [(.int .u8)])]))] [(.v 9)] [(.c (.lst [(.int .u8)]))] 11
      (.ret [(.v 11)])))))))
def hdenctok : List HdL := [{ kind := true, id := 6, nv := 9, tmps := [(.v (.g [(.d .str (.v 0)), (.d .str (.v 1)), (.d .str (.v 2)), (.d (.int .i64) (.v 3)), (.d (.int .i64) (.v 4)), (.d (.int .i64) (.v 5))])), (.v (.c (.ptr 0 0))), (.v (.c (.nilS [(.int .u8)]))), (.v (.c (.ptr 1 0))), (.v (.c .any)), (.v (.c .any)), (.v (.c (.ptr 0 0))), (.v (.c (.d .str (.v 0)))), (.v (.c .any)), (.v (.c (.ptr 0 1))), (.v (.c (.d .str (.v 1)))), (.v (.c .any)), (.v (.c (.ptr 0 2))), (.v (.c (.d .str (.v 2)))), (.v (.c .any)), (.v (.c (.ptr 0 3))), (.v (.c (.d (.int .i64) (.v 3)))), (.v (.c (.ptr 0 4))), (.v (.c (.d (.int .i64) (.v 4)))), (.v (.c (.ptr 0 5))), (.v (.c (.d (.int .i64) (.v 5)))), (.v (.g [(.d (.int .i64) (.v 3)), (.d (.int .i64) (.v 4)), (.d (.int .i64) (.v 5))])), (.v (.c (.d (.int .i64) (.v 10)))), (.v (.c .any)), (.v (.c .any)), (.v (.c .any)), (.v (.c .any)), (.v (.c .any)), (.v (.c .any)), (.v (.c .any)), (.v (.c .any)), (.v (.c .any)), (.v (.c .any))], blks := [(.cells [(.d .str (.v 0)), (.d .str (.v 1)), (.d .str (.v 2)), (.d (.int .i64) (.v 3)), (.d (.int .i64) (.v 4)), (.d (.int .i64) (.v 5))]), (.cells [(.row 4 [(.int .i64), (.lst [(.int .u8)])] (.len (.v 9)))]), .dead, .dead, (.row [(.int .i64), (.lst [(.int .u8)])] (.v 9) false)], shs := [(.lst [(.int .i64), (.lst [(.int .u8)])]), (.int .i64)], rs := [], bs := [], fz := [] }]
theorem enctok_ent : EntOK Try.prog [] ⟨63, [(.g [.str, .str, .str, (.int .i64), (.int .i64), (.int .i64)])], [(.c (.lst [(.int .u8)]))], vcenctok⟩ :=
  ent_of_genH hP Try.func63 rfl (by decide) (jn := []) (hd := hdenctok) (sg := sgs) (by kernel_rfl)
def vcrbytes : VC := (.cal 81 [(.c (.lst [(.int .i64), (.lst [(.int .u8)])]))] [(.v 0)] [(.c (.lst [(.int .u8)])), (.c (.int .i64))] 1
 (.ret [(.v 1)]))
theorem rbytes_ent : EntOK Try.prog [] ⟨64, [(.c (.lst [(.int .i64), (.lst [(.int .u8)])]))], [(.c (.lst [(.int .u8)]))], vcrbytes⟩ :=
  ent_of_gen hP Try.func64 rfl (by decide) (sg := sgs) (by kernel_rfl)
def vcmencode : VC := (.cal 17 [(.g [(.int .i64), (.int .i64), (.int .i64), (.int .i64), (.int .i64), (.int .i64), (.int .i64), (.int .i64), .str, .str, .str, .bool, (.lst [(.int .i64), (.int .i64)]), (.int .i64), (.int .i64), (.int .i64), (.int .i64), (.int .i64), .str, (.int .i64), (.int .i64), (.int .i64), (.int .i64), (.lst [(.int .i64), (.int .i64)]), (.lst [.str, .str, .str, (.int .i64), (.int .i64), (.int .i64)])])] [(.rc (.cons (.v 0) (.cons (.v 1) (.cons (.v 2) (.cons (.v 3) (.cons (.v 4) (.cons (.v 5) (.cons (.v 6) (.cons (.v 7) (.cons (.v 8) (.cons (.v 9) (.cons (.v 10) (.cons (.v 11) (.cons (.v 12) (.cons (.v 13) (.cons (.v 14) (.cons (.v 15) (.cons (.v 16) (.cons (.v 17) (.cons (.v 18) (.cons (.v 19) (.cons (.v 20) (.cons (.v 21) (.cons (.v 22) (.cons (.v 23) (.cons (.v 24) .nil))))))))))))))))))))))))))] [(.c (.int .i64))] 25
 (.ite (.cmp .neq (.v 25) (.ki .i64 0))
  (.ret [.nil, (.v 25)])
  (.cal 39 [(.g [(.int .i64), (.int .i64), (.int .i64), (.int .i64), (.int .i64), (.int .i64), (.int .i64), (.int .i64), .str, .str, .str, .bool, (.lst [(.int .i64), (.int .i64)]), (.int .i64), (.int .i64), (.int .i64), (.int .i64), (.int .i64), .str, (.int .i64), (.int .i64), (.int .i64), (.int .i64), (.lst [(.int .i64), (.int .i64)]), (.lst [.str, .str, .str, (.int .i64), (.int .i64), (.int .i64)])])] [(.rc (.cons (.v 0) (.cons (.v 1) (.cons (.v 2) (.cons (.v 3) (.cons (.v 4) (.cons (.v 5) (.cons (.v 6) (.cons (.v 7) (.cons (.v 8) (.cons (.v 9) (.cons (.v 10) (.cons (.v 11) (.cons (.v 12) (.cons (.v 13) (.cons (.v 14) (.cons (.v 15) (.cons (.v 16) (.cons (.v 17) (.cons (.v 18) (.cons (.v 19) (.cons (.v 20) (.cons (.v 21) (.cons (.v 22) (.cons (.v 23) (.cons (.v 24) .nil))))))))))))))))))))))))))] [(.c (.lst [(.int .u8)]))] 26
   (.cal 38 [(.c (.lst [(.int .u8)]))] [(.v 26)] [(.r [(.int .u8)]), (.c (.int .i64))] 27
    (.ret [(.v 27), (.v 28)])))))
theorem mencode_ent : EntOK Try.prog [] ⟨20, [(.g [(.int .i64), (.int .i64), (.int .i64), (.int .i64), (.int .i64), (.int .i64), (.int .i64), (.int .i64), .str, .str, .str, .bool, (.lst [(.int .i64), (.int .i64)]), (.int .i64), (.int .i64), (.int .i64), (.int .i64), (.int .i64), .str, (.int .i64), (.int .i64), (.int .i64), (.int .i64), (.lst [(.int .i64), (.int .i64)]), (.lst [.str, .str, .str, (.int .i64), (.int .i64), (.int .i64)])])], [(.c (.lst [(.int .u8)])), (.c (.int .i64))], vcmencode⟩ :=
  ent_of_gen hP Try.func20 rfl (by decide) (sg := sgs) (by kernel_rfl)
def vcmresult : VC := (.ret [(.rc (.cons (.ki .i64 2) (.cons (.v 1) (.cons (.v 2) (.cons (.ki .i64 0) (.cons (.v 25) (.cons (.ki .i64 0) (.cons (.ki .i64 0) (.cons (.ki .i64 0) (.cons (.ks ⟨List.toArray []⟩) (.cons (.ks ⟨List.toArray []⟩) (.cons (.ks ⟨List.toArray []⟩) (.cons (.kb false) (.cons .nil (.cons (.ki .i64 0) (.cons (.ki .i64 0) (.cons (.ki .i64 0) (.cons (.ki .i64 0) (.cons (.ki .i64 0) (.cons (.ks ⟨List.toArray []⟩) (.cons (.ki .i64 0) (.cons (.ki .i64 0) (.cons (.ki .i64 0) (.cons (.ki .i64 0) (.cons .nil (.cons .nil .nil))))))))))))))))))))))))))])
theorem mresult_ent : EntOK Try.prog [] ⟨12, [(.g [(.int .i64), (.int .i64), (.int .i64), (.int .i64), (.int .i64), (.int .i64), (.int .i64), (.int .i64), .str, .str, .str, .bool, (.lst [(.int .i64), (.int .i64)]), (.int .i64), (.int .i64), (.int .i64), (.int .i64), (.int .i64), .str, (.int .i64), (.int .i64), (.int .i64), (.int .i64), (.lst [(.int .i64), (.int .i64)]), (.lst [.str, .str, .str, (.int .i64), (.int .i64), (.int .i64)])]), (.c (.int .i64))], [(.g [(.int .i64), (.int .i64), (.int .i64), (.int .i64), (.int .i64), (.int .i64), (.int .i64), (.int .i64), .str, .str, .str, .bool, (.lst [(.int .i64), (.int .i64)]), (.int .i64), (.int .i64), (.int .i64), (.int .i64), (.int .i64), .str, (.int .i64), (.int .i64), (.int .i64), (.int .i64), (.lst [(.int .i64), (.int .i64)]), (.lst [.str, .str, .str, (.int .i64), (.int .i64), (.int .i64)])])], vcmresult⟩ :=
  ent_of_gen hP Try.func12 rfl (by decide) (sg := sgs) (by kernel_rfl)
end Go.Proofs.Ytindphofgojfbaa.M26
set_option maxRecDepth 100000
set_option linter.unusedSimpArgs false
set_option linter.unusedVariables false
namespace Go.Proofs.Ytindphofgojfbaa.M26
open Go.Proofs.Ytindphofgojfbaa.Sy Go.Proofs.Ytindphofgojfbaa.S26 Go.RowKit Go.WideShapes Go.ChangeShapes Go.ChangeAt
def vcpack : VC := (.ite (.cmp .gtr (.len (.v 0)) (.ki .i64 4096))
 (.ret [.nil, (.ki .i64 3)])
 (.loop [(.lst [(.int .u8)]), (.int .i64)] [(.cons (.ki .u8 192) .nil), (.ki .i64 0)]
  (.ite (.cmp .lss (.v 2) (.len (.v 0)))
   (.ev [(.ob (.cmp .geq (.v 2) (.ki .i64 0))), (.ob (.cmp .lss (.v 2) (.len (.v 0))))]
    (.cal 57 [(.r [(.int .u8)]), (.c (.int .u8))] [(.v 1), (.get (.v 0) (.v 2))] [(.r [(.int .u8)])] 3
     (.back 0 [(.v 3), (.ar .add .i64 (.v 2) (.ki .i64 1))])))
   (.cal 42 [(.c (.lst [(.int .u8)]))] [(.v 0)] [(.c (.int .i64))] 3
    (.cal 57 [(.r [(.int .u8)]), (.c (.int .u8))] [(.v 1), (.conv .u8 (.shf .shr .i64 (.v 3) (.ki .u64 8)))] [(.r [(.int .u8)])] 4
     (.cal 57 [(.r [(.int .u8)]), (.c (.int .u8))] [(.v 4), (.conv .u8 (.v 3))] [(.r [(.int .u8)])] 5
      (.ev [(.ob (.cmp .leq (.len (.app (.v 5) (.cons (.ki .u8 192) .nil))) (.ki .i64 4294967296)))]
       (.ret [(.app (.v 5) (.cons (.ki .u8 192) .nil)), (.ki .i64 0)]))))))))
def hdpack : List HdL := [{ kind := true, id := 5, nv := 1, tmps := [(.v (.c (.d (.lst [(.int .u8)]) (.v 0)))), (.v (.c .any)), (.v (.c (.nilS [(.int .u8)]))), (.v (.c (.d (.int .i64) (.ki .i64 0)))), (.v (.c (.row 0 [(.int .u8)] (.len (.v 1))))), (.v (.c .any)), (.v (.c .any)), (.v (.c .any)), (.v (.c (.d (.lst [(.int .u8)]) (.v 0)))), (.v (.c (.d (.int .i64) (.len (.v 0))))), (.v (.c (.d .bool (.cmp .gtr (.len (.v 0)) (.ki .i64 4096))))), (.v (.c .any)), (.v (.c (.d (.lst [(.int .u8)]) (.v 0)))), (.v (.c (.d (.int .i64) (.len (.v 0))))), (.v (.c (.d (.int .i64) (.v 2)))), (.v (.c .any)), (.v (.c .any)), (.v (.c .any)), (.v (.c .any)), (.v (.c .any)), (.v (.c .any)), (.v (.c .any)), (.v (.c .any)), (.v (.c .any)), (.v (.c .any)), (.v (.c .any)), (.v (.c .any)), (.v (.c .any)), (.v (.c .any)), (.v (.c .any)), (.v (.c .any)), (.v (.c .any)), (.v (.c .any)), (.v (.c .any)), (.v (.c .any)), (.v (.c .any))], blks := [(.row [(.int .u8)] (.v 1) false)], shs := [(.lst [(.int .u8)]), (.int .i64)], rs := [], bs := [], fz := [] }]
theorem pack_ent : EntOK Try.prog [] ⟨38, [(.c (.lst [(.int .u8)]))], [(.r [(.int .u8)]), (.c (.int .i64))], vcpack⟩ :=
  ent_of_genH hP Try.func38 rfl (by decide) (jn := []) (hd := hdpack) (sg := sgs) (by kernel_rfl)
def vcunpack : VC := (.ite (.cmp .eql (.len (.v 0)) (.ki .i64 0))
 (.ret [.nil, (.ki .i64 6)])
 (.ev [(.ob (.cmp .lss (.ki .i64 0) (.len (.v 0))))]
  (.ite (.cmp .neq (.get (.v 0) (.ki .i64 0)) (.ki .u8 192))
   (.ret [.nil, (.ki .i64 5)])
   (.ev [(.ob (.cmp .leq (.ki .i64 0) (.len (.v 0)))), (.ob (.cmp .leq (.len (.v 0)) (.len (.v 0)))), (.ob (.cmp .leq (.ki .i64 0) (.len (.v 0)))), (.ob (.cmp .leq (.len (.v 0)) (.len (.v 0)))), (.ob (.cmp .leq (.ki .i64 1) (.len (.v 0))))]
    (.cal 40 [(.c (.lst [(.int .u8)])), (.c (.int .u8))] [(.sub (.v 0) (.ki .i64 1) (.len (.v 0))), (.ki .u8 192)] [(.c (.int .i64))] 1
     (.ite (.cmp .geq (.v 1) (.ki .i64 0))
      (.ev [(.ob (.cmp .leq (.ki .i64 0) (.v 1))), (.ob (.cmp .leq (.v 1) (.len (.sub (.v 0) (.ki .i64 1) (.len (.v 0)))))), (.ob (.cmp .leq (.ki .i64 0) (.v 1))), (.ob (.cmp .leq (.v 1) (.v 1)))]
       (.cal 41 [(.c (.lst [(.int .u8)])), (.c .bool)] [(.sub (.sub (.v 0) (.ki .i64 1) (.len (.v 0))) (.ki .i64 0) (.v 1)), (.kb true)] [(.r [(.int .u8)]), (.c (.int .i64))] 2
        (.ite (.cmp .neq (.v 3) (.ki .i64 0))
         (.ret [.nil, (.v 3)])
         (.ite (.cmp .gtr (.len (.v 0)) (.ar .add .i64 (.len (.sub (.sub (.v 0) (.ki .i64 1) (.len (.v 0))) (.ki .i64 0) (.v 1))) (.ki .i64 2)))
          (.ret [.nil, (.ki .i64 5)])
          (.ite (.cmp .lss (.len (.v 2)) (.ki .i64 2))
           (.ret [.nil, (.ki .i64 6)])
           (.ite (.cmp .gtr (.ar .sub .i64 (.len (.v 2)) (.ki .i64 2)) (.ki .i64 4096))
            (.ret [.nil, (.ki .i64 3)])
            (.ev [(.ob (.cmp .leq (.ki .i64 0) (.ar .sub .i64 (.len (.v 2)) (.ki .i64 2)))), (.ob (.cmp .leq (.ar .sub .i64 (.len (.v 2)) (.ki .i64 2)) (.len (.v 2)))), (.ob (.cmp .geq (.ar .sub .i64 (.len (.v 2)) (.ki .i64 2)) (.ki .i64 0))), (.ob (.cmp .lss (.ar .sub .i64 (.len (.v 2)) (.ki .i64 2)) (.len (.v 2)))), (.ob (.cmp .lss (.ar .sub .i64 (.len (.v 2)) (.ki .i64 2)) (.len (.v 2)))), (.ob (.cmp .geq (.ar .add .i64 (.ar .sub .i64 (.len (.v 2)) (.ki .i64 2)) (.ki .i64 1)) (.ki .i64 0))), (.ob (.cmp .lss (.ar .add .i64 (.ar .sub .i64 (.len (.v 2)) (.ki .i64 2)) (.ki .i64 1)) (.len (.v 2)))), (.ob (.cmp .lss (.ar .add .i64 (.ar .sub .i64 (.len (.v 2)) (.ki .i64 2)) (.ki .i64 1)) (.len (.v 2))))]
             (.cal 42 [(.c (.lst [(.int .u8)]))] [(.sub (.v 2) (.ki .i64 0) (.ar .sub .i64 (.len (.v 2)) (.ki .i64 2)))] [(.c (.int .i64))] 4
              (.ite (.cmp .neq (.v 4) (.ar .or .i64 (.shf .shl .i64 (.conv .i64 (.get (.v 2) (.ar .sub .i64 (.len (.v 2)) (.ki .i64 2)))) (.ki .u64 8)) (.conv .i64 (.get (.v 2) (.ar .add .i64 (.ar .sub .i64 (.len (.v 2)) (.ki .i64 2)) (.ki .i64 1))))))
               (.ret [.nil, (.ki .i64 7)])
               (.ev [(.ob (.cmp .leq (.ki .i64 0) (.ar .sub .i64 (.len (.v 2)) (.ki .i64 2)))), (.ob (.cmp .leq (.ar .sub .i64 (.len (.v 2)) (.ki .i64 2)) (.len (.v 2)))), (.ob (.cmp .leq (.ki .i64 0) (.ar .sub .i64 (.len (.v 2)) (.ki .i64 2)))), (.ob (.cmp .leq (.ar .sub .i64 (.len (.v 2)) (.ki .i64 2)) (.ar .sub .i64 (.len (.v 2)) (.ki .i64 2))))]
                (.ret [(.sub (.v 2) (.ki .i64 0) (.ar .sub .i64 (.len (.v 2)) (.ki .i64 2))), (.ki .i64 0)])))))))))))
      (.cal 41 [(.c (.lst [(.int .u8)])), (.c .bool)] [(.sub (.v 0) (.ki .i64 1) (.len (.v 0))), (.kb false)] [(.r [(.int .u8)]), (.c (.int .i64))] 2
       (.ite (.cmp .neq (.v 3) (.ki .i64 0))
        (.ret [.nil, (.v 3)])
        (.ite (.cmp .gtr (.len (.v 0)) (.ar .add .i64 (.len (.sub (.v 0) (.ki .i64 1) (.len (.v 0)))) (.ki .i64 2)))
         (.ret [.nil, (.ki .i64 5)])
         (.ite (.cmp .lss (.len (.v 2)) (.ki .i64 2))
          (.ret [.nil, (.ki .i64 6)])
          (.ite (.cmp .gtr (.ar .sub .i64 (.len (.v 2)) (.ki .i64 2)) (.ki .i64 4096))
           (.ret [.nil, (.ki .i64 3)])
           (.ev [(.ob (.cmp .leq (.ki .i64 0) (.ar .sub .i64 (.len (.v 2)) (.ki .i64 2)))), (.ob (.cmp .leq (.ar .sub .i64 (.len (.v 2)) (.ki .i64 2)) (.len (.v 2)))), (.ob (.cmp .geq (.ar .sub .i64 (.len (.v 2)) (.ki .i64 2)) (.ki .i64 0))), (.ob (.cmp .lss (.ar .sub .i64 (.len (.v 2)) (.ki .i64 2)) (.len (.v 2)))), (.ob (.cmp .lss (.ar .sub .i64 (.len (.v 2)) (.ki .i64 2)) (.len (.v 2)))), (.ob (.cmp .geq (.ar .add .i64 (.ar .sub .i64 (.len (.v 2)) (.ki .i64 2)) (.ki .i64 1)) (.ki .i64 0))), (.ob (.cmp .lss (.ar .add .i64 (.ar .sub .i64 (.len (.v 2)) (.ki .i64 2)) (.ki .i64 1)) (.len (.v 2)))), (.ob (.cmp .lss (.ar .add .i64 (.ar .sub .i64 (.len (.v 2)) (.ki .i64 2)) (.ki .i64 1)) (.len (.v 2))))]
            (.cal 42 [(.c (.lst [(.int .u8)]))] [(.sub (.v 2) (.ki .i64 0) (.ar .sub .i64 (.len (.v 2)) (.ki .i64 2)))] [(.c (.int .i64))] 4
             (.ite (.cmp .neq (.v 4) (.ar .or .i64 (.shf .shl .i64 (.conv .i64 (.get (.v 2) (.ar .sub .i64 (.len (.v 2)) (.ki .i64 2)))) (.ki .u64 8)) (.conv .i64 (.get (.v 2) (.ar .add .i64 (.ar .sub .i64 (.len (.v 2)) (.ki .i64 2)) (.ki .i64 1))))))
              (.ret [.nil, (.ki .i64 7)])
              (.ev [(.ob (.cmp .leq (.ki .i64 0) (.ar .sub .i64 (.len (.v 2)) (.ki .i64 2)))), (.ob (.cmp .leq (.ar .sub .i64 (.len (.v 2)) (.ki .i64 2)) (.len (.v 2)))), (.ob (.cmp .leq (.ki .i64 0) (.ar .sub .i64 (.len (.v 2)) (.ki .i64 2)))), (.ob (.cmp .leq (.ar .sub .i64 (.len (.v 2)) (.ki .i64 2)) (.ar .sub .i64 (.len (.v 2)) (.ki .i64 2))))]
               (.ret [(.sub (.v 2) (.ki .i64 0) (.ar .sub .i64 (.len (.v 2)) (.ki .i64 2))), (.ki .i64 0)]))))))))))))))))
theorem unpack_ent : EntOK Try.prog [] ⟨23, [(.c (.lst [(.int .u8)]))], [(.c (.lst [(.int .u8)])), (.c (.int .i64))], vcunpack⟩ :=
  ent_of_gen hP Try.func23 rfl (by decide) (sg := sgs) (by kernel_rfl)
def vcfput : VC := (.ite (.cmp .eql (.v 1) (.ki .u8 192))
 (.ev [(.ob (.cmp .leq (.len (.app (.v 0) (.cons (.ki .u8 219) (.cons (.ki .u8 220) .nil)))) (.ki .i64 4294967296)))]
  (.ret [(.app (.v 0) (.cons (.ki .u8 219) (.cons (.ki .u8 220) .nil)))]))
 (.ite (.cmp .eql (.v 1) (.ki .u8 219))
  (.ev [(.ob (.cmp .leq (.len (.app (.v 0) (.cons (.ki .u8 219) (.cons (.ki .u8 221) .nil)))) (.ki .i64 4294967296)))]
   (.ret [(.app (.v 0) (.cons (.ki .u8 219) (.cons (.ki .u8 221) .nil)))]))
  (.ev [(.ob (.cmp .leq (.len (.app (.v 0) (.cons (.v 1) .nil))) (.ki .i64 4294967296)))]
   (.ret [(.app (.v 0) (.cons (.v 1) .nil))]))))
theorem fput_ent : EntOK Try.prog [] ⟨57, [(.r [(.int .u8)]), (.c (.int .u8))], [(.r [(.int .u8)])], vcfput⟩ :=
  ent_of_gen hP Try.func57 rfl (by decide) (sg := sgs) (by kernel_rfl)
def vcfsum : VC := (.loop [(.int .u16), (.int .i64)] [(.ki .u16 65535), (.ki .i64 0)]
 (.ite (.cmp .lss (.v 2) (.len (.v 0)))
  (.ev [(.ob (.cmp .geq (.v 2) (.ki .i64 0))), (.ob (.cmp .lss (.v 2) (.len (.v 0))))]
   (.loop [(.int .u16), (.int .i64)] [(.ar .xor .u16 (.v 1) (.shf .shl .u16 (.conv .u16 (.get (.v 0) (.v 2))) (.ki .u64 8))), (.ki .i64 0)]
    (.ite (.cmp .lss (.v 4) (.ki .i64 8))
     (.ite (.cmp .neq (.ar .and .u16 (.v 3) (.ki .u16 32768)) (.ki .u16 0))
      (.back 1 [(.ar .xor .u16 (.shf .shl .u16 (.v 3) (.ki .u64 1)) (.ki .u16 4129)), (.ar .add .i64 (.v 4) (.ki .i64 1))])
      (.back 1 [(.shf .shl .u16 (.v 3) (.ki .u64 1)), (.ar .add .i64 (.v 4) (.ki .i64 1))]))
     (.back 0 [(.v 3), (.ar .add .i64 (.v 2) (.ki .i64 1))]))))
  (.ret [(.conv .i64 (.v 1))])))
def hdfsum : List HdL := [{ kind := true, id := 3, nv := 1, tmps := [(.v (.c (.d (.lst [(.int .u8)]) (.v 0)))), (.v (.c .any)), (.v (.c (.d (.int .i64) (.ki .i64 0)))), (.v (.c (.d (.int .u16) (.v 1)))), (.v (.c .any)), (.v (.c .any)), (.v (.c .any)), (.v (.c (.d (.lst [(.int .u8)]) (.v 0)))), (.v (.c (.d (.int .i64) (.len (.v 0))))), (.v (.c (.d (.int .i64) (.v 2)))), (.v (.c .any)), (.v (.c .any)), (.v (.c .any)), (.v (.c .any)), (.v (.c .any)), (.v (.c .any)), (.v (.c .any)), (.v (.c .any)), (.v (.c .any)), (.v (.c .any)), (.v (.c .any)), (.v (.c .any)), (.v (.c .any)), (.v (.c .any)), (.v (.c .any)), (.v (.c .any)), (.v (.c .any)), (.v (.c .any)), (.v (.c .any)), (.v (.c .any)), (.v (.c .any)), (.v (.c .any))], blks := [], shs := [(.int .u16), (.int .i64)], rs := [], bs := [], fz := [] },
{ kind := true, id := 7, nv := 3, tmps := [(.v (.c (.d (.lst [(.int .u8)]) (.v 0)))), (.v (.c .any)), (.v (.c (.d (.int .i64) (.ki .i64 0)))), (.v (.c (.d (.int .u16) (.v 3)))), (.v (.c .any)), (.v (.c (.d (.int .u8) (.get (.v 0) (.v 2))))), (.v (.c .any)), (.v (.c (.d (.lst [(.int .u8)]) (.v 0)))), (.v (.c (.d (.int .i64) (.len (.v 0))))), (.v (.c (.d (.int .i64) (.v 2)))), (.v (.c (.d .bool (.cmp .lss (.v 2) (.len (.v 0)))))), (.v (.c (.elem [(.int .u8)] (.get (.v 0) (.v 2)) 0))), (.v (.c (.d (.int .u8) (.get (.v 0) (.v 2))))), (.v (.c (.d (.int .u16) (.v 1)))), (.v (.c (.d (.int .u8) (.get (.v 0) (.v 2))))), (.v (.c (.d (.int .u16) (.conv .u16 (.get (.v 0) (.v 2)))))), (.v (.c (.d (.int .u16) (.shf .shl .u16 (.conv .u16 (.get (.v 0) (.v 2))) (.ki .u64 8))))), (.v (.c (.d (.int .u16) (.ar .xor .u16 (.v 1) (.shf .shl .u16 (.conv .u16 (.get (.v 0) (.v 2))) (.ki .u64 8)))))), (.v (.c (.d (.int .i64) (.v 4)))), (.v (.c .any)), (.v (.c .any)), (.v (.c .any)), (.v (.c .any)), (.v (.c .any)), (.v (.c .any)), (.v (.c .any)), (.v (.c .any)), (.v (.c .any)), (.v (.c .any)), (.v (.c .any)), (.v (.c .any)), (.v (.c .any))], blks := [], shs := [(.int .u16), (.int .i64)], rs := [], bs := [], fz := [] }]
theorem fsum_ent : EntOK Try.prog [] ⟨42, [(.c (.lst [(.int .u8)]))], [(.c (.int .i64))], vcfsum⟩ :=
  ent_of_genH hP Try.func42 rfl (by decide) (jn := []) (hd := hdfsum) (sg := sgs) (by kernel_rfl)
def vccontent : VC := (.loop [(.lst [(.int .u8)]), (.lst [(.int .u8)]), (.int .i64), (.int .i64)] [.nil, .nil, (.ki .i64 0), (.ki .i64 0)]
 (.ite (.cmp .lss (.v 5) (.len (.v 0)))
  (.ev [(.ob (.cmp .geq (.v 5) (.ki .i64 0))), (.ob (.cmp .lss (.v 5) (.len (.v 0))))]
   (.ite (.cmp .eql (.get (.v 0) (.v 5)) (.ki .u8 219))
    (.ite (.cmp .eql (.ar .add .i64 (.v 5) (.ki .i64 1)) (.len (.v 0)))
     (.ite (.v 1)
      (.ret [.nil, (.ki .i64 5)])
      (.ret [.nil, (.ki .i64 6)]))
     (.ev [(.ob (.cmp .geq (.ar .add .i64 (.v 5) (.ki .i64 1)) (.ki .i64 0))), (.ob (.cmp .lss (.ar .add .i64 (.v 5) (.ki .i64 1)) (.len (.v 0))))]
      (.ite (.cmp .eql (.get (.v 0) (.ar .add .i64 (.v 5) (.ki .i64 1))) (.ki .u8 220))
       (.ite (.v 1)
        (.ev [(.ob (.cmp .leq (.len (.app (.v 2) (.cons (.ki .u8 192) .nil))) (.ki .i64 4294967296)))]
         (.back 0 [(.app (.v 2) (.cons (.ki .u8 192) .nil)), (.v 3), (.v 4), (.ar .add .i64 (.ar .add .i64 (.v 5) (.ki .i64 1)) (.ki .i64 1))]))
        (.back 0 [(.v 2), (.v 3), (.v 4), (.ar .add .i64 (.ar .add .i64 (.v 5) (.ki .i64 1)) (.ki .i64 1))]))
       (.ev [(.ob (.cmp .geq (.ar .add .i64 (.v 5) (.ki .i64 1)) (.ki .i64 0))), (.ob (.cmp .lss (.ar .add .i64 (.v 5) (.ki .i64 1)) (.len (.v 0))))]
        (.ite (.cmp .neq (.get (.v 0) (.ar .add .i64 (.v 5) (.ki .i64 1))) (.ki .u8 221))
         (.ret [.nil, (.ki .i64 5)])
         (.ite (.v 1)
          (.ev [(.ob (.cmp .leq (.len (.app (.v 2) (.cons (.get (.v 0) (.v 5)) .nil))) (.ki .i64 4294967296)))]
           (.back 0 [(.app (.v 2) (.cons (.get (.v 0) (.v 5)) .nil)), (.v 3), (.v 4), (.ar .add .i64 (.ar .add .i64 (.v 5) (.ki .i64 1)) (.ki .i64 1))]))
          (.back 0 [(.v 2), (.v 3), (.v 4), (.ar .add .i64 (.ar .add .i64 (.v 5) (.ki .i64 1)) (.ki .i64 1))])))))))
    (.ite (.v 1)
     (.ev [(.ob (.cmp .leq (.len (.app (.v 2) (.cons (.get (.v 0) (.v 5)) .nil))) (.ki .i64 4294967296)))]
      (.back 0 [(.app (.v 2) (.cons (.get (.v 0) (.v 5)) .nil)), (.v 3), (.v 4), (.ar .add .i64 (.v 5) (.ki .i64 1))]))
     (.back 0 [(.v 2), (.v 3), (.v 4), (.ar .add .i64 (.v 5) (.ki .i64 1))]))))
  (.ite (.v 1)
   (.ret [(.v 2), (.ki .i64 0)])
   (.ret [.nil, (.ki .i64 6)]))))
def hdcontent : List HdL := [{ kind := true, id := 3, nv := 2, tmps := [(.v (.c (.d (.lst [(.int .u8)]) (.v 0)))), (.v (.c (.d .bool (.v 1)))), (.v (.c .any)), (.v (.c .any)), (.v (.c (.d (.lst [(.int .u8)]) (.v 3)))), (.v (.c (.d (.int .i64) (.v 4)))), (.v (.c (.row 0 [(.int .u8)] (.len (.v 2))))), (.v (.c (.d (.int .i64) (.v 5)))), (.v (.c .any)), (.v (.c .any)), (.v (.c .any)), (.v (.c .any)), (.v (.c .any)), (.v (.c .any)), (.v (.c .any)), (.v (.c .any)), (.v (.c .any)), (.v (.c .any)), (.v (.c .any)), (.v (.c .any)), (.v (.c .any)), (.v (.c .any)), (.v (.c .any)), (.v (.c .any)), (.v (.c .any)), (.v (.c .any)), (.v (.c .any)), (.v (.c .any)), (.v (.c .any)), (.v (.c .any)), (.v (.c .any)), (.v (.c .any)), (.v (.c .any)), (.v (.c .any)), (.v (.c .any)), (.v (.c .any)), (.v (.c .any)), (.v (.c .any)), (.v (.c .any)), (.v (.c .any)), (.v (.c .any)), (.v (.c .any)), (.v (.c .any)), (.v (.c .any)), (.v (.c .any)), (.v (.c .any)), (.v (.c .any)), (.v (.c .any)), (.v (.c .any)), (.v (.c .any)), (.v (.c .any)), (.v (.c .any)), (.v (.c .any)), (.v (.c .any)), (.v (.c .any)), (.v (.c .any)), (.v (.c .any))], blks := [(.row [(.int .u8)] (.v 2) false)], shs := [(.lst [(.int .u8)]), (.lst [(.int .u8)]), (.int .i64), (.int .i64)], rs := [6], bs := [], fz := [] }]
theorem content_ent : EntOK Try.prog [] ⟨41, [(.c (.lst [(.int .u8)])), (.c .bool)], [(.r [(.int .u8)]), (.c (.int .i64))], vccontent⟩ :=
  ent_of_genH hP Try.func41 rfl (by decide) (jn := []) (hd := hdcontent) (sg := sgs) (by kernel_rfl)
end Go.Proofs.Ytindphofgojfbaa.M26
