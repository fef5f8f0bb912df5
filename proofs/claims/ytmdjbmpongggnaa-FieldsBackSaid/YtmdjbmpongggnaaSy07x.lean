/-
  The functions that recover in package fields: what they do with a panic. No conditions.
-/
import Derived.Test.YtmdjbmpongggnaaFrame
import Derived.Test.YtmdjbmpongggnaaSyO3
import Derived.Tactics
import Derived.Recover
import Derived.Tactics2
set_option maxRecDepth 100000
set_option linter.unusedSimpArgs false
set_option linter.unusedVariables false
namespace Go.Proofs.Ytmdjbmpongggnaa
open Go.Proofs.Ytmdjbmpongggnaa.Sy Go.RowKit
theorem rec2_of {w w1 : World} {b2 b3 : Nat} {v2 v3 z e : Value} {T2 T3 : TypeId} (hne : b2 ≠ b3) (hb : Below w.heap.size w w1) (h0 : w.heap[b2]? = some (.cells #[v2] T2 (0, 0))) (h2 : w1.heap[b2]? = some (.cells #[v2] T2 (0, 0)))
    (h3 : w1.heap[b3]? = some (.cells #[v3] T3 (0, 0))) : Rec2 w ((w1.setCell ⟨b2, 0, none⟩ z).setCell ⟨b3, 0, none⟩ e) b2 z b3 e := by
  refine ⟨hb.os, hb.tape, hb.output, ?_, fun k hk k2 k3 => ?_, ⟨T2, ?_⟩, ⟨T3, ?_⟩⟩
  · simpa [World.setCell] using hb.size
  · rw [Sy.heap_setCell_other k3, Sy.heap_setCell_other k2]
    exact hb.block k hk
  · rw [Sy.heap_setCell_other hne]
    exact Sy.heap_setCell_same (vs := [v2]) (o := 0) h2
  · exact Sy.heap_setCell_same (vs := [v3]) (o := 0) ((Sy.heap_setCell_other (Ne.symm hne)).trans h3)
theorem reason_calls (er : Int) (w : World) : Calls Try.prog 34 #[.iface 66 (.agg #[.int .i64 er])] w fun e w' => e = .returned (.int .i64 er) ∧ Below w.heap.size w w' := by
  have hta : ∀ w, (Instr.typeAssert (.iface 66 (.agg #[.int .i64 er])) 20 66 true).run Try.prog w = .ok (.tuple #[.agg #[.int .i64 er], .bool true]) w := fun w => by
    simp [Instr.typeAssert, run_underlying Try.underlying66]
  go_enter Try.func34, Try.ntmps34
  go_wp2
  refine bodyPost_ret (by simp [results, Try.results34, go_sem, *]; try rfl) rfl ?_
  exact ⟨rfl, by (repeat' (first | (with_reducible exact Below.refl _ _) | (with_reducible assumption) | (with_reducible refine Below.alloc ?_ ?_ _) | (with_reducible refine Below.drew ?_) | (with_reducible refine Below.setCell ?_ ?_ _) | (with_reducible exact Nat.le_refl _) | omega | (simp only [World.size_alloc, World.size_setCell, World.size_drew]; omega) | (simp; done)))⟩

theorem rec_TakeInt : Recovers Try.prog 33 66 (.int .i64 0) := by
  refine ⟨⟨_, Try.func33, rfl⟩, fun p q w => ?_, fun er b2 b3 w v2 v3 T2 T3 hne h2 h3 => ?_⟩
  · refine callsD_of_wpS Try.func33 rfl fun c₀ cs hu => ?_
    apply wpS_seq
    apply wpS_region
    simp [wpOpsS, go_sem, recoverD, hu, Try.ntmps33, Exit.thenS]
    rw [show (#[p, q] ++ ((Array.replicate 6 undef).setIfInBounds 1 Value.nilIface).setIfInBounds 0 Value.nilIface) = #[p, q, .nilIface, .nilIface, undef, undef, undef, undef] from rfl]
    refine wpS_of_wp ?_
    go_wp2
    cases c₀
    simp_all [bodyPostS, results, Try.results33]
  · refine callsD_of_wpS Try.func33 rfl fun c₀ cs hu => ?_
    apply wpS_seq
    apply wpS_region
    simp [wpOpsS, go_sem, recoverD, hu, Try.ntmps33, Exit.thenS]
    generalize hpv : Value.iface 66 (.agg #[.int .i64 er]) = pv at *
    rw [show (#[Value.pointer (some ⟨b2, 0, none⟩), Value.pointer (some ⟨b3, 0, none⟩)] ++ ((Array.replicate 6 undef).setIfInBounds 1 pv).setIfInBounds 0 pv) = #[.pointer (some ⟨b2, 0, none⟩), .pointer (some ⟨b3, 0, none⟩), pv, pv, undef, undef, undef, undef] from rfl]
    subst hpv
    refine wpS_of_wp ?_
    have hl2 := (Array.getElem?_eq_some_iff.1 h2).1
    have hl3 := (Array.getElem?_eq_some_iff.1 h3).1
    go_wp2_with (go_at_call 34; refine (reason_calls er _).mono ?_; rintro e w1 ⟨rfl, hb1⟩; have h21 := (hb1.block b2 hl2).trans h2; have h31 := (hb1.block b3 hl3).trans h3; have k2 : w1.cell? ⟨b2, 0, none⟩ = some v2 := (by simp [World.cell?, h21]); have f2 : w1.frozen? ⟨b2, 0, none⟩ = false := (by simp [World.frozen?, h21]); have k3 : w1.cell? ⟨b3, 0, none⟩ = some v3 := (by simp [World.cell?, h31]); have f3 : w1.frozen? ⟨b3, 0, none⟩ = false := (by simp [World.frozen?, h31]))
    refine ⟨rfl, _, rfl, .tuple #[], by simp [results, Try.results33], ⟨_, rfl⟩, rfl, ?_⟩
    exact rec2_of hne hb1 h2 h21 h31

theorem rec_Take : Recovers Try.prog 38 66 (.slice none 0 0) := by
  refine ⟨⟨_, Try.func38, rfl⟩, fun p q w => ?_, fun er b2 b3 w v2 v3 T2 T3 hne h2 h3 => ?_⟩
  · refine callsD_of_wpS Try.func38 rfl fun c₀ cs hu => ?_
    apply wpS_seq
    apply wpS_region
    simp [wpOpsS, go_sem, recoverD, hu, Try.ntmps38, Exit.thenS]
    rw [show (#[p, q] ++ ((Array.replicate 6 undef).setIfInBounds 1 Value.nilIface).setIfInBounds 0 Value.nilIface) = #[p, q, .nilIface, .nilIface, undef, undef, undef, undef] from rfl]
    refine wpS_of_wp ?_
    go_wp2
    cases c₀
    simp_all [bodyPostS, results, Try.results38]
  · refine callsD_of_wpS Try.func38 rfl fun c₀ cs hu => ?_
    apply wpS_seq
    apply wpS_region
    simp [wpOpsS, go_sem, recoverD, hu, Try.ntmps38, Exit.thenS]
    generalize hpv : Value.iface 66 (.agg #[.int .i64 er]) = pv at *
    rw [show (#[Value.pointer (some ⟨b2, 0, none⟩), Value.pointer (some ⟨b3, 0, none⟩)] ++ ((Array.replicate 6 undef).setIfInBounds 1 pv).setIfInBounds 0 pv) = #[.pointer (some ⟨b2, 0, none⟩), .pointer (some ⟨b3, 0, none⟩), pv, pv, undef, undef, undef, undef] from rfl]
    subst hpv
    refine wpS_of_wp ?_
    have hl2 := (Array.getElem?_eq_some_iff.1 h2).1
    have hl3 := (Array.getElem?_eq_some_iff.1 h3).1
    go_wp2_with (go_at_call 34; refine (reason_calls er _).mono ?_; rintro e w1 ⟨rfl, hb1⟩; have h21 := (hb1.block b2 hl2).trans h2; have h31 := (hb1.block b3 hl3).trans h3; have k2 : w1.cell? ⟨b2, 0, none⟩ = some v2 := (by simp [World.cell?, h21]); have f2 : w1.frozen? ⟨b2, 0, none⟩ = false := (by simp [World.frozen?, h21]); have k3 : w1.cell? ⟨b3, 0, none⟩ = some v3 := (by simp [World.cell?, h31]); have f3 : w1.frozen? ⟨b3, 0, none⟩ = false := (by simp [World.frozen?, h31]))
    refine ⟨rfl, _, rfl, .tuple #[], by simp [results, Try.results38], ⟨_, rfl⟩, rfl, ?_⟩
    exact rec2_of hne hb1 h2 h21 h31

theorem rec_TakeList : Recovers Try.prog 42 66 (.slice none 0 0) := by
  refine ⟨⟨_, Try.func42, rfl⟩, fun p q w => ?_, fun er b2 b3 w v2 v3 T2 T3 hne h2 h3 => ?_⟩
  · refine callsD_of_wpS Try.func42 rfl fun c₀ cs hu => ?_
    apply wpS_seq
    apply wpS_region
    simp [wpOpsS, go_sem, recoverD, hu, Try.ntmps42, Exit.thenS]
    rw [show (#[p, q] ++ ((Array.replicate 6 undef).setIfInBounds 1 Value.nilIface).setIfInBounds 0 Value.nilIface) = #[p, q, .nilIface, .nilIface, undef, undef, undef, undef] from rfl]
    refine wpS_of_wp ?_
    go_wp2
    cases c₀
    simp_all [bodyPostS, results, Try.results42]
  · refine callsD_of_wpS Try.func42 rfl fun c₀ cs hu => ?_
    apply wpS_seq
    apply wpS_region
    simp [wpOpsS, go_sem, recoverD, hu, Try.ntmps42, Exit.thenS]
    generalize hpv : Value.iface 66 (.agg #[.int .i64 er]) = pv at *
    rw [show (#[Value.pointer (some ⟨b2, 0, none⟩), Value.pointer (some ⟨b3, 0, none⟩)] ++ ((Array.replicate 6 undef).setIfInBounds 1 pv).setIfInBounds 0 pv) = #[.pointer (some ⟨b2, 0, none⟩), .pointer (some ⟨b3, 0, none⟩), pv, pv, undef, undef, undef, undef] from rfl]
    subst hpv
    refine wpS_of_wp ?_
    have hl2 := (Array.getElem?_eq_some_iff.1 h2).1
    have hl3 := (Array.getElem?_eq_some_iff.1 h3).1
    go_wp2_with (go_at_call 34; refine (reason_calls er _).mono ?_; rintro e w1 ⟨rfl, hb1⟩; have h21 := (hb1.block b2 hl2).trans h2; have h31 := (hb1.block b3 hl3).trans h3; have k2 : w1.cell? ⟨b2, 0, none⟩ = some v2 := (by simp [World.cell?, h21]); have f2 : w1.frozen? ⟨b2, 0, none⟩ = false := (by simp [World.frozen?, h21]); have k3 : w1.cell? ⟨b3, 0, none⟩ = some v3 := (by simp [World.cell?, h31]); have f3 : w1.frozen? ⟨b3, 0, none⟩ = false := (by simp [World.frozen?, h31]))
    refine ⟨rfl, _, rfl, .tuple #[], by simp [results, Try.results42], ⟨_, rfl⟩, rfl, ?_⟩
    exact rec2_of hne hb1 h2 h21 h31
end Go.Proofs.Ytmdjbmpongggnaa
