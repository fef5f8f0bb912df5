/-
  The walks of layer 32: Schedule, Cancel.
-/
import Derived.Test.YtokjokbbegcceaaWalks32a
import Derived.Test.YtokjokbbegcceaaPlain32a
import Derived.WalkLawsBesides
namespace Go.Proofs.Ytokjokbbegcceaa
open Go.RowKit

set_option maxHeartbeats 2000000 in
theorem sch_any (s v t d tr ver due otr : Int) (w : World) : Calls Try.prog 13 #[.agg #[.int .i64 s, .int .i64 v, .int .i64 t, .int .i64 d, .int .i64 tr], .int .i64 ver, .int .i64 due, .int .i64 otr] w fun e w' => e = .returned (.tuple #[.agg #[.int .i64 (sch ⟨s, v, t, d, tr⟩ ver due otr).s, .int .i64 (sch ⟨s, v, t, d, tr⟩ ver due otr).v, .int .i64 (sch ⟨s, v, t, d, tr⟩ ver due otr).t, .int .i64 (sch ⟨s, v, t, d, tr⟩ ver due otr).d, .int .i64 (sch ⟨s, v, t, d, tr⟩ ver due otr).tr], .int .i64 (schE ⟨s, v, t, d, tr⟩ ver due otr)]) ∧ Below w.heap.size w w' := by
  by_cases h : 1 ≤ ver ∧ ver ≤ 2147483647 ∧ 0 ≤ due ∧ due ≤ 268435456 ∧ 0 ≤ otr ∧ otr ≤ 10
  · have h0 := h
    obtain ⟨h1, h2, h3, h4, h5, h6⟩ := h
    cases hu : uwB s with
    | true =>
      obtain ⟨e1, e2⟩ := sch_uw (s := s) (v := v) (t := t) (d := d) (tr := tr) h0 hu; have E1 := Lib.hid e1; have E2 := Lib.hid e2; clear e1 e2
      clear h0
      go_enter Try.func13, Try.ntmps13
      go_wp2_with (first | (go_at_call 21; refine (uw_any _ _).mono ?_; rintro e w' ⟨rfl, rfl⟩))
      all_goals first | (exfalso; omega) | skip
      all_goals refine bodyPost_ret (by simp [results, Try.results13, go_sem, *]; try rfl) rfl ?_
      all_goals refine ⟨?_, by (repeat' (first | (with_reducible exact Below.refl _ _) | (with_reducible assumption) | (with_reducible refine Below.alloc ?_ ?_ _) | (with_reducible refine Below.drew ?_) | (with_reducible refine Below.setCell ?_ ?_ _) | (with_reducible exact Nat.le_refl _) | omega | (simp only [World.size_alloc, World.size_setCell, World.size_drew]; omega) | (simp; done)))⟩
      all_goals rw [E1.out, E2.out]
    | false =>
      cases hv : (ver == v) with
      | true =>
        obtain ⟨e1, e2⟩ := sch_same (s := s) (v := v) (t := t) (d := d) (tr := tr) h0 hu hv; have E1 := Lib.hid e1; have E2 := Lib.hid e2; clear e1 e2
        clear h0
        go_enter Try.func13, Try.ntmps13
        go_wp2_with (first | (go_at_call 21; refine (uw_any _ _).mono ?_; rintro e w' ⟨rfl, rfl⟩))
        all_goals first | (exfalso; omega) | skip
        all_goals refine bodyPost_ret (by simp [results, Try.results13, go_sem, *]; try rfl) rfl ?_
        all_goals refine ⟨?_, by (repeat' (first | (with_reducible exact Below.refl _ _) | (with_reducible assumption) | (with_reducible refine Below.alloc ?_ ?_ _) | (with_reducible refine Below.drew ?_) | (with_reducible refine Below.setCell ?_ ?_ _) | (with_reducible exact Nat.le_refl _) | omega | (simp only [World.size_alloc, World.size_setCell, World.size_drew]; omega) | (simp; done)))⟩
        all_goals rw [E1.out, E2.out]
      | false =>
        obtain ⟨e1, e2⟩ := sch_ok (s := s) (v := v) (t := t) (d := d) (tr := tr) h0 hu hv; have E1 := Lib.hid e1; have E2 := Lib.hid e2; clear e1 e2
        clear h0
        go_enter Try.func13, Try.ntmps13
        go_wp2_with (first | (go_at_call 21; refine (uw_any _ _).mono ?_; rintro e w' ⟨rfl, rfl⟩))
        all_goals first | (exfalso; omega) | skip
        all_goals refine bodyPost_ret (by simp [results, Try.results13, go_sem, *]; try rfl) rfl ?_
        all_goals refine ⟨?_, by (repeat' (first | (with_reducible exact Below.refl _ _) | (with_reducible assumption) | (with_reducible refine Below.alloc ?_ ?_ _) | (with_reducible refine Below.drew ?_) | (with_reducible refine Below.setCell ?_ ?_ _) | (with_reducible exact Nat.le_refl _) | omega | (simp only [World.size_alloc, World.size_setCell, World.size_drew]; omega) | (simp; done)))⟩
        all_goals rw [E1.out, E2.out]
  · obtain ⟨e1, e2⟩ := sch_bad (s := s) (v := v) (t := t) (d := d) (tr := tr) h; have E1 := Lib.hid e1; have E2 := Lib.hid e2; clear e1 e2
    go_enter Try.func13, Try.ntmps13
    go_wp2_with (first | (go_at_call 21; refine (uw_any _ _).mono ?_; rintro e w' ⟨rfl, rfl⟩))
    all_goals first | (exfalso; omega) | skip
    all_goals refine bodyPost_ret (by simp [results, Try.results13, go_sem, *]; try rfl) rfl ?_
    all_goals refine ⟨?_, by (repeat' (first | (with_reducible exact Below.refl _ _) | (with_reducible assumption) | (with_reducible refine Below.alloc ?_ ?_ _) | (with_reducible refine Below.drew ?_) | (with_reducible refine Below.setCell ?_ ?_ _) | (with_reducible exact Nat.le_refl _) | omega | (simp only [World.size_alloc, World.size_setCell, World.size_drew]; omega) | (simp; done)))⟩
    all_goals rw [E1.out, E2.out]
set_option maxHeartbeats 2000000 in
theorem rsch_any (s v t d tr ver due otr : Int) (w : World) : Calls Try.prog 18 #[.agg #[.int .i64 s, .int .i64 v, .int .i64 t, .int .i64 d, .int .i64 tr], .int .i64 ver, .int .i64 due, .int .i64 otr] w fun e w' => e = .returned (.tuple #[.agg #[.int .i64 (sch ⟨s, v, t, d, tr⟩ ver due otr).s, .int .i64 (sch ⟨s, v, t, d, tr⟩ ver due otr).v, .int .i64 (sch ⟨s, v, t, d, tr⟩ ver due otr).t, .int .i64 (sch ⟨s, v, t, d, tr⟩ ver due otr).d, .int .i64 (sch ⟨s, v, t, d, tr⟩ ver due otr).tr], .int .i64 (schE ⟨s, v, t, d, tr⟩ ver due otr)]) ∧ Below w.heap.size w w' := by
  by_cases h : 1 ≤ ver ∧ ver ≤ 2147483647 ∧ 0 ≤ due ∧ due ≤ 268435456 ∧ 0 ≤ otr ∧ otr ≤ 10
  · have h0 := h
    obtain ⟨h1, h2, h3, h4, h5, h6⟩ := h
    cases hu : uwB s with
    | true =>
      obtain ⟨e1, e2⟩ := sch_uw (s := s) (v := v) (t := t) (d := d) (tr := tr) h0 hu; have E1 := Lib.hid e1; have E2 := Lib.hid e2; clear e1 e2
      clear h0
      go_enter Try.func18, Try.ntmps18
      go_wp2_with (first | (go_at_call 15; refine (in_any _ _ _ _).mono ?_; rintro e w' ⟨rfl, rfl⟩) | (go_at_call 16; refine (ruw_any _ _ _ _ _ _).mono ?_; rintro e w1 ⟨rfl, hb1⟩; obtain ⟨hc1, hf1⟩ := bcell hb1; have hs1 := hb1.size; (try simp only [World.size_alloc, World.size_drew, World.size_setCell] at hs1); have hB1 := below_step (w := w) hb1 (by (repeat' (first | (with_reducible exact Below.refl _ _) | (with_reducible assumption) | (with_reducible refine Below.alloc ?_ ?_ _) | (with_reducible refine Below.drew ?_) | (with_reducible refine Below.setCell ?_ ?_ _) | (with_reducible exact Nat.le_refl _) | omega | (simp only [World.size_alloc, World.size_setCell, World.size_drew]; omega) | (simp; done)))); have hS1 := hB1.size; have hz1_0 : w.heap.size < w1.heap.size := (by omega); have hy1_0 : w.heap.size ≤ w1.heap.size := (by omega); have hx1_0 : w.heap.size ≤ w1.heap.size + 1 := (by omega); have hz1_1 : w.heap.size + 1 < w1.heap.size := (by omega); have hy1_1 : w.heap.size + 1 ≤ w1.heap.size := (by omega); have hx1_1 : w.heap.size + 1 ≤ w1.heap.size + 1 := (by omega); have kc1_0_0 := hc1 (w.heap.size) 0 (by first | (simp; done) | (simp; omega) | omega); have kf1_0_0 := hf1 (w.heap.size) 0 (by first | (simp; done) | (simp; omega) | omega); (try simp [go_sem] at kc1_0_0); (try simp [go_sem] at kf1_0_0); have kc1_0_1 := hc1 (w.heap.size) 1 (by first | (simp; done) | (simp; omega) | omega); have kf1_0_1 := hf1 (w.heap.size) 1 (by first | (simp; done) | (simp; omega) | omega); (try simp [go_sem] at kc1_0_1); (try simp [go_sem] at kf1_0_1); have kc1_0_2 := hc1 (w.heap.size) 2 (by first | (simp; done) | (simp; omega) | omega); have kf1_0_2 := hf1 (w.heap.size) 2 (by first | (simp; done) | (simp; omega) | omega); (try simp [go_sem] at kc1_0_2); (try simp [go_sem] at kf1_0_2); have kc1_0_3 := hc1 (w.heap.size) 3 (by first | (simp; done) | (simp; omega) | omega); have kf1_0_3 := hf1 (w.heap.size) 3 (by first | (simp; done) | (simp; omega) | omega); (try simp [go_sem] at kc1_0_3); (try simp [go_sem] at kf1_0_3); have kc1_0_4 := hc1 (w.heap.size) 4 (by first | (simp; done) | (simp; omega) | omega); have kf1_0_4 := hf1 (w.heap.size) 4 (by first | (simp; done) | (simp; omega) | omega); (try simp [go_sem] at kc1_0_4); (try simp [go_sem] at kf1_0_4); have kc1_1_0 := hc1 (w.heap.size + 1) 0 (by first | (simp; done) | (simp; omega) | omega); have kf1_1_0 := hf1 (w.heap.size + 1) 0 (by first | (simp; done) | (simp; omega) | omega); (try simp [go_sem] at kc1_1_0); (try simp [go_sem] at kf1_1_0); have kc1_1_1 := hc1 (w.heap.size + 1) 1 (by first | (simp; done) | (simp; omega) | omega); have kf1_1_1 := hf1 (w.heap.size + 1) 1 (by first | (simp; done) | (simp; omega) | omega); (try simp [go_sem] at kc1_1_1); (try simp [go_sem] at kf1_1_1); have kc1_1_2 := hc1 (w.heap.size + 1) 2 (by first | (simp; done) | (simp; omega) | omega); have kf1_1_2 := hf1 (w.heap.size + 1) 2 (by first | (simp; done) | (simp; omega) | omega); (try simp [go_sem] at kc1_1_2); (try simp [go_sem] at kf1_1_2); have kc1_1_3 := hc1 (w.heap.size + 1) 3 (by first | (simp; done) | (simp; omega) | omega); have kf1_1_3 := hf1 (w.heap.size + 1) 3 (by first | (simp; done) | (simp; omega) | omega); (try simp [go_sem] at kc1_1_3); (try simp [go_sem] at kf1_1_3); have kc1_1_4 := hc1 (w.heap.size + 1) 4 (by first | (simp; done) | (simp; omega) | omega); have kf1_1_4 := hf1 (w.heap.size + 1) 4 (by first | (simp; done) | (simp; omega) | omega); (try simp [go_sem] at kc1_1_4); (try simp [go_sem] at kf1_1_4)))
      all_goals first | (exfalso; omega) | skip
      all_goals refine bodyPost_ret (by simp [results, Try.results18, go_sem, *]; try rfl) rfl ?_
      all_goals refine ⟨?_, by (repeat' (first | (with_reducible exact Below.refl _ _) | (with_reducible assumption) | (with_reducible refine Below.alloc ?_ ?_ _) | (with_reducible refine Below.drew ?_) | (with_reducible refine Below.setCell ?_ ?_ _) | (with_reducible exact Nat.le_refl _) | omega | (simp only [World.size_alloc, World.size_setCell, World.size_drew]; omega) | (simp; done)))⟩
      all_goals rw [E1.out, E2.out]
    | false =>
      cases hv : (ver == v) with
      | true =>
        obtain ⟨e1, e2⟩ := sch_same (s := s) (v := v) (t := t) (d := d) (tr := tr) h0 hu hv; have E1 := Lib.hid e1; have E2 := Lib.hid e2; clear e1 e2
        clear h0
        go_enter Try.func18, Try.ntmps18
        go_wp2_with (first | (go_at_call 15; refine (in_any _ _ _ _).mono ?_; rintro e w' ⟨rfl, rfl⟩) | (go_at_call 16; refine (ruw_any _ _ _ _ _ _).mono ?_; rintro e w1 ⟨rfl, hb1⟩; obtain ⟨hc1, hf1⟩ := bcell hb1; have hs1 := hb1.size; (try simp only [World.size_alloc, World.size_drew, World.size_setCell] at hs1); have hB1 := below_step (w := w) hb1 (by (repeat' (first | (with_reducible exact Below.refl _ _) | (with_reducible assumption) | (with_reducible refine Below.alloc ?_ ?_ _) | (with_reducible refine Below.drew ?_) | (with_reducible refine Below.setCell ?_ ?_ _) | (with_reducible exact Nat.le_refl _) | omega | (simp only [World.size_alloc, World.size_setCell, World.size_drew]; omega) | (simp; done)))); have hS1 := hB1.size; have hz1_0 : w.heap.size < w1.heap.size := (by omega); have hy1_0 : w.heap.size ≤ w1.heap.size := (by omega); have hx1_0 : w.heap.size ≤ w1.heap.size + 1 := (by omega); have hz1_1 : w.heap.size + 1 < w1.heap.size := (by omega); have hy1_1 : w.heap.size + 1 ≤ w1.heap.size := (by omega); have hx1_1 : w.heap.size + 1 ≤ w1.heap.size + 1 := (by omega); have kc1_0_0 := hc1 (w.heap.size) 0 (by first | (simp; done) | (simp; omega) | omega); have kf1_0_0 := hf1 (w.heap.size) 0 (by first | (simp; done) | (simp; omega) | omega); (try simp [go_sem] at kc1_0_0); (try simp [go_sem] at kf1_0_0); have kc1_0_1 := hc1 (w.heap.size) 1 (by first | (simp; done) | (simp; omega) | omega); have kf1_0_1 := hf1 (w.heap.size) 1 (by first | (simp; done) | (simp; omega) | omega); (try simp [go_sem] at kc1_0_1); (try simp [go_sem] at kf1_0_1); have kc1_0_2 := hc1 (w.heap.size) 2 (by first | (simp; done) | (simp; omega) | omega); have kf1_0_2 := hf1 (w.heap.size) 2 (by first | (simp; done) | (simp; omega) | omega); (try simp [go_sem] at kc1_0_2); (try simp [go_sem] at kf1_0_2); have kc1_0_3 := hc1 (w.heap.size) 3 (by first | (simp; done) | (simp; omega) | omega); have kf1_0_3 := hf1 (w.heap.size) 3 (by first | (simp; done) | (simp; omega) | omega); (try simp [go_sem] at kc1_0_3); (try simp [go_sem] at kf1_0_3); have kc1_0_4 := hc1 (w.heap.size) 4 (by first | (simp; done) | (simp; omega) | omega); have kf1_0_4 := hf1 (w.heap.size) 4 (by first | (simp; done) | (simp; omega) | omega); (try simp [go_sem] at kc1_0_4); (try simp [go_sem] at kf1_0_4); have kc1_1_0 := hc1 (w.heap.size + 1) 0 (by first | (simp; done) | (simp; omega) | omega); have kf1_1_0 := hf1 (w.heap.size + 1) 0 (by first | (simp; done) | (simp; omega) | omega); (try simp [go_sem] at kc1_1_0); (try simp [go_sem] at kf1_1_0); have kc1_1_1 := hc1 (w.heap.size + 1) 1 (by first | (simp; done) | (simp; omega) | omega); have kf1_1_1 := hf1 (w.heap.size + 1) 1 (by first | (simp; done) | (simp; omega) | omega); (try simp [go_sem] at kc1_1_1); (try simp [go_sem] at kf1_1_1); have kc1_1_2 := hc1 (w.heap.size + 1) 2 (by first | (simp; done) | (simp; omega) | omega); have kf1_1_2 := hf1 (w.heap.size + 1) 2 (by first | (simp; done) | (simp; omega) | omega); (try simp [go_sem] at kc1_1_2); (try simp [go_sem] at kf1_1_2); have kc1_1_3 := hc1 (w.heap.size + 1) 3 (by first | (simp; done) | (simp; omega) | omega); have kf1_1_3 := hf1 (w.heap.size + 1) 3 (by first | (simp; done) | (simp; omega) | omega); (try simp [go_sem] at kc1_1_3); (try simp [go_sem] at kf1_1_3); have kc1_1_4 := hc1 (w.heap.size + 1) 4 (by first | (simp; done) | (simp; omega) | omega); have kf1_1_4 := hf1 (w.heap.size + 1) 4 (by first | (simp; done) | (simp; omega) | omega); (try simp [go_sem] at kc1_1_4); (try simp [go_sem] at kf1_1_4)))
        all_goals first | (exfalso; omega) | skip
        all_goals refine bodyPost_ret (by simp [results, Try.results18, go_sem, *]; try rfl) rfl ?_
        all_goals refine ⟨?_, by (repeat' (first | (with_reducible exact Below.refl _ _) | (with_reducible assumption) | (with_reducible refine Below.alloc ?_ ?_ _) | (with_reducible refine Below.drew ?_) | (with_reducible refine Below.setCell ?_ ?_ _) | (with_reducible exact Nat.le_refl _) | omega | (simp only [World.size_alloc, World.size_setCell, World.size_drew]; omega) | (simp; done)))⟩
        all_goals rw [E1.out, E2.out]
      | false =>
        obtain ⟨e1, e2⟩ := sch_ok (s := s) (v := v) (t := t) (d := d) (tr := tr) h0 hu hv; have E1 := Lib.hid e1; have E2 := Lib.hid e2; clear e1 e2
        clear h0
        go_enter Try.func18, Try.ntmps18
        go_wp2_with (first | (go_at_call 15; refine (in_any _ _ _ _).mono ?_; rintro e w' ⟨rfl, rfl⟩) | (go_at_call 16; refine (ruw_any _ _ _ _ _ _).mono ?_; rintro e w1 ⟨rfl, hb1⟩; obtain ⟨hc1, hf1⟩ := bcell hb1; have hs1 := hb1.size; (try simp only [World.size_alloc, World.size_drew, World.size_setCell] at hs1); have hB1 := below_step (w := w) hb1 (by (repeat' (first | (with_reducible exact Below.refl _ _) | (with_reducible assumption) | (with_reducible refine Below.alloc ?_ ?_ _) | (with_reducible refine Below.drew ?_) | (with_reducible refine Below.setCell ?_ ?_ _) | (with_reducible exact Nat.le_refl _) | omega | (simp only [World.size_alloc, World.size_setCell, World.size_drew]; omega) | (simp; done)))); have hS1 := hB1.size; have hz1_0 : w.heap.size < w1.heap.size := (by omega); have hy1_0 : w.heap.size ≤ w1.heap.size := (by omega); have hx1_0 : w.heap.size ≤ w1.heap.size + 1 := (by omega); have hz1_1 : w.heap.size + 1 < w1.heap.size := (by omega); have hy1_1 : w.heap.size + 1 ≤ w1.heap.size := (by omega); have hx1_1 : w.heap.size + 1 ≤ w1.heap.size + 1 := (by omega); have kc1_0_0 := hc1 (w.heap.size) 0 (by first | (simp; done) | (simp; omega) | omega); have kf1_0_0 := hf1 (w.heap.size) 0 (by first | (simp; done) | (simp; omega) | omega); (try simp [go_sem] at kc1_0_0); (try simp [go_sem] at kf1_0_0); have kc1_0_1 := hc1 (w.heap.size) 1 (by first | (simp; done) | (simp; omega) | omega); have kf1_0_1 := hf1 (w.heap.size) 1 (by first | (simp; done) | (simp; omega) | omega); (try simp [go_sem] at kc1_0_1); (try simp [go_sem] at kf1_0_1); have kc1_0_2 := hc1 (w.heap.size) 2 (by first | (simp; done) | (simp; omega) | omega); have kf1_0_2 := hf1 (w.heap.size) 2 (by first | (simp; done) | (simp; omega) | omega); (try simp [go_sem] at kc1_0_2); (try simp [go_sem] at kf1_0_2); have kc1_0_3 := hc1 (w.heap.size) 3 (by first | (simp; done) | (simp; omega) | omega); have kf1_0_3 := hf1 (w.heap.size) 3 (by first | (simp; done) | (simp; omega) | omega); (try simp [go_sem] at kc1_0_3); (try simp [go_sem] at kf1_0_3); have kc1_0_4 := hc1 (w.heap.size) 4 (by first | (simp; done) | (simp; omega) | omega); have kf1_0_4 := hf1 (w.heap.size) 4 (by first | (simp; done) | (simp; omega) | omega); (try simp [go_sem] at kc1_0_4); (try simp [go_sem] at kf1_0_4); have kc1_1_0 := hc1 (w.heap.size + 1) 0 (by first | (simp; done) | (simp; omega) | omega); have kf1_1_0 := hf1 (w.heap.size + 1) 0 (by first | (simp; done) | (simp; omega) | omega); (try simp [go_sem] at kc1_1_0); (try simp [go_sem] at kf1_1_0); have kc1_1_1 := hc1 (w.heap.size + 1) 1 (by first | (simp; done) | (simp; omega) | omega); have kf1_1_1 := hf1 (w.heap.size + 1) 1 (by first | (simp; done) | (simp; omega) | omega); (try simp [go_sem] at kc1_1_1); (try simp [go_sem] at kf1_1_1); have kc1_1_2 := hc1 (w.heap.size + 1) 2 (by first | (simp; done) | (simp; omega) | omega); have kf1_1_2 := hf1 (w.heap.size + 1) 2 (by first | (simp; done) | (simp; omega) | omega); (try simp [go_sem] at kc1_1_2); (try simp [go_sem] at kf1_1_2); have kc1_1_3 := hc1 (w.heap.size + 1) 3 (by first | (simp; done) | (simp; omega) | omega); have kf1_1_3 := hf1 (w.heap.size + 1) 3 (by first | (simp; done) | (simp; omega) | omega); (try simp [go_sem] at kc1_1_3); (try simp [go_sem] at kf1_1_3); have kc1_1_4 := hc1 (w.heap.size + 1) 4 (by first | (simp; done) | (simp; omega) | omega); have kf1_1_4 := hf1 (w.heap.size + 1) 4 (by first | (simp; done) | (simp; omega) | omega); (try simp [go_sem] at kc1_1_4); (try simp [go_sem] at kf1_1_4)))
        all_goals first | (exfalso; omega) | skip
        all_goals refine bodyPost_ret (by simp [results, Try.results18, go_sem, *]; try rfl) rfl ?_
        all_goals refine ⟨?_, by (repeat' (first | (with_reducible exact Below.refl _ _) | (with_reducible assumption) | (with_reducible refine Below.alloc ?_ ?_ _) | (with_reducible refine Below.drew ?_) | (with_reducible refine Below.setCell ?_ ?_ _) | (with_reducible exact Nat.le_refl _) | omega | (simp only [World.size_alloc, World.size_setCell, World.size_drew]; omega) | (simp; done)))⟩
        all_goals rw [E1.out, E2.out]
  · obtain ⟨e1, e2⟩ := sch_bad (s := s) (v := v) (t := t) (d := d) (tr := tr) h; have E1 := Lib.hid e1; have E2 := Lib.hid e2; clear e1 e2
    go_enter Try.func18, Try.ntmps18
    go_wp2_with (first | (go_at_call 15; refine (in_any _ _ _ _).mono ?_; rintro e w' ⟨rfl, rfl⟩) | (go_at_call 16; refine (ruw_any _ _ _ _ _ _).mono ?_; rintro e w1 ⟨rfl, hb1⟩; obtain ⟨hc1, hf1⟩ := bcell hb1; have hs1 := hb1.size; (try simp only [World.size_alloc, World.size_drew, World.size_setCell] at hs1); have hB1 := below_step (w := w) hb1 (by (repeat' (first | (with_reducible exact Below.refl _ _) | (with_reducible assumption) | (with_reducible refine Below.alloc ?_ ?_ _) | (with_reducible refine Below.drew ?_) | (with_reducible refine Below.setCell ?_ ?_ _) | (with_reducible exact Nat.le_refl _) | omega | (simp only [World.size_alloc, World.size_setCell, World.size_drew]; omega) | (simp; done)))); have hS1 := hB1.size; have hz1_0 : w.heap.size < w1.heap.size := (by omega); have hy1_0 : w.heap.size ≤ w1.heap.size := (by omega); have hx1_0 : w.heap.size ≤ w1.heap.size + 1 := (by omega); have hz1_1 : w.heap.size + 1 < w1.heap.size := (by omega); have hy1_1 : w.heap.size + 1 ≤ w1.heap.size := (by omega); have hx1_1 : w.heap.size + 1 ≤ w1.heap.size + 1 := (by omega); have kc1_0_0 := hc1 (w.heap.size) 0 (by first | (simp; done) | (simp; omega) | omega); have kf1_0_0 := hf1 (w.heap.size) 0 (by first | (simp; done) | (simp; omega) | omega); (try simp [go_sem] at kc1_0_0); (try simp [go_sem] at kf1_0_0); have kc1_0_1 := hc1 (w.heap.size) 1 (by first | (simp; done) | (simp; omega) | omega); have kf1_0_1 := hf1 (w.heap.size) 1 (by first | (simp; done) | (simp; omega) | omega); (try simp [go_sem] at kc1_0_1); (try simp [go_sem] at kf1_0_1); have kc1_0_2 := hc1 (w.heap.size) 2 (by first | (simp; done) | (simp; omega) | omega); have kf1_0_2 := hf1 (w.heap.size) 2 (by first | (simp; done) | (simp; omega) | omega); (try simp [go_sem] at kc1_0_2); (try simp [go_sem] at kf1_0_2); have kc1_0_3 := hc1 (w.heap.size) 3 (by first | (simp; done) | (simp; omega) | omega); have kf1_0_3 := hf1 (w.heap.size) 3 (by first | (simp; done) | (simp; omega) | omega); (try simp [go_sem] at kc1_0_3); (try simp [go_sem] at kf1_0_3); have kc1_0_4 := hc1 (w.heap.size) 4 (by first | (simp; done) | (simp; omega) | omega); have kf1_0_4 := hf1 (w.heap.size) 4 (by first | (simp; done) | (simp; omega) | omega); (try simp [go_sem] at kc1_0_4); (try simp [go_sem] at kf1_0_4); have kc1_1_0 := hc1 (w.heap.size + 1) 0 (by first | (simp; done) | (simp; omega) | omega); have kf1_1_0 := hf1 (w.heap.size + 1) 0 (by first | (simp; done) | (simp; omega) | omega); (try simp [go_sem] at kc1_1_0); (try simp [go_sem] at kf1_1_0); have kc1_1_1 := hc1 (w.heap.size + 1) 1 (by first | (simp; done) | (simp; omega) | omega); have kf1_1_1 := hf1 (w.heap.size + 1) 1 (by first | (simp; done) | (simp; omega) | omega); (try simp [go_sem] at kc1_1_1); (try simp [go_sem] at kf1_1_1); have kc1_1_2 := hc1 (w.heap.size + 1) 2 (by first | (simp; done) | (simp; omega) | omega); have kf1_1_2 := hf1 (w.heap.size + 1) 2 (by first | (simp; done) | (simp; omega) | omega); (try simp [go_sem] at kc1_1_2); (try simp [go_sem] at kf1_1_2); have kc1_1_3 := hc1 (w.heap.size + 1) 3 (by first | (simp; done) | (simp; omega) | omega); have kf1_1_3 := hf1 (w.heap.size + 1) 3 (by first | (simp; done) | (simp; omega) | omega); (try simp [go_sem] at kc1_1_3); (try simp [go_sem] at kf1_1_3); have kc1_1_4 := hc1 (w.heap.size + 1) 4 (by first | (simp; done) | (simp; omega) | omega); have kf1_1_4 := hf1 (w.heap.size + 1) 4 (by first | (simp; done) | (simp; omega) | omega); (try simp [go_sem] at kc1_1_4); (try simp [go_sem] at kf1_1_4)))
    all_goals first | (exfalso; omega) | skip
    all_goals refine bodyPost_ret (by simp [results, Try.results18, go_sem, *]; try rfl) rfl ?_
    all_goals refine ⟨?_, by (repeat' (first | (with_reducible exact Below.refl _ _) | (with_reducible assumption) | (with_reducible refine Below.alloc ?_ ?_ _) | (with_reducible refine Below.drew ?_) | (with_reducible refine Below.setCell ?_ ?_ _) | (with_reducible exact Nat.le_refl _) | omega | (simp only [World.size_alloc, World.size_setCell, World.size_drew]; omega) | (simp; done)))⟩
    all_goals rw [E1.out, E2.out]
set_option maxHeartbeats 1000000 in
theorem can_any (s v t d tr : Int) (w : World) : Calls Try.prog 17 #[.agg #[.int .i64 s, .int .i64 v, .int .i64 t, .int .i64 d, .int .i64 tr]] w fun e w' => e = .returned (.tuple #[.agg #[.int .i64 (can ⟨s, v, t, d, tr⟩).s, .int .i64 (can ⟨s, v, t, d, tr⟩).v, .int .i64 (can ⟨s, v, t, d, tr⟩).t, .int .i64 (can ⟨s, v, t, d, tr⟩).d, .int .i64 (can ⟨s, v, t, d, tr⟩).tr], .int .i64 (canE ⟨s, v, t, d, tr⟩)]) ∧ Below w.heap.size w w' := by
  by_cases h : s = 1 ∨ s = 2 ∨ s = 3
  · have E : canE ⟨s, v, t, d, tr⟩ = 0 ∧ can ⟨s, v, t, d, tr⟩ = ⟨0, v, 0, 0, 0⟩ := by rcases h with rfl | rfl | rfl <;> exact ⟨rfl, rfl⟩
    have E1 := Lib.hid E.1
    have E2 := Lib.hid E.2
    clear E
    rcases h with rfl | rfl | rfl
    all_goals
      go_enter Try.func17, Try.ntmps17
      go_wp2_with fail
      refine bodyPost_ret (by simp [results, Try.results17, go_sem, *]; try rfl) rfl ?_
      refine ⟨?_, by (repeat' (first | (with_reducible exact Below.refl _ _) | (with_reducible assumption) | (with_reducible refine Below.alloc ?_ ?_ _) | (with_reducible refine Below.drew ?_) | (with_reducible refine Below.setCell ?_ ?_ _) | (with_reducible exact Nat.le_refl _) | omega | (simp only [World.size_alloc, World.size_setCell, World.size_drew]; omega) | (simp; done)))⟩
      rw [E1.out, E2.out]
  · have E0 : canE ⟨s, v, t, d, tr⟩ = 10 := by unfold canE; rw [if_neg (by simp; omega)]
    have E : canE ⟨s, v, t, d, tr⟩ = 10 ∧ can ⟨s, v, t, d, tr⟩ = ⟨s, v, t, d, tr⟩ := ⟨E0, by unfold can; rw [E0]; rfl⟩
    have E1 := Lib.hid E.1
    have E2 := Lib.hid E.2
    clear E E0
    have n1 : (s == 1) = false := by rw [beq_eq_false_iff_ne]; omega
    have n2 : (s == 2) = false := by rw [beq_eq_false_iff_ne]; omega
    have n3 : (s == 3) = false := by rw [beq_eq_false_iff_ne]; omega
    have m1 : (s != 1) = true := by rw [bne_iff_ne]; omega
    have m2 : (s != 2) = true := by rw [bne_iff_ne]; omega
    have m3 : (s != 3) = true := by rw [bne_iff_ne]; omega
    go_enter Try.func17, Try.ntmps17
    go_wp2_with fail
    all_goals first | (exfalso; omega) | skip
    all_goals refine bodyPost_ret (by simp [results, Try.results17, go_sem, *]; try rfl) rfl ?_
    all_goals refine ⟨?_, by (repeat' (first | (with_reducible exact Below.refl _ _) | (with_reducible assumption) | (with_reducible refine Below.alloc ?_ ?_ _) | (with_reducible refine Below.drew ?_) | (with_reducible refine Below.setCell ?_ ?_ _) | (with_reducible exact Nat.le_refl _) | omega | (simp only [World.size_alloc, World.size_setCell, World.size_drew]; omega) | (simp; done)))⟩
    all_goals rw [E1.out, E2.out]
set_option maxHeartbeats 1000000 in
theorem rcan_any (s v t d tr : Int) (w : World) : Calls Try.prog 20 #[.agg #[.int .i64 s, .int .i64 v, .int .i64 t, .int .i64 d, .int .i64 tr]] w fun e w' => e = .returned (.tuple #[.agg #[.int .i64 (can ⟨s, v, t, d, tr⟩).s, .int .i64 (can ⟨s, v, t, d, tr⟩).v, .int .i64 (can ⟨s, v, t, d, tr⟩).t, .int .i64 (can ⟨s, v, t, d, tr⟩).d, .int .i64 (can ⟨s, v, t, d, tr⟩).tr], .int .i64 (canE ⟨s, v, t, d, tr⟩)]) ∧ Below w.heap.size w w' := by
  by_cases h : s = 1 ∨ s = 2 ∨ s = 3
  · have E : canE ⟨s, v, t, d, tr⟩ = 0 ∧ can ⟨s, v, t, d, tr⟩ = ⟨0, v, 0, 0, 0⟩ := by rcases h with rfl | rfl | rfl <;> exact ⟨rfl, rfl⟩
    have E1 := Lib.hid E.1
    have E2 := Lib.hid E.2
    clear E
    rcases h with rfl | rfl | rfl
    all_goals
      go_enter Try.func20, Try.ntmps20
      go_wp2_with (first | (go_at_call 15; refine (in_any _ _ _ _).mono ?_; rintro e w' ⟨rfl, rfl⟩))
      refine bodyPost_ret (by simp [results, Try.results20, go_sem, *]; try rfl) rfl ?_
      refine ⟨?_, by (repeat' (first | (with_reducible exact Below.refl _ _) | (with_reducible assumption) | (with_reducible refine Below.alloc ?_ ?_ _) | (with_reducible refine Below.drew ?_) | (with_reducible refine Below.setCell ?_ ?_ _) | (with_reducible exact Nat.le_refl _) | omega | (simp only [World.size_alloc, World.size_setCell, World.size_drew]; omega) | (simp; done)))⟩
      rw [E1.out, E2.out]
  · have E0 : canE ⟨s, v, t, d, tr⟩ = 10 := by unfold canE; rw [if_neg (by simp; omega)]
    have E : canE ⟨s, v, t, d, tr⟩ = 10 ∧ can ⟨s, v, t, d, tr⟩ = ⟨s, v, t, d, tr⟩ := ⟨E0, by unfold can; rw [E0]; rfl⟩
    have E1 := Lib.hid E.1
    have E2 := Lib.hid E.2
    clear E E0
    have n1 : (s == 1) = false := by rw [beq_eq_false_iff_ne]; omega
    have n2 : (s == 2) = false := by rw [beq_eq_false_iff_ne]; omega
    have n3 : (s == 3) = false := by rw [beq_eq_false_iff_ne]; omega
    have m1 : (s != 1) = true := by rw [bne_iff_ne]; omega
    have m2 : (s != 2) = true := by rw [bne_iff_ne]; omega
    have m3 : (s != 3) = true := by rw [bne_iff_ne]; omega
    go_enter Try.func20, Try.ntmps20
    go_wp2_with (first | (go_at_call 15; refine (in_any _ _ _ _).mono ?_; rintro e w' ⟨rfl, rfl⟩))
    all_goals first | (exfalso; omega) | skip
    all_goals refine bodyPost_ret (by simp [results, Try.results20, go_sem, *]; try rfl) rfl ?_
    all_goals refine ⟨?_, by (repeat' (first | (with_reducible exact Below.refl _ _) | (with_reducible assumption) | (with_reducible refine Below.alloc ?_ ?_ _) | (with_reducible refine Below.drew ?_) | (with_reducible refine Below.setCell ?_ ?_ _) | (with_reducible exact Nat.le_refl _) | omega | (simp only [World.size_alloc, World.size_setCell, World.size_drew]; omega) | (simp; done)))⟩
    all_goals rw [E1.out, E2.out]
end Go.Proofs.Ytokjokbbegcceaa
