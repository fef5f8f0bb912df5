/-
  Records carried in frames: plain facts. No conditions.
-/
import Derived.Test.YtfpmdfpnbegnhaaSy06f
import Derived.Test.YtfpmdfpnbegnhaaL7b
set_option maxRecDepth 100000
set_option linter.unusedSimpArgs false
set_option linter.unusedVariables false
namespace Go.Proofs.Ytfpmdfpnbegnhaa.L7
open Go.Proofs.Ytfpmdfpnbegnhaa.Sy Go.RowKit Go.WideShapes Go.ChangeShapes Go.ChangeAt
def recB (i : Nat) (b : List Int) : List Int := putS 1 ++ putD (putS i) ++ (putS 2 ++ putD b)
theorem put_two (i : Nat) (b : List Int) : putF [(1, putS i), (2, b)] = .ok (recB i b) := by
  simp [putF, putG, consA, recB]
theorem recB_len {i : Nat} {b : List Int} (h : b.length ≤ 300) : (recB i b).length ≤ 400 := by
  have e1 := putS_len 1
  have e2 := putS_len i
  have e3 := putS_len (putS i).length
  have e4 := putS_len 2
  have e5 := putS_len b.length
  simp only [recB, putD, List.length_append]
  omega
theorem recB_isB {i : Nat} {b : List Int} (hi : i ≤ 100) (hb : isB b) (h : b.length ≤ 300) : isB (recB i b) := by
  have e2 := putS_len i
  have h1 : isB (putS 1) := putS_isB (by unfold in64; omega)
  have h2 : isB (putS i) := putS_isB (by unfold in64; omega)
  have h3 : isB (putS (putS i).length) := putS_isB (by unfold in64; omega)
  have h4 : isB (putS 2) := putS_isB (by unfold in64; omega)
  have h5 : isB (putS b.length) := putS_isB (by unfold in64; omega)
  exact (h1.join (h3.join h2)).join (h4.join (h5.join hb))
theorem take_two {i : Nat} {b : List Int} (h : b.length ≤ 300) : takeF (recB i b) = .ok [(1, putS i), (2, b)] := by
  have hp := put_two i b
  have e2 := putS_len i
  have hG : putG 0 [(1, putS i), (2, b)] = .ok (recB i b) := by rw [← hp]; simp [putF]
  refine take_put _ _ _ _ _ ?_ hG (Nat.le_refl _) (by simp)
  intro x hx
  simp only [List.mem_cons, List.not_mem_nil, or_false] at hx
  rcases hx with rfl | rfl
  · simp only []; omega
  · simp only []; omega
theorem takeInt_put {i : Nat} (h : i ≤ 100) : takeIntS (putS i) = ((i : Int), 0) := by
  have := read_put (n := (i : Int)) (by unfold in64; omega) []
  rw [List.append_nil] at this
  simp [takeIntS, this]
/-! the stream -/
def rec1 (l : List (List Int)) (i : Nat) : List Int := recB i (l.getD i [])
def recs (l : List (List Int)) (k : Nat) : List (List Int) := (List.range k).map (rec1 l)
def strm (l : List (List Int)) (k : Nat) : List Int := (recs l k).flatMap packS
theorem strm_next (l : List (List Int)) (k : Nat) : strm l (k + 1) = strm l k ++ packS (rec1 l k) := by
  simp [strm, recs, List.range_succ]
theorem recs_get {l : List (List Int)} {m i : Nat} (h : i < m) : (recs l m).getD i [] = rec1 l i := by
  simp [recs, List.getD_eq_getElem?_getD, h]
theorem pack_len {p : List Int} (h : p.length ≤ 400) : (packS p).length ≤ 806 := by
  have := stuff_len (withSum p (sumS p))
  rw [withSum_len] at this
  unfold packS
  omega
theorem frame1 {p : List Int} {cur : Option (List Int)} {out : List (List Int)} (hc : bare cur) (hp : p.length ≤ 400) : (packS p).foldl scan1 (cur, out) = (some [192], out ++ [p]) := by
  have := fold_frame (junk := []) (out := out) hc (by simp) (by intro q; simp [unpackS, decS]) (show p.length ≤ 4096 by omega)
  simpa using this
theorem frames_all : ∀ (ps : List (List Int)) (cur : Option (List Int)) (out : List (List Int)), (∀ p ∈ ps, p.length ≤ 400) → bare cur → ((ps.flatMap packS).foldl scan1 (cur, out)).2 = out ++ ps
  | [], cur, out, _, _ => by simp
  | p :: ps, cur, out, h, hc => by
    rw [List.flatMap_cons, List.foldl_append, frame1 hc (h p (by simp)), frames_all ps (some [192]) (out ++ [p]) (fun q hq => h q (by simp [hq])) (show bare (some [192]) from rfl)]
    simp
theorem curOK_len {n : Nat} {cur : Option (List Int)} (h : curOK n cur) : (segS cur).length ≤ n := by
  cases cur with
  | none => simp [segS]
  | some seg => obtain ⟨u, _, _, hl⟩ := h; exact hl
theorem bare_ok {cur : Option (List Int)} (h : bare cur) : curOK 1 cur := by
  cases cur with
  | none => trivial
  | some seg =>
    have : seg = [192] := h
    subst this
    exact ⟨[], rfl, by simp, by simp⟩
theorem frames_short : ∀ (ps : List (List Int)) (k : Nat) (cur : Option (List Int)) (out : List (List Int)), (∀ p ∈ ps, p.length ≤ 400) → bare cur → (segS (((ps.flatMap packS).take k).foldl scan1 (cur, out)).1).length ≤ 8198
  | [], k, cur, out, _, hc => by
    have := curOK_len (bare_ok hc)
    simp only [List.flatMap_nil, List.take_nil, List.foldl_nil]
    omega
  | p :: ps, k, cur, out, h, hc => by
    have hp := h p (by simp)
    have hl := pack_len hp
    rw [List.flatMap_cons, List.take_append]
    by_cases hk : k ≤ (packS p).length
    · rw [show k - (packS p).length = 0 by omega, List.take_zero, List.append_nil]
      have h1 := curOK_len (fold_cur ((packS p).take k) 1 cur out (bare_ok hc))
      rw [List.length_take] at h1
      omega
    · rw [List.take_of_length_le (by omega), List.foldl_append, frame1 hc hp]
      exact frames_short ps _ (some [192]) (out ++ [p]) (fun q hq => h q (by simp [hq])) (show bare (some [192]) from rfl)
def cu (S : List Int) (k : Nat) : Option (List Int) × List (List Int) := (S.take k).foldl scan1 (none, [])
theorem cu_next (S : List Int) (k n : Nat) : cu S (k + n) = ((((S.drop k).take n).foldl scan1 ((cu S k).1, [])).1, (cu S k).2 ++ (((S.drop k).take n).foldl scan1 ((cu S k).1, [])).2) := by
  have e : S.take (k + n) = S.take k ++ (S.drop k).take n := List.take_add
  have h : cu S (k + n) = ((S.drop k).take n).foldl scan1 ((cu S k).1, (cu S k).2) := by
    show (S.take (k + n)).foldl scan1 (none, []) = _
    rw [e, List.foldl_append]
    rfl
  rw [h]
  exact fold_out _ _ _
def news (S : List Int) (k n : Nat) : List (List Int) := (((S.drop k).take n).foldl scan1 ((cu S k).1, [])).2
theorem feed_next {S : List Int} {k n : Nat} (hs : (segS (cu S (k + n)).1).length ≤ 8198) : feedS (segS (cu S k).1 ++ (S.drop k).take n) = (segS (cu S (k + n)).1, news S k n) := by
  have hc : curOK (0 + (S.take k).length) (cu S k).1 := fold_cur _ 0 none [] trivial
  have hn := cu_next S k n
  simp only [feedS, List.foldl_append]
  rw [fold_again hc]
  have h1 : (((S.drop k).take n).foldl scan1 ((cu S k).1, [])).1 = (cu S (k + n)).1 := by rw [hn]
  rw [h1]
  refine Prod.ext ?_ rfl
  simp only []
  cases hcur : (cu S (k + n)).1 with
  | none => rfl
  | some seg =>
    rw [hcur] at hs
    simp only [restS, segS] at hs ⊢
    rw [if_pos hs]
theorem cu_pre {S : List Int} {ps : List (List Int)} (h : (S.foldl scan1 (none, [])).2 = ps) (k : Nat) : ∃ t, ps = (cu S k).2 ++ t := by
  have e := List.take_append_drop k S
  rw [← e, List.foldl_append] at h
  have h2 : (S.take k).foldl scan1 (none, []) = ((cu S k).1, (cu S k).2) := rfl
  rw [h2, fold_out] at h
  exact ⟨_, h.symm⟩
theorem getD_mid (a o t : List (List Int)) {j : Nat} (h : j < o.length) : (a ++ o ++ t).getD (a.length + j) [] = o.getD j [] := by
  simp [List.getD_eq_getElem?_getD, List.append_assoc, List.getElem?_append_right, List.getElem?_append_left, h]
end Go.Proofs.Ytfpmdfpnbegnhaa.L7
