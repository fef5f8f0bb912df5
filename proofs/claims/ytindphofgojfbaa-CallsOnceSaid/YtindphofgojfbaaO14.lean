/-
  CallsOnce: plain facts on the two endpoints. No conditions.
-/
import Derived.Test.YtindphofgojfbaaC27
set_option maxRecDepth 100000
set_option linter.unusedSimpArgs false
set_option linter.unusedVariables false
namespace Go.Proofs.Ytindphofgojfbaa.O14
open Go.Proofs.Ytindphofgojfbaa Go.Proofs.Ytindphofgojfbaa.Sy Go.Proofs.Ytindphofgojfbaa.L7 Go.Proofs.Ytindphofgojfbaa.Id Go.Proofs.Ytindphofgojfbaa.R26 Go.Proofs.Ytindphofgojfbaa.V26 Go.Proofs.Ytindphofgojfbaa.N27 Go.Proofs.Ytindphofgojfbaa.C27 Go.RowKit Go.WideShapes Go.ChangeShapes Go.ChangeAt
def beatM (i : Int) : Msg := ⟨1, i, 2, 0, 0, 0, 0, 0, ⟨#[]⟩, ⟨#[]⟩, ⟨#[]⟩, false, [], prof0, []⟩
def resM (i : Int) : Msg := ⟨2, i, 2, 0, 1, 0, 0, 0, ⟨#[]⟩, ⟨#[]⟩, ⟨#[]⟩, false, [], prof0, []⟩
theorem in0 : inI 0 := by unfold inI; omega
theorem in1 : inI 1 := by unfold inI; omega
theorem in2 : inI 2 := by unfold inI; omega
theorem prof0_T : PrT prof0 := ⟨in0, in0, in0, in0, in0, (show (0 : Nat) ≤ maxLen by decide), in0, in0, in0, in0, (show (0 : Nat) ≤ maxLen by decide), fun x hx => by cases hx⟩
theorem beat_b {i : Int} (h : inI i) : MsB (beatM i) := ⟨⟨in1, h, in2, in0, in0, in0, in0, in0, (show (0 : Nat) ≤ maxLen by decide), (show (0 : Nat) ≤ maxLen by decide), (show (0 : Nat) ≤ maxLen by decide), ⟨(show (0 : Nat) ≤ maxLen by decide), fun x hx => by cases hx⟩, prof0_T, (show (0 : Nat) ≤ maxLen by decide), fun x hx => by cases hx⟩, Nat.zero_le _, Nat.zero_le _, Nat.zero_le _⟩
theorem res_b {i : Int} (h : inI i) : MsB (resM i) := ⟨⟨in2, h, in2, in0, in1, in0, in0, in0, (show (0 : Nat) ≤ maxLen by decide), (show (0 : Nat) ≤ maxLen by decide), (show (0 : Nat) ≤ maxLen by decide), ⟨(show (0 : Nat) ≤ maxLen by decide), fun x hx => by cases hx⟩, prof0_T, (show (0 : Nat) ≤ maxLen by decide), fun x hx => by cases hx⟩, Nat.zero_le _, Nat.zero_le _, Nat.zero_le _⟩
theorem beat_ok {i : Int} (h1 : 1 ≤ i) (h2 : i ≤ 2147483647) : msgS (beatM i) = 0 := by
  have hf : fulL (beatM i) = List.replicate 12 false := by kernel_rfl
  have hx : exB (beatM i) = false := by unfold exB; rw [hf]; kernel_rfl
  have hn : numE (beatM i) [] = 0 := by unfold numE; rw [if_neg (by simp [mi])]
  have ht : txtE (beatM i) [] = 0 := by unfold txtE; rw [if_neg (by simp [mi])]
  unfold msgS
  rw [if_neg (show ¬ ((beatM i).ki < 1 ∨ 3 < (beatM i).ki) from (by show ¬ ((1 : Int) < 1 ∨ 3 < (1 : Int)); omega)), if_neg (show ¬ ((beatM i).id < 1 ∨ 2147483647 < (beatM i).id) from (by show ¬ (i < 1 ∨ 2147483647 < i); omega)), if_neg (show ¬ actP (beatM i).ac = false from (by show ¬ actP 2 = false; decide)), if_neg (show ¬ (64 < ((beatM i).rd.length : Int) ∨ 64 < ((beatM i).tks.length : Int)) from (by show ¬ (64 < ((0 : Nat) : Int) ∨ 64 < ((0 : Nat) : Int)); omega)), if_neg (by rw [hx]; decide)]
  show (if numE (beatM i) [] ≠ 0 then numE (beatM i) [] else if txtE (beatM i) [] ≠ 0 then txtE (beatM i) [] else lisE (beatM i) []) = 0
  rw [if_neg (fun c => c hn), if_neg (fun c => c ht)]
  unfold lisE
  rw [if_neg (show ¬ (beatM i).rd.all rdgB = false from (by show ¬ ([] : List (Int × Int)).all rdgB = false; decide)), if_neg (by simp [mi])]
  rfl
theorem res_ok {i : Int} (h1 : 1 ≤ i) (h2 : i ≤ 2147483647) : msgS (resM i) = 0 := by
  have hx : exB (resM i) = false := by
    have hf : fulL (resM i) = [false, true, false, false, false, false, false, false, false, false, false, false] := by kernel_rfl
    unfold exB
    rw [hf]
    show extS [5, 7, 8, 11] 0 [false, true, false, false, false, false, false, false, false, false, false, false] = false
    decide
  have hn : numE (resM i) [5, 7, 8, 11] = 0 := by
    have e4 : mi [5, 7, 8, 11] 4 = 0 := by decide
    have e6 : mi [5, 7, 8, 11] 6 = 0 := by decide
    have f1 : (resM i).st = 1 := rfl
    have f2 : (resM i).at' = 0 := rfl
    have f3 : (resM i).va = 0 := rfl
    have f4 : (resM i).ki = 2 := rfl
    unfold numE
    rw [if_neg (by rw [e4, e6, f1, f2, f3, f4]; omega)]
  have ht : txtE (resM i) [5, 7, 8, 11] = 0 := by
    have e4 : mi [5, 7, 8, 11] 9 = 0 := by decide
    have e6 : mi [5, 7, 8, 11] 10 = 0 := by decide
    have f1 : (resM i).te.size = 0 := rfl
    have f4 : (resM i).ki = 2 := rfl
    unfold txtE
    rw [if_neg (by rw [e4, e6, f1, f4]; omega)]
  unfold msgS
  rw [if_neg (show ¬ ((resM i).ki < 1 ∨ 3 < (resM i).ki) from (by show ¬ ((2 : Int) < 1 ∨ 3 < (2 : Int)); omega)), if_neg (show ¬ ((resM i).id < 1 ∨ 2147483647 < (resM i).id) from (by show ¬ (i < 1 ∨ 2147483647 < i); omega)), if_neg (show ¬ actP (resM i).ac = false from (by show ¬ actP 2 = false; decide)), if_neg (show ¬ (64 < ((resM i).rd.length : Int) ∨ 64 < ((resM i).tks.length : Int)) from (by show ¬ (64 < ((0 : Nat) : Int) ∨ 64 < ((0 : Nat) : Int)); omega)), if_neg (by rw [hx]; decide)]
  show (if numE (resM i) [5, 7, 8, 11] ≠ 0 then numE (resM i) [5, 7, 8, 11] else if txtE (resM i) [5, 7, 8, 11] ≠ 0 then txtE (resM i) [5, 7, 8, 11] else lisE (resM i) [5, 7, 8, 11]) = 0
  rw [if_neg (fun c => c hn), if_neg (fun c => c ht)]
  unfold lisE
  rw [if_neg (show ¬ (resM i).rd.all rdgB = false from (by show ¬ ([] : List (Int × Int)).all rdgB = false; decide)), if_neg (show ¬ (mi [5, 7, 8, 11] 14 = 1 ∧ profS (resM i).p ≠ 0) from fun c => absurd c.1 (by decide))]
  rfl
/-- the calls after the k-th, c of them -/
def bts (k : Nat) : Nat → List Msg
  | 0 => []
  | c + 1 => beatM ((k + 1 : Nat) : Int) :: bts (k + 1) c
theorem bts_snoc : ∀ (c k : Nat), bts k c ++ [beatM ((k + c + 1 : Nat) : Int)] = bts k (c + 1)
  | 0, k => rfl
  | c + 1, k => by
    have h := bts_snoc c (k + 1)
    rw [show k + 1 + c + 1 = k + (c + 1) + 1 from by omega] at h
    show beatM ((k + 1 : Nat) : Int) :: (bts (k + 1) c ++ _) = beatM ((k + 1 : Nat) : Int) :: bts (k + 1) (c + 1)
    rw [h]
theorem bts_len : ∀ (c k : Nat), (bts k c).length = c
  | 0, _ => rfl
  | c + 1, k => by simp only [bts, List.length_cons, bts_len c (k + 1)]
theorem bts_b : ∀ (c k : Nat), k + c ≤ 1000 → ∀ m ∈ bts k c, MsB m
  | 0, _, _, m, h => by cases h
  | c + 1, k, hk, m, h => by
    rcases List.mem_cons.1 h with rfl | h
    · exact beat_b (by unfold inI; omega)
    · exact bts_b c (k + 1) (by omega) m h
structure Cfg (T R : Int) (n : Nat) : Prop where
  t : T = 3
  r : R = 2
  n : n ≤ 10
/-- waiting for nothing: k calls have ended -/
def aI (T R : Int) (n k : Nat) : Ep := ⟨(n : Int) + 1, T, R, bts k (n - k), [], 0, 0, []⟩
/-- call k + 1 waits for its result -/
def aB (T R : Int) (n k : Nat) (d u : Int) : Ep := ⟨(n : Int) + 1, T, R, bts (k + 1) (n - (k + 1)), [beatM ((k + 1 : Nat) : Int)], d, u, []⟩
inductive AS (T R : Int) (n : Nat) (now : Int) : Ep → Nat → Prop
  | idle (k : Nat) (hk : k ≤ n) (h : k < n → now + ((n - k : Nat) : Int) * ((R + 1) * T + 1) ≤ n * ((R + 1) * T + 1)) : AS T R n now (aI T R n k) k
  | busy (k : Nat) (d u : Int) (hk : k + 1 ≤ n) (h1 : 1 ≤ u) (h2 : u ≤ R + 1) (h3 : now ≤ d) (h0 : d ≤ 300) (h : d + (R + 1 - u) * T + 1 + ((n - (k + 1) : Nat) : Int) * ((R + 1) * T + 1) ≤ n * ((R + 1) * T + 1)) : AS T R n now (aB T R n k d u) k
theorem AS.kn {T R : Int} {n k : Nat} {now : Int} {a : Ep} (h : AS T R n now a k) : k ≤ n := by cases h <;> omega
theorem aI_b {T R : Int} {n k : Nat} (c : Cfg T R n) : EpB (aI T R n k) := by
  have hn := c.n
  by_cases hk : k ≤ n
  · exact ⟨by show (bts k (n - k)).length ≤ _; rw [bts_len]; omega, Nat.zero_le _, Nat.zero_le _, bts_b _ _ (by omega), (fun x hx => by cases hx), (fun x hx => by cases hx)⟩
  · have e : n - k = 0 := by omega
    refine ⟨by show (bts k (n - k)).length ≤ _; rw [bts_len]; omega, Nat.zero_le _, Nat.zero_le _, ?_, (fun x hx => by cases hx), (fun x hx => by cases hx)⟩
    show ∀ m ∈ bts k (n - k), MsB m
    rw [e]
    intro m hm
    cases hm
theorem aB_b {T R : Int} {n k : Nat} {d u : Int} (c : Cfg T R n) (hk : k + 1 ≤ n) : EpB (aB T R n k d u) := by
  have hn := c.n
  exact ⟨by show (bts (k + 1) (n - (k + 1))).length ≤ _; rw [bts_len]; omega, by show 1 ≤ _; omega, Nat.zero_le _, bts_b _ _ (by omega), (fun x hx => by rw [List.mem_singleton.1 hx]; exact beat_b (by unfold inI; omega)), (fun x hx => by cases hx)⟩
structure AB (a : Ep) : Prop where
  b : EpB a
  o : a.ou.length ≤ 1
  q : a.qu.length ≤ 1000
  t : 0 ≤ a.tm ∧ a.tm ≤ 1000
  u : 0 ≤ a.tr ∧ a.tr ≤ 1000
theorem AS.ab {T R : Int} {n k : Nat} {now : Int} {a : Ep} (c : Cfg T R n) (h : AS T R n now a k) : AB a := by
  have hn := c.n
  have ht := c.t
  have hr := c.r
  cases h with
  | idle k hk h => exact ⟨aI_b c, Nat.zero_le _, by show (bts k (n - k)).length ≤ _; rw [bts_len]; omega, by show 0 ≤ T ∧ T ≤ 1000; omega, by show (0 : Int) ≤ 0 ∧ (0 : Int) ≤ 1000; omega⟩
  | busy k d u hk h1 h2 h3 h0 h => exact ⟨aB_b c hk, Nat.le_refl _, by show (bts _ _).length ≤ _; rw [bts_len]; omega, by show 0 ≤ T ∧ T ≤ 1000; omega, by show 0 ≤ u ∧ u ≤ 1000; omega⟩
theorem next_aI {T R : Int} {n k : Nat} {now : Int} : nextQ (aI T R n k) now = if k < n then (aB T R n k (now + T) 1, [beatM ((k + 1 : Nat) : Int)]) else (aI T R n k, []) := by
  by_cases hk : k < n
  · rw [if_pos hk]
    obtain ⟨c, hc⟩ : ∃ c, n - k = c + 1 := ⟨n - k - 1, by omega⟩
    have e : n - (k + 1) = c := by omega
    unfold aI aB nextQ
    rw [hc, e]
    rfl
  · rw [if_neg hk]
    have e : n - k = 0 := by omega
    unfold aI nextQ
    rw [e]
    rfl
/-- behind Send -/
inductive AF (T R : Int) (n : Nat) (now : Int) : Ep → Nat → Prop
  | idle (k : Nat) (hk : k = n) : AF T R n now (aI T R n k) k
  | busy (k : Nat) (d u : Int) (hk : k + 1 ≤ n) (h1 : 1 ≤ u) (h2 : u ≤ R + 1) (h3 : now + 1 ≤ d) (h0 : d ≤ 300) (h : d + (R + 1 - u) * T + 1 + ((n - (k + 1) : Nat) : Int) * ((R + 1) * T + 1) ≤ n * ((R + 1) * T + 1)) : AF T R n now (aB T R n k d u) k
theorem AF.next {T R : Int} {n k : Nat} {now : Int} {a : Ep} (h : AF T R n now a k) : AS T R n (now + 1) a k := by
  cases h with
  | idle k hk => exact .idle k (by omega) (fun c => by omega)
  | busy k d u hk h1 h2 h3 h0 h => exact .busy k d u hk h1 h2 h3 h0 h
theorem mul_step (n k : Nat) (hk : k + 1 ≤ n) (L : Int) : ((n - k : Nat) : Int) * L = L + ((n - (k + 1) : Nat) : Int) * L := by
  have e : ((n - k : Nat) : Int) = 1 + ((n - (k + 1) : Nat) : Int) := by omega
  rw [e, Int.add_mul, Int.one_mul]
theorem send_step {T R : Int} {n k : Nat} {now : Int} {a : Ep} (c : Cfg T R n) (h : AS T R n now a k) (h0 : 0 ≤ now) (h1 : now < 200) :
    ∃ k', AF T R n now (sendR a now).1 k' ∧ (((sendR a now).2.2 = [] ∧ k' = k) ∨ ((sendR a now).2.2 = [beatM ((k + 1 : Nat) : Int)] ∧ k' = k + 1)) ∧ ((sendR a now).2.1 = [] ∨ ∃ i : Nat, (sendR a now).2.1 = [beatM (i : Int)] ∧ 1 ≤ i ∧ i ≤ n) := by
  have hn := c.n
  have ht := c.t
  have hr := c.r
  have hno : ¬ (now < 0 ∨ 268435456 < now) := by omega
  cases h with
  | idle k hk h =>
    have hs : sendR (aI T R n k) now = ((nextQ (aI T R n k) now).1, (nextQ (aI T R n k) now).2, []) := by unfold sendR; rw [if_neg hno]; rfl
    rw [hs, next_aI]
    by_cases hkn : k < n
    · rw [if_pos hkn]
      have h := h hkn
      rw [mul_step n k (by omega)] at h
      refine ⟨k, .busy k _ _ (by omega) (by omega) (by omega) (by omega) (by omega) ?_, .inl ⟨rfl, rfl⟩, .inr ⟨k + 1, rfl, by omega, by omega⟩⟩
      have e : (R + 1 - 1) * T + T = (R + 1) * T := by rw [Int.add_sub_cancel, Int.add_mul, Int.one_mul]
      omega
    · rw [if_neg hkn]
      exact ⟨k, .idle k (by omega), .inl ⟨rfl, rfl⟩, .inl rfl⟩
  | busy k d u hk h1 h2 h3 hd h =>
    by_cases hdn : d ≤ now
    · by_cases hu : u ≤ R
      · have hs : sendR (aB T R n k d u) now = (aB T R n k (now + T) (u + 1), [beatM ((k + 1 : Nat) : Int)], []) := by unfold sendR; rw [if_neg hno]; show (if d ≤ now then _ else _) = _; rw [if_pos hdn]; show (if u ≤ R then _ else _) = _; rw [if_pos hu]; rfl
        rw [hs]
        refine ⟨k, .busy k _ _ hk (by omega) (by omega) (by omega) (by omega) ?_, .inl ⟨rfl, rfl⟩, .inr ⟨k + 1, rfl, by omega, by omega⟩⟩
        have e : (R + 1 - (u + 1)) * T + T = (R + 1 - u) * T := by rw [show R + 1 - u = (R + 1 - (u + 1)) + 1 from by omega, Int.add_mul (R + 1 - (u + 1)), Int.one_mul]
        omega
      · have hs : sendR (aB T R n k d u) now = ((nextQ (aI T R n (k + 1)) now).1, (nextQ (aI T R n (k + 1)) now).2, [beatM ((k + 1 : Nat) : Int)]) := by
          unfold sendR
          rw [if_neg hno]
          show (if d ≤ now then _ else _) = _
          rw [if_pos hdn]
          show (if u ≤ R then _ else _) = _
          rw [if_neg hu]
          have e : nextQ { aB T R n k d u with ou := [] } now = nextQ (aI T R n (k + 1)) now := by unfold nextQ aB aI; rfl
          rw [e]
        rw [hs, next_aI]
        by_cases hkn : k + 1 < n
        · rw [if_pos hkn]
          rw [mul_step n (k + 1) (by omega)] at h
          have eu : R + 1 - u = 0 := by omega
          rw [eu, Int.zero_mul] at h
          refine ⟨k + 1, .busy (k + 1) _ _ (by omega) (by omega) (by omega) (by omega) (by omega) ?_, .inr ⟨rfl, rfl⟩, .inr ⟨k + 1 + 1, rfl, by omega, by omega⟩⟩
          have e : (R + 1 - 1) * T + T = (R + 1) * T := by rw [Int.add_sub_cancel, Int.add_mul, Int.one_mul]
          omega
        · rw [if_neg hkn]
          exact ⟨k + 1, .idle (k + 1) (by omega), .inr ⟨rfl, rfl⟩, .inl rfl⟩
    · have hs : sendR (aB T R n k d u) now = (aB T R n k d u, [], []) := by unfold sendR; rw [if_neg hno]; show (if d ≤ now then _ else _) = _; rw [if_neg hdn]
      rw [hs]
      exact ⟨k, .busy k d u hk h1 h2 (by omega) hd h, .inl ⟨rfl, rfl⟩, .inl rfl⟩
theorem res_B (i : Int) : resB (resM i) = true := by kernel_rfl
theorem recv_step {T R : Int} {n k : Nat} {now : Int} {a : Ep} (c : Cfg T R n) (h : AS T R n now a k) (i : Int) :
    ((recvR a (resM i)).2.1 = [] ∧ (recvR a (resM i)).1 = a) ∨ ((recvR a (resM i)).2.1 = [beatM ((k + 1 : Nat) : Int), resM i] ∧ i = ((k + 1 : Nat) : Int) ∧ k + 1 ≤ n ∧ AS T R n now (recvR a (resM i)).1 (k + 1)) := by
  have ht := c.t
  have hr := c.r
  cases h with
  | idle k hk h => exact .inl ⟨by unfold recvR; rw [if_pos (res_B i)]; rfl, by unfold recvR; rw [if_pos (res_B i)]; rfl⟩
  | busy k d u hk h1 h2 h3 hd h =>
    by_cases hid : i = ((k + 1 : Nat) : Int)
    · have hs : recvR (aB T R n k d u) (resM i) = (aI T R n (k + 1), [beatM ((k + 1 : Nat) : Int), resM i], [], []) := by
        unfold recvR
        rw [if_pos (res_B i)]
        show (if i = ((k + 1 : Nat) : Int) ∧ (2 : Int) = 2 then _ else _) = _
        rw [if_pos ⟨hid, rfl⟩]
        rfl
      rw [hs]
      refine .inr ⟨rfl, hid, hk, .idle (k + 1) hk (fun hkn => ?_)⟩
      have hm : 0 ≤ (R + 1 - u) * T := Int.mul_nonneg (by omega) (by omega)
      omega
    · have hs : recvR (aB T R n k d u) (resM i) = (aB T R n k d u, [], [], []) := by
        unfold recvR
        rw [if_pos (res_B i)]
        show (if i = ((k + 1 : Nat) : Int) ∧ (2 : Int) = 2 then _ else _) = _
        rw [if_neg (fun c => hid c.1)]
      rw [hs]
      exact .inl ⟨rfl, rfl⟩
theorem AS.done {T R : Int} {n k : Nat} {a : Ep} (c : Cfg T R n) (h : AS T R n 200 a k) : k = n := by
  have hn := c.n
  have key : (n : Int) * ((R + 1) * T + 1) ≤ 102 := by
    have ht := c.t
    have hr := c.r
    subst ht hr
    omega
  have hpos : 0 ≤ (R + 1) * T + 1 := by
    have ht := c.t
    have hr := c.r
    subst ht hr
    omega
  cases h with
  | idle k hk h =>
    by_cases hkn : k < n
    · have h := h hkn
      have hm : 0 ≤ ((n - k : Nat) : Int) * ((R + 1) * T + 1) := Int.mul_nonneg (by omega) hpos
      omega
    · omega
  | busy k d u hk h1 h2 h3 hd h =>
    have hm : 0 ≤ ((n - (k + 1) : Nat) : Int) * ((R + 1) * T + 1) := Int.mul_nonneg (by omega) hpos
    have hm2 : 0 ≤ (R + 1 - u) * T := Int.mul_nonneg (by omega) (by have := c.t; omega)
    omega
structure GM (n : Nat) (m : Msg) : Prop where
  ex : ∃ i : Nat, 1 ≤ i ∧ i ≤ n ∧ m = resM i
theorem GM.b {n : Nat} {m : Msg} (h : GM n m) (hn : n ≤ 10) : MsB m := by
  obtain ⟨i, h1, h2, rfl⟩ := h.ex
  exact res_b (by unfold inI; omega)
structure BS (n : Nat) (b : Ep) (last : Int) : Prop where
  bb : EpB b
  o : b.ou = []
  sl : b.se.length ≤ 17
  la : 0 ≤ last ∧ last ≤ n
  sg : ∀ s ∈ b.se, GM n s ∧ s.id ≤ last
  sx : last = 0 ∨ ∃ s ∈ b.se, s.id = last
theorem new_all {k : Int} {l : List Msg} (h : newB k l = true) : ∀ s ∈ l, s.id < k := fun s hs => by
  have := List.all_eq_true.1 h s hs
  rw [decide_eq_true_eq] at this
  exact this
theorem recvB {n : Nat} {b : Ep} {last : Int} (h : BS n b last) (i : Nat) (h1 : 1 ≤ i) :
    (recvR b (beatM i)).1 = b ∧ (((recvR b (beatM i)).2.2.1 = [] ∧ ((recvR b (beatM i)).2.2.2 = [] ∨ ∃ s, (recvR b (beatM i)).2.2.2 = [s] ∧ GM n s)) ∨ ((recvR b (beatM i)).2.2.1 = [beatM i] ∧ (recvR b (beatM i)).2.2.2 = [] ∧ last < i)) := by
  have hrb : resB (beatM i) = false := by kernel_rfl
  have e1 : recvR b (beatM i) = lookR b (beatM i) := by unfold recvR; rw [if_neg (by rw [hrb]; decide)]
  rw [e1]
  unfold lookR
  rw [if_neg (show ¬ ((beatM (i : Int)).ki ≠ 1) from fun c => c rfl)]
  split
  · rename_i s hs
    exact ⟨rfl, .inl ⟨rfl, .inr ⟨s, rfl, (h.sg s (fnd_mem hs)).1⟩⟩⟩
  · split
    · rename_i hn
      refine ⟨rfl, .inr ⟨rfl, rfl, ?_⟩⟩
      rcases h.sx with h0 | ⟨s, hs, hsl⟩
      · omega
      · have := new_all hn s hs
        have e : (beatM (i : Int)).id = i := rfl
        omega
    · exact ⟨rfl, .inl ⟨rfl, .inl rfl⟩⟩
theorem ansB {n : Nat} {b : Ep} {last : Int} (hn : n ≤ 10) (h : BS n b last) (i : Nat) (hi : last < i) (hin : i ≤ n) :
    ansV b (resM i) = 0 ∧ BS n (ansO b (resM i)) i := by
  have hla := h.la
  have hm := res_ok (i := (i : Int)) (by omega) (by omega)
  have hnw : newB (resM i).id b.se = true := by
    unfold newB
    rw [List.all_eq_true]
    intro s hs
    have := (h.sg s hs).2
    have e : (resM (i : Int)).id = i := rfl
    rw [decide_eq_true_eq]
    omega
  have hv : ansV b (resM i) = 0 := by unfold ansV; rw [if_neg (fun c => c hm), if_neg (by rw [res_B]; decide), if_neg (by rw [hnw]; decide)]
  have hg : GM n (resM i) := ⟨i, by omega, hin, rfl⟩
  have hsl := h.sl
  refine ⟨hv, ?_⟩
  rw [ans_yes hv]
  have hall : ∀ s ∈ b.se ++ [resM i], GM n s ∧ s.id ≤ i := fun s hs => by
    rcases List.mem_append.1 hs with hs | hs
    · have := h.sg s hs
      exact ⟨this.1, by omega⟩
    · rw [List.mem_singleton.1 hs]
      exact ⟨hg, Int.le_refl _⟩
  have hsub : ∀ s ∈ ansL b (resM i), s ∈ b.se ++ [resM i] := fun s hs => by
    unfold ansL at hs
    split at hs
    · exact List.mem_of_mem_drop hs
    · exact hs
  have hlen : (ansL b (resM i)).length ≤ 17 := by
    unfold ansL
    split
    · rw [List.length_drop, List.length_append]; simp only [List.length_cons, List.length_nil]; omega
    · rename_i hc; omega
  have hin2 : resM i ∈ ansL b (resM i) := by
    unfold ansL
    split
    · rename_i hc
      rw [List.drop_append_of_le_length (by rw [List.length_append] at hc; simp only [List.length_cons, List.length_nil] at hc; omega)]
      simp
    · simp
  exact ⟨⟨h.bb.ql, h.bb.ol, by show (ansL b (resM i)).length ≤ _; omega, h.bb.q, h.bb.o, fun s hs => (hall s (hsub s hs)).1.b hn⟩, h.o, hlen, ⟨by omega, by omega⟩,
    (fun s hs => hall s (hsub s hs)), .inr ⟨_, hin2, rfl⟩⟩
theorem call_A {T R : Int} {j : Nat} (hj : j < 10) : Fun Try.prog [] 6 [tEp, tM] [epD (aI T R j 0), msD (beatM 0)] [tEp, tI, tI] (.ok [epD (aI T R (j + 1) 0), I64d ((j + 1 : Nat) : Int), I64d 0]) := by
  have hb : EpB (aI T R j 0) := ⟨by show (bts 0 (j - 0)).length ≤ _; rw [bts_len]; omega, Nat.zero_le _, Nat.zero_le _, bts_b _ _ (by omega), (fun x hx => by cases hx), (fun x hx => by cases hx)⟩
  have hf := call_fn (aI T R j 0) (beatM 0) hb (beat_b in0) (show inI ((j : Int) + 1) by unfold inI; omega)
  have hm : callM (aI T R j 0) (beatM 0) = beatM ((j + 1 : Nat) : Int) := by
    show beatM ((j : Int) + 1) = _
    congr 1
  have hv : callV (aI T R j 0) (beatM 0) = 0 := by
    unfold callV
    rw [if_neg (by show ¬ (256 ≤ ((bts 0 (j - 0)).length : Int) ∨ 2147483648 ≤ (j : Int) + 1); rw [bts_len]; omega), hm]
    exact beat_ok (by omega) (by omega)
  obtain ⟨q1, q2⟩ := call_yes hv
  have e1 : callO (aI T R j 0) (beatM 0) = aI T R (j + 1) 0 := by
    rw [q1, hm]
    have hs := bts_snoc j 0
    rw [Nat.zero_add] at hs
    unfold aI
    simp only [Nat.sub_zero]
    rw [hs]
    congr 1
  have e2 : callI (aI T R j 0) (beatM 0) = ((j + 1 : Nat) : Int) := by rw [q2]; rfl
  rw [e1, e2, hv] at hf
  exact hf
theorem send_A {T R : Int} {n k : Nat} {now : Int} {a : Ep} (c : Cfg T R n) (h : AS T R n now a k) (h0 : 0 ≤ now) (h1 : now < 200) :
    ∃ (a' : Ep) (s f : List Msg) (k' : Nat), Fun Try.prog [] 7 [tEp, tI] [epD a, I64d now] [tEp, tMs, tMs] (.ok [epD a', msgsD s, msgsD f]) ∧ AF T R n now a' k' ∧ ((f = [] ∧ k' = k) ∨ (f = [beatM ((k + 1 : Nat) : Int)] ∧ k' = k + 1)) ∧ (s = [] ∨ ∃ i : Nat, s = [beatM (i : Int)] ∧ 1 ≤ i ∧ i ≤ n) := by
  obtain ⟨k', g1, g2, g3⟩ := send_step c h h0 h1
  have hb := h.ab c
  exact ⟨_, _, _, k', send_fn a now hb.b hb.o (by have := hb.q; omega) hb.t.1 (by have := hb.t; omega) hb.u.1 (by have := hb.u; omega), g1, g2, g3⟩
theorem recv_B {n : Nat} {b : Ep} {last : Int} (h : BS n b last) (i : Nat) (h1 : 1 ≤ i) (hin : i ≤ 10) :
    ∃ (p fr ag : List Msg), Fun Try.prog [] 11 [tEp, tM] [epD b, msD (beatM i)] [tEp, tMs, tMs, tMs] (.ok [epD b, msgsD p, msgsD fr, msgsD ag]) ∧ ((fr = [] ∧ (ag = [] ∨ ∃ s, ag = [s] ∧ GM n s)) ∨ (fr = [beatM i] ∧ ag = [] ∧ last < i)) := by
  obtain ⟨g1, g2⟩ := recvB h i h1
  have hf := recv_fn b (beatM i) h.bb (beat_b (by unfold inI; omega)) (by rw [h.o]; exact Nat.zero_le _)
  rw [g1] at hf
  refine ⟨_, _, _, hf, ?_⟩
  rcases g2 with ⟨e1, e2 | ⟨s, e2, hs⟩⟩ | ⟨e1, e2, e3⟩
  · exact .inl ⟨e1, .inl e2⟩
  · exact .inl ⟨e1, .inr ⟨s, e2, hs⟩⟩
  · exact .inr ⟨e1, e2, e3⟩
theorem ans_B {n : Nat} {b : Ep} {last : Int} (hn : n ≤ 10) (h : BS n b last) (i : Nat) (hi : last < i) (hin : i ≤ n) :
    ∃ b' : Ep, Fun Try.prog [] 13 [tEp, tM] [epD b, msD (resM i)] [tEp, tI] (.ok [epD b', I64d 0]) ∧ BS n b' i := by
  obtain ⟨g1, g2⟩ := ansB hn h i hi hin
  have hsl := h.sl
  have hla := h.la
  have hf := ans_fn b (resM i) h.bb (res_b (by unfold inI; omega)) (by omega)
  rw [g1] at hf
  exact ⟨_, hf, g2⟩
theorem recv_A {T R : Int} {n k : Nat} {now : Int} {a : Ep} (c : Cfg T R n) (h : AS T R n now a k) (m : Msg) (hm : GM n m) :
    ∃ (a' : Ep) (p fr ag : List Msg), Fun Try.prog [] 11 [tEp, tM] [epD a, msD m] [tEp, tMs, tMs, tMs] (.ok [epD a', msgsD p, msgsD fr, msgsD ag]) ∧
      ((p = [] ∧ a' = a) ∨ (p.length = 2 ∧ k + 1 ≤ n ∧ AS T R n now a' (k + 1))) := by
  have hb := h.ab c
  have hmb := hm.b c.n
  have hf := recv_fn a m hb.b hmb hb.o
  obtain ⟨i, h1, h2, rfl⟩ := hm.ex
  refine ⟨_, _, _, _, hf, ?_⟩
  rcases recv_step c h (i : Int) with ⟨e1, e2⟩ | ⟨e1, e2, e3, e4⟩
  · exact .inl ⟨e1, e2⟩
  · exact .inr ⟨by rw [e1]; rfl, e3, e4⟩
theorem new_A (T R : Int) (h : (1 ≤ T ∧ T ≤ 1440 ∧ 0 ≤ R ∧ R ≤ 100)) : Fun Try.prog [] 4 [tI, tI, tI] [I64d T, I64d R, I64d 1] [tEp, tI] (.ok [epD (aI T R 0 0), I64d 0]) := by
  have hf := new_fn T R 1
  obtain ⟨e1, e2⟩ := new_t (t := T) (r := R) (f := 1) ⟨h, by omega⟩
  rw [e1, e2] at hf
  exact hf
theorem bs_0 (n : Nat) : BS n (aI 3 2 0 0) 0 :=
  ⟨⟨Nat.zero_le _, Nat.zero_le _, Nat.zero_le _, (fun x hx => by cases hx), (fun x hx => by cases hx), (fun x hx => by cases hx)⟩, rfl, Nat.zero_le _, ⟨by omega, by omega⟩, (fun s hs => by cases hs), .inl rfl⟩
theorem as_0 {T R : Int} {n : Nat} : AS T R n 0 (aI T R n 0) 0 := .idle 0 (Nat.zero_le _) (fun _ => by rw [Nat.sub_zero]; omega)


end Go.Proofs.Ytindphofgojfbaa.O14
