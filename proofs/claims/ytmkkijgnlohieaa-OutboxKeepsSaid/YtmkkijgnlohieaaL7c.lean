/-
  Layer 7's functions: plain facts, recovery, conditions (printed by a program). No conditions stand ahead of what is proved.
-/
import Derived.Test.YtmkkijgnlohieaaFrame
import Derived.Test.YtmkkijgnlohieaaDE
import Derived.Test.YtmkkijgnlohieaaSyXd
import Derived.Tactics
import Derived.Recover
import Derived.Tactics2
set_option maxRecDepth 100000
set_option linter.unusedSimpArgs false
set_option linter.unusedVariables false
namespace Go.Proofs.Ytmkkijgnlohieaa.L7
open Go.Proofs.Ytmkkijgnlohieaa.Sy Go.RowKit Go.WideShapes Go.ChangeShapes Go.ChangeAt
theorem hP : NoNum Try.prog := by unfold NoNum; kernel_rfl
/-! Plain: integers, fields, lists, over lists of bytes. -/
def isB (l : List Int) : Prop := ∀ x ∈ l, 0 ≤ x ∧ x ≤ 255
theorem isB.cons {x : Int} {l : List Int} (h : isB (x :: l)) : (0 ≤ x ∧ x ≤ 255) ∧ isB l := ⟨h x (by simp), fun y hy => h y (by simp [hy])⟩
theorem isB.app {a b : List Int} (h : isB (a ++ b)) : isB a ∧ isB b := ⟨fun y hy => h y (by simp [hy]), fun y hy => h y (by simp [hy])⟩
theorem isB.join {a b : List Int} (h : isB a) (k : isB b) : isB (a ++ b) := fun x hx => (List.mem_append.1 hx).elim (h x) (k x)
theorem isB.nil : isB [] := fun x hx => by cases hx
def pcons (c : Int) : Except Int (Int × List Int) → Except Int (Int × List Int)
  | .ok (u, r) => .ok (c - 128 + 128 * u, r)
  | .error e => .error e
def parse : Nat → List Int → Except Int (Int × List Int)
  | _, [] => .error 6
  | j, c :: t => if 128 ≤ c then (if 9 ≤ j then .error 5 else pcons c (parse (j + 1) t)) else if c = 0 ∧ j ≠ 0 then .error 5 else if 9 ≤ j ∧ 1 < c then .error 5 else .ok (c, t)
def unzig (u : Int) : Int := if u % 2 = 0 then u / 2 else -(u / 2) - 1
def zig (n : Int) : Int := if 0 ≤ n then 2 * n else -2 * n - 1
def encF : Nat → Int → List Int
  | 0, u => [u]
  | f + 1, u => if u < 128 then [u] else (u % 128 + 128) :: encF f (u / 128)
def putS (n : Int) : List Int := encF 9 (zig n)
def in64 (n : Int) : Prop := -9223372036854775808 ≤ n ∧ n ≤ 9223372036854775807
theorem unzig_zig (n : Int) : unzig (zig n) = n := by unfold unzig zig; split <;> split <;> omega
theorem zig_unzig {u : Int} (h : 0 ≤ u) : zig (unzig u) = u := by unfold unzig zig; split <;> split <;> omega
theorem zig_rng {n : Int} (h : in64 n) : 0 ≤ zig n ∧ zig n < 2 * 128 ^ 9 := by unfold zig; unfold in64 at h; split <;> omega
theorem unzig_rng {u : Int} (h0 : 0 ≤ u) (h : u < 2 * 128 ^ 9) : in64 (unzig u) := by unfold in64 unzig; split <;> omega
theorem pow_ge : ∀ f : Nat, (1 : Int) ≤ 128 ^ f
  | 0 => by simp
  | f + 1 => by
    have := pow_ge f
    have hpow : (128 : Int) ^ (f + 1) = 128 ^ f * 128 := Int.pow_succ _ _
    omega
theorem enc_parse : ∀ (f j : Nat) (u : Int) (r : List Int), j + f = 9 → 0 ≤ u → u < 2 * 128 ^ f → (j ≠ 0 → u ≠ 0) → parse j (encF f u ++ r) = .ok (u, r)
  | 0, j, u, r, hj, h0, h1, h2 => by
    simp only [encF, List.cons_append, List.nil_append, parse]
    rw [if_neg (by omega), if_neg (by intro h; exact h2 h.2 h.1), if_neg (by omega)]
  | f + 1, j, u, r, hj, h0, h1, h2 => by
    simp only [encF]
    split
    · simp only [List.cons_append, List.nil_append, parse]
      rw [if_neg (by omega), if_neg (by intro h; exact h2 h.2 h.1), if_neg (by omega)]
    · simp only [List.cons_append, parse]
      have h3 : u / 128 < 2 * 128 ^ f := by
        have : (128 : Int) ^ (f + 1) = 128 ^ f * 128 := Int.pow_succ _ _
        omega
      rw [if_pos (by omega), if_neg (by omega), enc_parse f (j + 1) (u / 128) r (by omega) (by omega) h3 (fun _ => by omega)]
      simp only [pcons, Except.ok.injEq, Prod.mk.injEq, and_true]
      omega
theorem parse_enc : ∀ (f j : Nat) (b : List Int) (u : Int) (r : List Int), j + f = 9 → isB b → parse j b = .ok (u, r) → b = encF f u ++ r ∧ 0 ≤ u ∧ u < 2 * 128 ^ f ∧ (j ≠ 0 → u ≠ 0)
  | f, j, [], u, r, _, _, h => by cases h
  | f, j, c :: t, u, r, hj, hb, h => by
    obtain ⟨hc, ht⟩ := hb.cons
    simp only [parse] at h
    split at h
    · rename_i hc1
      split at h
      · cases h
      · rename_i h9
        match f, hj with
        | 0, hj => omega
        | f + 1, hj =>
          cases hp : parse (j + 1) t with
          | error e => rw [hp] at h; cases h
          | ok p =>
            obtain ⟨u', r'⟩ := p
            rw [hp] at h
            simp only [pcons, Except.ok.injEq, Prod.mk.injEq] at h
            obtain ⟨rfl, rfl⟩ := h
            obtain ⟨e, g0, g1, g2⟩ := parse_enc f (j + 1) t u' r' (by omega) ht hp
            have g3 := g2 (by omega)
            have hpow : (128 : Int) ^ (f + 1) = 128 ^ f * 128 := Int.pow_succ _ _
            refine ⟨?_, by omega, by omega, fun _ => by omega⟩
            simp only [encF]
            rw [if_neg (by omega), show (c - 128 + 128 * u') % 128 + 128 = c by omega, show (c - 128 + 128 * u') / 128 = u' by omega, e]
            rfl
    · split at h
      · cases h
      · split at h
        · cases h
        · rename_i h1 h2 h3
          simp only [Except.ok.injEq, Prod.mk.injEq] at h
          obtain ⟨rfl, rfl⟩ := h
          refine ⟨?_, hc.1, ?_, fun hj0 hc0 => h2 ⟨hc0, hj0⟩⟩
          · cases f with
            | zero => rfl
            | succ f => simp only [encF]; rw [if_pos (by omega)]; rfl
          · cases f with
            | zero => simp only [Int.pow_zero]; omega
            | succ f =>
              have hpow : (128 : Int) ^ (f + 1) = 128 ^ f * 128 := Int.pow_succ _ _
              have := pow_ge f
              omega
theorem encF_isB : ∀ (f : Nat) (u : Int), 0 ≤ u → u < 2 * 128 ^ f → isB (encF f u)
  | 0, u, h0, h1 => fun x hx => by simp [encF] at hx; simp only [Int.pow_zero] at h1; omega
  | f + 1, u, h0, h1 => fun x hx => by
    have hpow : (128 : Int) ^ (f + 1) = 128 ^ f * 128 := Int.pow_succ _ _
    simp only [encF] at hx
    split at hx
    · simp at hx; omega
    · rcases List.mem_cons.1 hx with rfl | hx
      · omega
      · exact encF_isB f (u / 128) (by omega) (by omega) x hx
theorem encF_len : ∀ (f : Nat) (u : Int), 1 ≤ (encF f u).length ∧ (encF f u).length ≤ f + 1
  | 0, u => by simp [encF]
  | f + 1, u => by
    simp only [encF]
    split
    · simp
    · have := encF_len f (u / 128)
      simp only [List.length_cons]; omega
theorem putS_isB {n : Int} (h : in64 n) : isB (putS n) := encF_isB 9 _ (zig_rng h).1 (zig_rng h).2
theorem putS_len (n : Int) : 1 ≤ (putS n).length ∧ (putS n).length ≤ 10 := encF_len 9 _
def readS (b : List Int) : Except Int (Int × List Int) := match parse 0 b with
  | .ok (u, r) => .ok (unzig u, r)
  | .error e => .error e
theorem read_put {n : Int} (h : in64 n) (r : List Int) : readS (putS n ++ r) = .ok (n, r) := by
  unfold readS putS
  rw [enc_parse 9 0 (zig n) r rfl (zig_rng h).1 (zig_rng h).2 (fun h => absurd rfl h)]
  simp only [unzig_zig]
theorem put_read {b r : List Int} {n : Int} (hb : isB b) (h : readS b = .ok (n, r)) : b = putS n ++ r ∧ in64 n ∧ isB r ∧ r.length < b.length := by
  unfold readS at h
  split at h
  · rename_i u r' hp
    simp only [Except.ok.injEq, Prod.mk.injEq] at h
    obtain ⟨rfl, rfl⟩ := h
    obtain ⟨e, h0, h1, _⟩ := parse_enc 9 0 b u r' rfl hb hp
    have hl := encF_len 9 u
    refine ⟨by unfold putS; rw [zig_unzig h0]; exact e, unzig_rng h0 h1, ?_, by rw [e, List.length_append]; omega⟩
    rw [e] at hb
    exact hb.app.2
  · cases h
theorem parse_err : ∀ (b : List Int) (j : Nat) (e : Int), parse j b = .error e → e = 5 ∨ e = 6
  | [], j, e, h => by cases h; exact .inr rfl
  | c :: t, j, e, h => by
    simp only [parse] at h
    split at h
    · split at h
      · cases h; exact .inl rfl
      · cases hp : parse (j + 1) t with
        | ok p => rw [hp] at h; cases h
        | error e' => rw [hp] at h; cases h; exact parse_err t (j + 1) e hp
    · split at h
      · cases h; exact .inl rfl
      · split at h
        · cases h; exact .inl rfl
        · cases h
theorem read_err {b : List Int} {e : Int} (h : readS b = .error e) : e = 5 ∨ e = 6 := by
  unfold readS at h
  split at h
  · cases h
  · rename_i hp; cases h; exact parse_err _ _ _ hp
/-! how an integer is read, by places -/
theorem parse_lead : ∀ (x t : List Int) (j : Nat), (∀ c ∈ x, 128 ≤ c) → j + x.length ≤ 9 → parse j (x ++ t) = x.foldr pcons (parse (j + x.length) t)
  | [], t, j, _, _ => by simp
  | c :: x, t, j, hx, hl => by
    simp only [List.length_cons] at hl
    simp only [List.cons_append, parse, List.foldr_cons]
    rw [if_pos (hx c (by simp)), if_neg (by omega), parse_lead x t (j + 1) (fun d hd => hx d (by simp [hd])) (by omega)]
    congr 2
    simp only [List.length_cons]; congr 1; omega
theorem parse_long : ∀ (x t : List Int) (j : Nat), (∀ c ∈ x, 128 ≤ c) → 10 ≤ j + x.length → j ≤ 9 → parse j (x ++ t) = .error 5
  | [], t, j, _, h, h2 => by simp at h; omega
  | c :: x, t, j, hx, hl, h9 => by
    simp only [List.cons_append, parse]
    rw [if_pos (hx c (by simp))]
    by_cases hj : 9 ≤ j
    · rw [if_pos hj]
    · rw [if_neg hj, parse_long x t (j + 1) (fun d hd => hx d (by simp [hd])) (by simp at hl; omega) (by omega)]; rfl
/-- The number in groups of seven bits. -/
def sv : List Int → Int
  | [] => 0
  | c :: t => c % 128 + 128 * sv t
theorem sv_app : ∀ (x y : List Int), sv (x ++ y) = sv x + 128 ^ x.length * sv y
  | [], y => by simp [sv]
  | c :: x, y => by
    have hpow : (128 : Int) ^ (x.length + 1) = 128 ^ x.length * 128 := Int.pow_succ _ _
    simp only [List.cons_append, sv, sv_app x y, List.length_cons, hpow]
    rw [Int.mul_add, Int.add_assoc]
    congr 2
    rw [Int.mul_comm ((128 : Int) ^ x.length) 128, Int.mul_assoc]
theorem sv_rng : ∀ (x : List Int), 0 ≤ sv x ∧ sv x < 128 ^ x.length
  | [] => by simp [sv]
  | c :: x => by
    have hpow : (128 : Int) ^ (x.length + 1) = 128 ^ x.length * 128 := Int.pow_succ _ _
    have := sv_rng x
    simp only [sv, List.length_cons, hpow]
    omega
theorem pcons_ok : ∀ (x : List Int) (c : Int) (r : List Int), (∀ d ∈ x, 128 ≤ d ∧ d ≤ 255) → 0 ≤ c → c < 128 → x.foldr pcons (.ok (c, r)) = .ok (sv (x ++ [c]), r)
  | [], c, r, _, h0, h1 => by simp [sv]; omega
  | d :: x, c, r, hx, h0, h1 => by
    have hd := hx d (by simp)
    rw [List.foldr_cons, pcons_ok x c r (fun y hy => hx y (by simp [hy])) h0 h1]
    simp only [pcons, List.cons_append, sv, Except.ok.injEq, Prod.mk.injEq, and_true]
    omega
theorem pcons_err : ∀ (x : List Int) (e : Int), x.foldr pcons (.error e) = .error e
  | [], e => rfl
  | d :: x, e => by rw [List.foldr_cons, pcons_err x e]; rfl
/-- The cases of an integer: k bytes with a further one behind them. -/
theorem read_places {b : List Int} (hb : isB b) {k : Nat} (hk : k ≤ b.length) (hx : ∀ c ∈ b.take k, 128 ≤ c) :
    (10 ≤ k → parse 0 b = .error 5) ∧ (k < 10 → k = b.length → parse 0 b = .error 6) ∧
    (k < 10 → k < b.length → b.getD k 0 < 128 → parse 0 b = if b.getD k 0 = 0 ∧ k ≠ 0 then .error 5 else if 9 ≤ k ∧ 1 < b.getD k 0 then .error 5 else .ok (sv (b.take (k + 1)), b.drop (k + 1))) := by
  have hs : b = b.take k ++ b.drop k := (List.take_append_drop k b).symm
  have hl : (b.take k).length = k := by rw [List.length_take]; omega
  refine ⟨fun h => ?_, fun h h2 => ?_, fun h h2 h3 => ?_⟩
  · rw [hs]; exact parse_long _ _ 0 hx (by omega) (by omega)
  · rw [hs, parse_lead _ _ 0 hx (by omega), List.drop_eq_nil_of_le (by omega)]
    simp only [parse]
    exact pcons_err _ _
  · have hd : b.drop k = b.getD k 0 :: b.drop (k + 1) := by rw [List.drop_eq_getElem_cons h2]; simp [List.getD_eq_getElem?_getD, h2]
    have ht : b.take (k + 1) = b.take k ++ [b.getD k 0] := by rw [List.take_succ_eq_append_getElem h2]; simp [List.getD_eq_getElem?_getD, h2]
    have hc : 0 ≤ b.getD k 0 ∧ b.getD k 0 ≤ 255 := hb _ (by simp [List.getD_eq_getElem?_getD, h2])
    conv => lhs; rw [hs]
    rw [parse_lead _ _ 0 hx (by omega), hd, Nat.zero_add, hl, ht]
    simp only [parse]
    rw [if_neg (by omega)]
    split
    · exact pcons_err _ _
    · split
      · exact pcons_err _ _
      · exact pcons_ok _ _ _ (fun d hd => ⟨hx d hd, (hb d (List.mem_of_mem_take hd)).2⟩) hc.1 h3
def takeIntS (b : List Int) : Int × Int := match readS b with
  | .error e => (0, e)
  | .ok (n, r) => if r = [] then (n, 0) else (0, 5)
def dataS (b : List Int) : Except Int (List Int × List Int) := match readS b with
  | .error e => .error e
  | .ok (n, r) => if n < 0 then .error 5 else if (r.length : Int) < n then .error 6 else .ok (r.take n.toNat, r.drop n.toNat)
def putD (d : List Int) : List Int := putS d.length ++ d
theorem data_put {d : List Int} (h : (d.length : Int) ≤ 9223372036854775807) (r : List Int) : dataS (putD d ++ r) = .ok (d, r) := by
  unfold dataS putD
  rw [List.append_assoc, read_put (by unfold in64; omega)]
  simp only []
  rw [if_neg (by omega), if_neg (by rw [List.length_append]; omega)]
  simp
theorem put_data {b d r : List Int} (hb : isB b) (h : dataS b = .ok (d, r)) : b = putD d ++ r ∧ isB d ∧ isB r ∧ r.length < b.length ∧ d.length < b.length ∧ (d.length : Int) ≤ 9223372036854775807 := by
  unfold dataS at h
  split at h
  · cases h
  · rename_i n r' hr
    obtain ⟨e, hn, hB, hl⟩ := put_read hb hr
    split at h
    · cases h
    · split at h
      · cases h
      · rename_i h1 h2
        simp only [Except.ok.injEq, Prod.mk.injEq] at h
        obtain ⟨rfl, rfl⟩ := h
        have hdl : (r'.take n.toNat).length = n.toNat := by rw [List.length_take]; omega
        unfold in64 at hn
        refine ⟨?_, fun x hx => hB x (List.mem_of_mem_take hx), fun x hx => hB x (List.mem_of_mem_drop hx), by rw [List.length_drop]; omega, by rw [hdl]; omega, by rw [hdl]; omega⟩
        unfold putD
        rw [hdl, show ((n.toNat : Nat) : Int) = n by omega, List.append_assoc, List.take_append_drop]
        exact e
theorem data_err {b : List Int} {e : Int} (h : dataS b = .error e) : e = 5 ∨ e = 6 := by
  unfold dataS at h
  split at h
  · rename_i hr; cases h; exact read_err hr
  · split at h
    · cases h; exact .inl rfl
    · split at h
      · cases h; exact .inr rfl
      · cases h
/-! fields -/
abbrev Fld := Int × List Int
def consA (a : List Int) : Except Int (List Int) → Except Int (List Int)
  | .ok l => .ok (a ++ l)
  | .error e => .error e
def putG : Int → List Fld → Except Int (List Int)
  | _, [] => .ok []
  | before, (t, d) :: l => if t < 1 ∨ 1000 < t then .error 2 else if t ≤ before then .error 1 else consA (putS t ++ putD d) (putG t l)
def putF (l : List Fld) : Except Int (List Int) := if 256 < l.length then .error 3 else putG 0 l
def consF (a : Fld) : Except Int (List Fld) → Except Int (List Fld)
  | .ok l => .ok (a :: l)
  | .error e => .error e
def takeG : Nat → Int → Nat → List Int → Except Int (List Fld)
  | 0, _, _, _ => .ok []
  | f + 1, before, c, b => if b = [] then .ok [] else if 256 ≤ c then .error 3 else match readS b with
    | .error e => .error e
    | .ok (t, r) => if ¬ (before < t ∧ t ≤ 1000) then .error 5 else match dataS r with
      | .error e => .error e
      | .ok (d, r2) => consF (t, d) (takeG f t (c + 1) r2)
def takeF (b : List Int) : Except Int (List Fld) := takeG b.length 0 0 b
def smallF (l : List Fld) : Prop := ∀ x ∈ l, (x.2.length : Int) ≤ 9223372036854775807
theorem take_put : ∀ (l : List Fld) (f : Nat) (before : Int) (c : Nat) (b : List Int), smallF l → putG before l = .ok b → b.length ≤ f → c + l.length ≤ 256 → takeG f before c b = .ok l
  | [], f, before, c, b, _, h, hf, hc => by
    cases h
    cases f with
    | zero => rfl
    | succ f => simp [takeG]
  | (t, d) :: l, f, before, c, b, hs, h, hf, hc => by
    simp only [putG] at h
    split at h
    · cases h
    · rename_i h1
      split at h
      · cases h
      · rename_i h2
        cases hp : putG t l with
        | error e => rw [hp] at h; cases h
        | ok b2 =>
          rw [hp] at h
          simp only [consA, Except.ok.injEq] at h
          subst h
          have hl1 := putS_len t
          simp only [List.length_append, List.length_cons] at hf hc
          cases f with
          | zero => omega
          | succ f =>
            simp only [takeG]
            rw [if_neg (by intro e; have := congrArg List.length e; rw [List.length_append, List.length_append] at this; simp only [List.length_nil] at this; omega), if_neg (by omega), List.append_assoc, read_put (by unfold in64; omega)]
            simp only []
            rw [if_neg (by omega), data_put (hs (t, d) (by simp))]
            simp only []
            rw [take_put l f t (c + 1) b2 (fun x hx => hs x (by simp [hx])) hp (by omega) (by omega)]
            rfl
theorem put_take : ∀ (f : Nat) (before : Int) (c : Nat) (b : List Int) (l : List Fld), isB b → 0 ≤ before → b.length ≤ f → takeG f before c b = .ok l → putG before l = .ok b ∧ (l ≠ [] → c + l.length ≤ 256) ∧ ∀ x ∈ l, isB x.2 ∧ x.2.length < b.length
  | 0, before, c, b, l, hb, h0, hf, h => by
    cases h
    have : b = [] := List.length_eq_zero_iff.1 (by omega)
    subst this
    exact ⟨rfl, fun h => absurd rfl h, fun x hx => by cases hx⟩
  | f + 1, before, c, b, l, hb, h0, hf, h => by
    simp only [takeG] at h
    split at h
    · rename_i hbn
      cases h
      subst hbn
      exact ⟨rfl, fun h => absurd rfl h, fun x hx => by cases hx⟩
    · split at h
      · cases h
      · rename_i hc
        split at h
        · cases h
        · rename_i t r hr
          obtain ⟨e1, ht, hrB, hrl⟩ := put_read hb hr
          split at h
          · cases h
          · rename_i htr
            split at h
            · cases h
            · rename_i d r2 hd
              obtain ⟨e2, hdB, hr2B, hr2l, hdl, _⟩ := put_data hrB hd
              cases hg : takeG f t (c + 1) r2 with
              | error e => rw [hg] at h; cases h
              | ok l2 =>
                rw [hg] at h
                simp only [consF, Except.ok.injEq] at h
                subst h
                obtain ⟨g1, g2, g3⟩ := put_take f t (c + 1) r2 l2 hr2B (by omega) (by omega) hg
                refine ⟨?_, fun _ => ?_, fun x hx => ?_⟩
                · simp only [putG]
                  rw [if_neg (by omega), if_neg (by omega), g1]
                  simp only [consA, Except.ok.injEq]
                  rw [e1, e2, List.append_assoc]
                · cases l2 with
                  | nil => simp; omega
                  | cons y l2 => have := g2 (by simp); simp at this ⊢; omega
                · rcases List.mem_cons.1 hx with rfl | hx
                  · exact ⟨hdB, by simp only; omega⟩
                  · have := g3 x hx; exact ⟨this.1, by omega⟩
/-! lists -/
def putL (l : List (List Int)) : List Int := putS l.length ++ l.flatMap putD
def putListS (l : List (List Int)) : Except Int (List Int) := if 256 < l.length then .error 3 else .ok (putL l)
def consL (a : List Int) : Except Int (List (List Int) × List Int) → Except Int (List (List Int) × List Int)
  | .ok (l, r) => .ok (a :: l, r)
  | .error e => .error e
def takeN : Nat → List Int → Except Int (List (List Int) × List Int)
  | 0, b => .ok ([], b)
  | n + 1, b => match dataS b with
    | .error e => .error e
    | .ok (d, r) => consL d (takeN n r)
def takeListS (b : List Int) : Except Int (List (List Int)) := match readS b with
  | .error e => .error e
  | .ok (n, r) => if n < 0 then .error 5 else if 256 < n then .error 3 else match takeN n.toNat r with
    | .error e => .error e
    | .ok (l, r2) => if r2 = [] then .ok l else .error 5
theorem takeN_put : ∀ (l : List (List Int)) (r : List Int), (∀ d ∈ l, (d.length : Int) ≤ 9223372036854775807) → takeN l.length (l.flatMap putD ++ r) = .ok (l, r)
  | [], r, _ => rfl
  | d :: l, r, h => by
    simp only [List.length_cons, List.flatMap_cons, takeN, List.append_assoc]
    rw [data_put (h d (by simp))]
    simp only []
    rw [takeN_put l r fun x hx => h x (by simp [hx])]
    rfl
theorem put_takeN : ∀ (n : Nat) (b : List Int) (l : List (List Int)) (r : List Int), isB b → takeN n b = .ok (l, r) → b = l.flatMap putD ++ r ∧ l.length = n ∧ isB r ∧ ∀ d ∈ l, isB d ∧ d.length < b.length
  | 0, b, l, r, hb, h => by cases h; exact ⟨rfl, rfl, hb, fun d hd => by cases hd⟩
  | n + 1, b, l, r, hb, h => by
    simp only [takeN] at h
    split at h
    · cases h
    · rename_i d r1 hd
      obtain ⟨e, hdB, hrB, hrl, hdl, _⟩ := put_data hb hd
      cases hg : takeN n r1 with
      | error e => rw [hg] at h; cases h
      | ok p =>
        obtain ⟨l2, r2⟩ := p
        rw [hg] at h
        simp only [consL, Except.ok.injEq, Prod.mk.injEq] at h
        obtain ⟨rfl, rfl⟩ := h
        obtain ⟨g1, g2, g3, g4⟩ := put_takeN n r1 l2 r2 hrB hg
        refine ⟨by rw [e, g1]; simp, by simp [g2], g3, fun x hx => ?_⟩
        rcases List.mem_cons.1 hx with rfl | hx
        · exact ⟨hdB, hdl⟩
        · have := g4 x hx; exact ⟨this.1, by omega⟩
theorem takeList_put {l : List (List Int)} (h : l.length ≤ 256) (hs : ∀ d ∈ l, (d.length : Int) ≤ 9223372036854775807) : takeListS (putL l) = .ok l := by
  unfold takeListS putL
  rw [read_put (by unfold in64; omega)]
  simp only []
  rw [if_neg (by omega), if_neg (by omega), show ((l.length : Nat) : Int).toNat = l.length by omega]
  have := takeN_put l [] hs
  rw [List.append_nil] at this
  rw [this]
  simp
theorem put_takeList {b : List Int} {l : List (List Int)} (hb : isB b) (h : takeListS b = .ok l) : putL l = b ∧ l.length ≤ 256 ∧ ∀ d ∈ l, isB d ∧ d.length < b.length := by
  unfold takeListS at h
  split at h
  · cases h
  · rename_i n r hr
    obtain ⟨e, hn, hrB, hrl⟩ := put_read hb hr
    split at h
    · cases h
    · split at h
      · cases h
      · rename_i h1 h2
        split at h
        · cases h
        · rename_i l2 r2 hg
          split at h
          · rename_i hr2
            cases h
            obtain ⟨g1, g2, _, g4⟩ := put_takeN _ _ _ _ hrB hg
            subst hr2
            refine ⟨?_, by omega, fun d hd => ⟨(g4 d hd).1, by have := (g4 d hd).2; omega⟩⟩
            unfold putL
            rw [g2, show ((n.toNat : Nat) : Int) = n by omega, e, g1, List.append_nil]
          · cases h

theorem rec2_of {w w1 : World} {b2 b3 : Nat} {v2 v3 z e : Value} {T2 T3 : TypeId} (hne : b2 ≠ b3) (hb : Below w.heap.size w w1) (h0 : w.heap[b2]? = some (.cells #[v2] T2 (0, 0))) (h2 : w1.heap[b2]? = some (.cells #[v2] T2 (0, 0)))
    (h3 : w1.heap[b3]? = some (.cells #[v3] T3 (0, 0))) : Rec2 w ((w1.setCell ⟨b2, 0, none⟩ z).setCell ⟨b3, 0, none⟩ e) b2 z b3 e := by
  refine ⟨hb.os, hb.tape, hb.output, ?_, fun k hk k2 k3 => ?_, ⟨T2, ?_⟩, ⟨T3, ?_⟩⟩
  · simpa [World.setCell] using hb.size
  · rw [Sy.heap_setCell_other k3, Sy.heap_setCell_other k2]
    exact hb.block k hk
  · rw [Sy.heap_setCell_other hne]
    exact Sy.heap_setCell_same (vs := [v2]) (o := 0) h2
  · exact Sy.heap_setCell_same (vs := [v3]) (o := 0) ((Sy.heap_setCell_other (Ne.symm hne)).trans h3)
theorem reason_calls (er : Int) (w : World) : Calls Try.prog 66 #[.iface 114 (.agg #[.int .i64 er])] w fun e w' => e = .returned (.int .i64 er) ∧ Below w.heap.size w w' := by
  have hta : ∀ w, (Instr.typeAssert (.iface 114 (.agg #[.int .i64 er])) 20 114 true).run Try.prog w = .ok (.tuple #[.agg #[.int .i64 er], .bool true]) w := fun w => by
    simp [Instr.typeAssert, run_underlying Try.underlying114]
  go_enter Try.func66, Try.ntmps66
  go_wp2
  refine bodyPost_ret (by simp [results, Try.results66, go_sem, *]; try rfl) rfl ?_
  exact ⟨rfl, by (repeat' (first | (with_reducible exact Below.refl _ _) | (with_reducible assumption) | (with_reducible refine Below.alloc ?_ ?_ _) | (with_reducible refine Below.drew ?_) | (with_reducible refine Below.setCell ?_ ?_ _) | (with_reducible exact Nat.le_refl _) | omega | (simp only [World.size_alloc, World.size_setCell, World.size_drew]; omega) | (simp; done)))⟩

theorem rec_TakeInt : Recovers Try.prog 70 114 (.int .i64 0) := by
  refine ⟨⟨_, Try.func70, rfl⟩, fun p q w => ?_, fun er b2 b3 w v2 v3 T2 T3 hne h2 h3 => ?_⟩
  · refine callsD_of_wpS Try.func70 rfl fun c₀ cs hu => ?_
    apply wpS_seq
    apply wpS_region
    simp [wpOpsS, go_sem, recoverD, hu, Try.ntmps70, Exit.thenS]
    rw [show (#[p, q] ++ ((Array.replicate 6 undef).setIfInBounds 1 Value.nilIface).setIfInBounds 0 Value.nilIface) = #[p, q, .nilIface, .nilIface, undef, undef, undef, undef] from rfl]
    refine wpS_of_wp ?_
    go_wp2
    cases c₀
    simp_all [bodyPostS, results, Try.results70]
  · refine callsD_of_wpS Try.func70 rfl fun c₀ cs hu => ?_
    apply wpS_seq
    apply wpS_region
    simp [wpOpsS, go_sem, recoverD, hu, Try.ntmps70, Exit.thenS]
    generalize hpv : Value.iface 114 (.agg #[.int .i64 er]) = pv at *
    rw [show (#[Value.pointer (some ⟨b2, 0, none⟩), Value.pointer (some ⟨b3, 0, none⟩)] ++ ((Array.replicate 6 undef).setIfInBounds 1 pv).setIfInBounds 0 pv) = #[.pointer (some ⟨b2, 0, none⟩), .pointer (some ⟨b3, 0, none⟩), pv, pv, undef, undef, undef, undef] from rfl]
    subst hpv
    refine wpS_of_wp ?_
    have hl2 := (Array.getElem?_eq_some_iff.1 h2).1
    have hl3 := (Array.getElem?_eq_some_iff.1 h3).1
    go_wp2_with (go_at_call 66; refine (reason_calls er _).mono ?_; rintro e w1 ⟨rfl, hb1⟩; have h21 := (hb1.block b2 hl2).trans h2; have h31 := (hb1.block b3 hl3).trans h3; have k2 : w1.cell? ⟨b2, 0, none⟩ = some v2 := (by simp [World.cell?, h21]); have f2 : w1.frozen? ⟨b2, 0, none⟩ = false := (by simp [World.frozen?, h21]); have k3 : w1.cell? ⟨b3, 0, none⟩ = some v3 := (by simp [World.cell?, h31]); have f3 : w1.frozen? ⟨b3, 0, none⟩ = false := (by simp [World.frozen?, h31]))
    refine ⟨rfl, _, rfl, .tuple #[], by simp [results, Try.results70], ⟨_, rfl⟩, rfl, ?_⟩
    exact rec2_of hne hb1 h2 h21 h31

theorem rec_Take : Recovers Try.prog 65 114 (.slice none 0 0) := by
  refine ⟨⟨_, Try.func65, rfl⟩, fun p q w => ?_, fun er b2 b3 w v2 v3 T2 T3 hne h2 h3 => ?_⟩
  · refine callsD_of_wpS Try.func65 rfl fun c₀ cs hu => ?_
    apply wpS_seq
    apply wpS_region
    simp [wpOpsS, go_sem, recoverD, hu, Try.ntmps65, Exit.thenS]
    rw [show (#[p, q] ++ ((Array.replicate 6 undef).setIfInBounds 1 Value.nilIface).setIfInBounds 0 Value.nilIface) = #[p, q, .nilIface, .nilIface, undef, undef, undef, undef] from rfl]
    refine wpS_of_wp ?_
    go_wp2
    cases c₀
    simp_all [bodyPostS, results, Try.results65]
  · refine callsD_of_wpS Try.func65 rfl fun c₀ cs hu => ?_
    apply wpS_seq
    apply wpS_region
    simp [wpOpsS, go_sem, recoverD, hu, Try.ntmps65, Exit.thenS]
    generalize hpv : Value.iface 114 (.agg #[.int .i64 er]) = pv at *
    rw [show (#[Value.pointer (some ⟨b2, 0, none⟩), Value.pointer (some ⟨b3, 0, none⟩)] ++ ((Array.replicate 6 undef).setIfInBounds 1 pv).setIfInBounds 0 pv) = #[.pointer (some ⟨b2, 0, none⟩), .pointer (some ⟨b3, 0, none⟩), pv, pv, undef, undef, undef, undef] from rfl]
    subst hpv
    refine wpS_of_wp ?_
    have hl2 := (Array.getElem?_eq_some_iff.1 h2).1
    have hl3 := (Array.getElem?_eq_some_iff.1 h3).1
    go_wp2_with (go_at_call 66; refine (reason_calls er _).mono ?_; rintro e w1 ⟨rfl, hb1⟩; have h21 := (hb1.block b2 hl2).trans h2; have h31 := (hb1.block b3 hl3).trans h3; have k2 : w1.cell? ⟨b2, 0, none⟩ = some v2 := (by simp [World.cell?, h21]); have f2 : w1.frozen? ⟨b2, 0, none⟩ = false := (by simp [World.frozen?, h21]); have k3 : w1.cell? ⟨b3, 0, none⟩ = some v3 := (by simp [World.cell?, h31]); have f3 : w1.frozen? ⟨b3, 0, none⟩ = false := (by simp [World.frozen?, h31]))
    refine ⟨rfl, _, rfl, .tuple #[], by simp [results, Try.results65], ⟨_, rfl⟩, rfl, ?_⟩
    exact rec2_of hne hb1 h2 h21 h31

theorem rec_TakeList : Recovers Try.prog 71 114 (.slice none 0 0) := by
  refine ⟨⟨_, Try.func71, rfl⟩, fun p q w => ?_, fun er b2 b3 w v2 v3 T2 T3 hne h2 h3 => ?_⟩
  · refine callsD_of_wpS Try.func71 rfl fun c₀ cs hu => ?_
    apply wpS_seq
    apply wpS_region
    simp [wpOpsS, go_sem, recoverD, hu, Try.ntmps71, Exit.thenS]
    rw [show (#[p, q] ++ ((Array.replicate 6 undef).setIfInBounds 1 Value.nilIface).setIfInBounds 0 Value.nilIface) = #[p, q, .nilIface, .nilIface, undef, undef, undef, undef] from rfl]
    refine wpS_of_wp ?_
    go_wp2
    cases c₀
    simp_all [bodyPostS, results, Try.results71]
  · refine callsD_of_wpS Try.func71 rfl fun c₀ cs hu => ?_
    apply wpS_seq
    apply wpS_region
    simp [wpOpsS, go_sem, recoverD, hu, Try.ntmps71, Exit.thenS]
    generalize hpv : Value.iface 114 (.agg #[.int .i64 er]) = pv at *
    rw [show (#[Value.pointer (some ⟨b2, 0, none⟩), Value.pointer (some ⟨b3, 0, none⟩)] ++ ((Array.replicate 6 undef).setIfInBounds 1 pv).setIfInBounds 0 pv) = #[.pointer (some ⟨b2, 0, none⟩), .pointer (some ⟨b3, 0, none⟩), pv, pv, undef, undef, undef, undef] from rfl]
    subst hpv
    refine wpS_of_wp ?_
    have hl2 := (Array.getElem?_eq_some_iff.1 h2).1
    have hl3 := (Array.getElem?_eq_some_iff.1 h3).1
    go_wp2_with (go_at_call 66; refine (reason_calls er _).mono ?_; rintro e w1 ⟨rfl, hb1⟩; have h21 := (hb1.block b2 hl2).trans h2; have h31 := (hb1.block b3 hl3).trans h3; have k2 : w1.cell? ⟨b2, 0, none⟩ = some v2 := (by simp [World.cell?, h21]); have f2 : w1.frozen? ⟨b2, 0, none⟩ = false := (by simp [World.frozen?, h21]); have k3 : w1.cell? ⟨b3, 0, none⟩ = some v3 := (by simp [World.cell?, h31]); have f3 : w1.frozen? ⟨b3, 0, none⟩ = false := (by simp [World.frozen?, h31]))
    refine ⟨rfl, _, rfl, .tuple #[], by simp [results, Try.results71], ⟨_, rfl⟩, rfl, ?_⟩
    exact rec2_of hne hb1 h2 h21 h31

def sgs : Nat → Option (List TS × List TS) := fun f => if Nat.beq f 63 then some ([.r [.int .u8], .c (.int .i64)], [.r [.int .u8]]) else if Nat.beq f 68 then some ([.p [.s (.lst [.int .u8])]], [.c (.int .i64)]) else if Nat.beq f 69 then some ([.p [.s (.lst [.int .u8])]], [.c (.lst [.int .u8])]) else if Nat.beq f 42 then some ([.c (.int .i64)], [.r [.int .u8]]) else if Nat.beq f 88 then some ([.c (.lst [.int .u8])], [.r [.int .u8]]) else none
def vccheck : VC := (.ite (.v 0)
 (.ret [])
 (.pan 114 (.rc (.cons (.v 1) .nil))))
theorem check_ent : EntOK Try.prog [] ⟨67, [(.c .bool), (.c (.int .i64))], [], vccheck⟩ :=
  ent_of_gen hP Try.func67 rfl (by decide) (sg := sgs) (by kernel_rfl)
def vcapp : VC := (.loop [(.lst [(.int .u8)]), (.int .u64)] [(.v 0), (.ar .xor .u64 (.shf .shl .u64 (.conv .u64 (.v 1)) (.ki .u64 1)) (.conv .u64 (.shf .shr .i64 (.v 1) (.ki .u64 63))))]
 (.ite (.cmp .geq (.v 3) (.ki .u64 128))
  (.ev [(.ob (.cmp .leq (.len (.app (.v 2) (.cons (.ar .or .u8 (.conv .u8 (.ar .and .u64 (.v 3) (.ki .u64 127))) (.ki .u8 128)) .nil))) (.ki .i64 4294967296)))]
   (.back 0 [(.app (.v 2) (.cons (.ar .or .u8 (.conv .u8 (.ar .and .u64 (.v 3) (.ki .u64 127))) (.ki .u8 128)) .nil)), (.shf .shr .u64 (.v 3) (.ki .u64 7))]))
  (.ev [(.ob (.cmp .leq (.len (.app (.v 2) (.cons (.conv .u8 (.v 3)) .nil))) (.ki .i64 4294967296)))]
   (.ret [(.app (.v 2) (.cons (.conv .u8 (.v 3)) .nil))]))))
theorem app_ent : EntOK Try.prog [] ⟨63, [(.r [(.int .u8)]), (.c (.int .i64))], [(.r [(.int .u8)])], vcapp⟩ :=
  ent_of_gen hP Try.func63 rfl (by decide) (sg := sgs) (by kernel_rfl)
def vcputint : VC := (.cal 63 [(.r [(.int .u8)]), (.c (.int .i64))] [.nil, (.v 0)] [(.r [(.int .u8)])] 1
 (.ret [(.v 1)]))
theorem putint_ent : EntOK Try.prog [] ⟨39, [(.c (.int .i64))], [(.c (.lst [(.int .u8)]))], vcputint⟩ :=
  ent_of_gen hP Try.func39 rfl (by decide) (sg := sgs) (by kernel_rfl)
def vcrputint : VC := (.ite (.cmp .lss (.v 0) (.ki .i64 0))
 (.loop [(.lst [(.int .u8)]), (.int .u64)] [.nil, (.ar .add .u64 (.ar .mul .u64 (.conv .u64 (.neg .i64 (.ar .add .i64 (.v 0) (.ki .i64 1)))) (.ki .u64 2)) (.ki .u64 1))]
  (.ite (.cmp .geq (.v 2) (.ki .u64 128))
   (.ev [(.ob (.cmp .leq (.len (.app (.v 1) (.cons (.ar .add .u8 (.conv .u8 (.ar .rem .u64 (.v 2) (.ki .u64 128))) (.ki .u8 128)) .nil))) (.ki .i64 4294967296)))]
    (.back 0 [(.app (.v 1) (.cons (.ar .add .u8 (.conv .u8 (.ar .rem .u64 (.v 2) (.ki .u64 128))) (.ki .u8 128)) .nil)), (.ar .quo .u64 (.v 2) (.ki .u64 128))]))
   (.ev [(.ob (.cmp .leq (.len (.app (.v 1) (.cons (.conv .u8 (.v 2)) .nil))) (.ki .i64 4294967296)))]
    (.ret [(.app (.v 1) (.cons (.conv .u8 (.v 2)) .nil))]))))
 (.loop [(.lst [(.int .u8)]), (.int .u64)] [.nil, (.ar .mul .u64 (.conv .u64 (.v 0)) (.ki .u64 2))]
  (.ite (.cmp .geq (.v 2) (.ki .u64 128))
   (.ev [(.ob (.cmp .leq (.len (.app (.v 1) (.cons (.ar .add .u8 (.conv .u8 (.ar .rem .u64 (.v 2) (.ki .u64 128))) (.ki .u8 128)) .nil))) (.ki .i64 4294967296)))]
    (.back 0 [(.app (.v 1) (.cons (.ar .add .u8 (.conv .u8 (.ar .rem .u64 (.v 2) (.ki .u64 128))) (.ki .u8 128)) .nil)), (.ar .quo .u64 (.v 2) (.ki .u64 128))]))
   (.ev [(.ob (.cmp .leq (.len (.app (.v 1) (.cons (.conv .u8 (.v 2)) .nil))) (.ki .i64 4294967296)))]
    (.ret [(.app (.v 1) (.cons (.conv .u8 (.v 2)) .nil))])))))
theorem rputint_ent : EntOK Try.prog [] ⟨42, [(.c (.int .i64))], [(.r [(.int .u8)])], vcrputint⟩ :=
  ent_of_gen hP Try.func42 rfl (by decide) (sg := sgs) (by kernel_rfl)
def vcsame : VC := (.ret [(.seq (.b2s (.v 0)) (.b2s (.v 1)))])
def vcclone : VC := (.nilq (.v 0)
 (.ret [.nil])
 (.ev [(.ob (.cmp .leq (.len (.app .nil (.v 0))) (.ki .i64 4294967296)))]
  (.ret [(.app .nil (.v 0))])))
theorem clone_ent : EntOK Try.prog [] ⟨88, [(.c (.lst [(.int .u8)]))], [(.r [(.int .u8)])], vcclone⟩ :=
  ent_of_gen hP Try.func88 rfl (by decide) (sg := sgs) (by kernel_rfl)
def vcrread_0 : VC := (.loop [(.int .u64), (.int .i64)] [(.ki .u64 0), (.v 2)] (.ite (.cmp .geq (.v 4) (.ki .i64 0)) (.ev [(.ob (.cmp .geq (.ar .add .i64 (.v 1) (.v 4)) (.ki .i64 0))), (.ob (.cmp .lss (.ar .add .i64 (.v 1) (.v 4)) (.len (.v 0))))] (.back 1 [(.ar .add .u64 (.ar .mul .u64 (.v 3) (.ki .u64 128)) (.conv .u64 (.ar .rem .u8 (.get (.v 0) (.ar .add .i64 (.v 1) (.v 4))) (.ki .u8 128)))), (.ar .sub .i64 (.v 4) (.ki .i64 1))])) (.ite (.cmp .eql (.ar .rem .u64 (.v 3) (.ki .u64 2)) (.ki .u64 1)) (.ret [(.ar .sub .i64 (.neg .i64 (.conv .i64 (.ar .quo .u64 (.v 3) (.ki .u64 2)))) (.ki .i64 1)), (.ar .add .i64 (.ar .add .i64 (.v 1) (.v 2)) (.ki .i64 1)), (.ki .i64 0)]) (.ret [(.conv .i64 (.ar .quo .u64 (.v 3) (.ki .u64 2))), (.ar .add .i64 (.ar .add .i64 (.v 1) (.v 2)) (.ki .i64 1)), (.ki .i64 0)]))))
def vcrread_1 : VC := (.ite (.cmp .eql (.v 2) (.ki .i64 9)) (.ite (.cmp .gtr (.get (.v 0) (.ar .add .i64 (.v 1) (.v 2))) (.ki .u8 1)) (.ret [(.ki .i64 0), (.ki .i64 0), (.ki .i64 5)]) vcrread_0) vcrread_0)
def vcrread : VC := (.loop [(.int .i64)] [(.ki .i64 0)] (.ite (.cmp .lss (.ar .add .i64 (.v 1) (.v 2)) (.len (.v 0))) (.ev [(.ob (.cmp .geq (.ar .add .i64 (.v 1) (.v 2)) (.ki .i64 0))), (.ob (.cmp .lss (.ar .add .i64 (.v 1) (.v 2)) (.len (.v 0))))] (.ite (.cmp .geq (.get (.v 0) (.ar .add .i64 (.v 1) (.v 2))) (.ki .u8 128)) (.back 0 [(.ar .add .i64 (.v 2) (.ki .i64 1))]) (.ite (.cmp .geq (.v 2) (.ki .i64 10)) (.ret [(.ki .i64 0), (.ki .i64 0), (.ki .i64 5)]) (.ev [(.ob (.cmp .geq (.ar .add .i64 (.v 1) (.v 2)) (.ki .i64 0))), (.ob (.cmp .lss (.ar .add .i64 (.v 1) (.v 2)) (.len (.v 0))))] (.ite (.cmp .eql (.get (.v 0) (.ar .add .i64 (.v 1) (.v 2))) (.ki .u8 0)) (.ite (.cmp .gtr (.v 2) (.ki .i64 0)) (.ret [(.ki .i64 0), (.ki .i64 0), (.ki .i64 5)]) vcrread_1) vcrread_1))))) (.ite (.cmp .geq (.v 2) (.ki .i64 10)) (.ret [(.ki .i64 0), (.ki .i64 0), (.ki .i64 5)]) (.ret [(.ki .i64 0), (.ki .i64 0), (.ki .i64 6)]))))
theorem rread_ent : EntOK Try.prog [] ⟨73, [(.c (.lst [(.int .u8)])), (.c (.int .i64))], [(.c (.int .i64)), (.c (.int .i64)), (.c (.int .i64))], vcrread⟩ :=
  ent_of_gen hP Try.func73 rfl (by decide) (sg := sgs) (by kernel_rfl)
def vcrbytes : VC := (.cal 73 [(.c (.lst [(.int .u8)])), (.c (.int .i64))] [(.v 0), (.v 1)] [(.c (.int .i64)), (.c (.int .i64)), (.c (.int .i64))] 2
 (.ite (.cmp .neq (.v 4) (.ki .i64 0))
  (.ret [.nil, (.ki .i64 0), (.v 4)])
  (.ite (.cmp .lss (.v 2) (.ki .i64 0))
   (.ret [.nil, (.ki .i64 0), (.ki .i64 5)])
   (.ite (.cmp .gtr (.v 2) (.ar .sub .i64 (.len (.v 0)) (.v 3)))
    (.ret [.nil, (.ki .i64 0), (.ki .i64 6)])
    (.ev [(.ob (.cmp .leq (.ki .i64 0) (.ar .add .i64 (.v 3) (.v 2)))), (.ob (.cmp .leq (.ar .add .i64 (.v 3) (.v 2)) (.len (.v 0)))), (.ob (.cmp .leq (.ki .i64 0) (.v 3))), (.ob (.cmp .leq (.v 3) (.ar .add .i64 (.v 3) (.v 2))))]
     (.ev [(.ob (.cmp .leq (.len (.app .nil (.sub (.v 0) (.v 3) (.ar .add .i64 (.v 3) (.v 2))))) (.ki .i64 4294967296)))]
      (.ret [(.app .nil (.sub (.v 0) (.v 3) (.ar .add .i64 (.v 3) (.v 2)))), (.ar .add .i64 (.v 3) (.v 2)), (.ki .i64 0)])))))))
theorem rbytes_ent : EntOK Try.prog [] ⟨74, [(.c (.lst [(.int .u8)])), (.c (.int .i64))], [(.c (.lst [(.int .u8)])), (.c (.int .i64)), (.c (.int .i64))], vcrbytes⟩ :=
  ent_of_gen hP Try.func74 rfl (by decide) (sg := sgs) (by kernel_rfl)
def vcdat : VC := (.cal 68 [(.p [(.s (.lst [(.int .u8)]))])] [(.rc (.cons (.v 0) .nil))] [(.c (.int .i64))] 1
 (.cal 67 [(.c .bool), (.c (.int .i64))] [(.cmp .geq (.v 1) (.ki .i64 0)), (.ki .i64 5)] [] 3
  (.cal 67 [(.c .bool), (.c (.int .i64))] [(.cmp .leq (.v 1) (.len (.v 2))), (.ki .i64 6)] [] 3
   (.ev [(.ob (.cmp .leq (.ki .i64 0) (.v 1))), (.ob (.cmp .leq (.v 1) (.len (.v 2)))), (.ob (.cmp .leq (.ki .i64 0) (.v 1))), (.ob (.cmp .leq (.v 1) (.v 1)))]
    (.cal 88 [(.c (.lst [(.int .u8)]))] [(.sub (.v 2) (.ki .i64 0) (.v 1))] [(.r [(.int .u8)])] 3
     (.ev [(.ob (.cmp .leq (.ki .i64 0) (.v 1))), (.ob (.cmp .leq (.v 1) (.len (.v 2))))]
      (.ret [(.v 3), (.rc (.cons (.sub (.v 2) (.v 1) (.len (.v 2))) .nil))])))))))
theorem dat_ent : EntOK Try.prog [] ⟨69, [(.p [(.s (.lst [(.int .u8)]))])], [(.c (.lst [(.int .u8)]))], vcdat⟩ :=
  ent_of_gen hP Try.func69 rfl (by decide) (sg := sgs) (by kernel_rfl)
def vcbig : VC := (.ite (.cmp .gtr (.len (.v 0)) (.ki .i64 300))
 (.ret [(.kb true)])
 (.loop [.bool, (.int .i64), (.int .i64)] [(.kb false), (.ki .i64 0), (.ki .i64 0)]
  (.ite (.cmp .lss (.v 3) (.len (.v 0)))
   (.ev [(.ob (.cmp .geq (.v 3) (.ki .i64 0))), (.ob (.cmp .lss (.v 3) (.len (.v 0))))]
    (.ite (.cmp .gtr (.len (.get (.v 0) (.v 3))) (.ki .i64 65536))
     (.ret [(.kb true)])
     (.ev [(.ob (.cmp .geq (.v 3) (.ki .i64 0))), (.ob (.cmp .lss (.v 3) (.len (.v 0))))]
      (.back 0 [(.v 1), (.ar .add .i64 (.v 2) (.len (.get (.v 0) (.v 3)))), (.ar .add .i64 (.v 3) (.ki .i64 1))]))))
   (.ret [(.cmp .gtr (.v 2) (.ki .i64 65536))]))))
def vcdata : VC := (.loop [(.lst [(.lst [(.int .u8)])]), (.lst [(.lst [(.int .u8)])]), (.int .i64)] [.nil, .nil, (.ki .i64 0)]
 (.ite (.cmp .lss (.v 3) (.len (.v 0)))
  (.ev [(.ob (.cmp .geq (.v 3) (.ki .i64 0))), (.ob (.cmp .lss (.v 3) (.len (.v 0))))]
   (.ev [(.ob (.cmp .leq (.len (.app (.v 1) (.cons (.cell (.get (.v 0) (.v 3)) 1) .nil))) (.ki .i64 4294967296)))]
    (.ite (.cmp .gtr (.v 3) (.ki .i64 300))
     (.ret [(.app (.v 1) (.cons (.cell (.get (.v 0) (.v 3)) 1) .nil))])
     (.back 0 [(.app (.v 1) (.cons (.cell (.get (.v 0) (.v 3)) 1) .nil)), (.v 2), (.ar .add .i64 (.v 3) (.ki .i64 1))]))))
  (.ret [(.v 1)])))
def vcget : VC := (.loop [(.lst [(.int .u8)]), .bool, (.int .i64)] [.nil, (.kb false), (.ki .i64 0)]
 (.ite (.cmp .lss (.v 4) (.len (.v 0)))
  (.ev [(.ob (.cmp .geq (.v 4) (.ki .i64 0))), (.ob (.cmp .lss (.v 4) (.len (.v 0))))]
   (.ite (.cmp .eql (.cell (.get (.v 0) (.v 4)) 0) (.v 1))
    (.cal 88 [(.c (.lst [(.int .u8)]))] [(.cell (.get (.v 0) (.v 4)) 1)] [(.r [(.int .u8)])] 5
     (.ret [(.v 5), (.kb true)]))
    (.back 0 [(.v 2), (.v 3), (.ar .add .i64 (.v 4) (.ki .i64 1))])))
  (.ret [.nil, (.kb false)])))
def vcrget : VC := (.loop [(.lst [(.int .u8)]), .bool, (.int .i64)] [.nil, (.kb false), (.ki .i64 0)]
 (.ite (.cmp .lss (.v 4) (.len (.v 0)))
  (.ev [(.ob (.cmp .geq (.v 4) (.ki .i64 0))), (.ob (.cmp .lss (.v 4) (.len (.v 0))))]
   (.ite (.cmp .eql (.cell (.get (.v 0) (.v 4)) 0) (.v 1))
    (.ev [(.ob (.cmp .geq (.v 4) (.ki .i64 0))), (.ob (.cmp .lss (.v 4) (.len (.v 0))))]
     (.ret [(.cell (.get (.v 0) (.v 4)) 1), (.kb true)]))
    (.back 0 [(.v 2), (.v 3), (.ar .add .i64 (.v 4) (.ki .i64 1))])))
  (.ret [.nil, (.kb false)])))
theorem rget_ent : EntOK Try.prog [] ⟨90, [(.c (.lst [(.int .i64), (.lst [(.int .u8)])])), (.c (.int .i64))], [(.c (.lst [(.int .u8)])), (.c .bool)], vcrget⟩ :=
  ent_of_gen hP Try.func90 rfl (by decide) (sg := sgs) (by kernel_rfl)
def vcrtakeint : VC := (.cal 73 [(.c (.lst [(.int .u8)])), (.c (.int .i64))] [(.v 0), (.ki .i64 0)] [(.c (.int .i64)), (.c (.int .i64)), (.c (.int .i64))] 1
 (.ite (.cmp .neq (.v 3) (.ki .i64 0))
  (.ret [(.ki .i64 0), (.v 3)])
  (.ite (.cmp .neq (.v 2) (.len (.v 0)))
   (.ret [(.ki .i64 0), (.ki .i64 5)])
   (.ret [(.v 1), (.ki .i64 0)]))))
theorem rtakeint_ent : EntOK Try.prog [] ⟨49, [(.c (.lst [(.int .u8)]))], [(.c (.int .i64)), (.c (.int .i64))], vcrtakeint⟩ :=
  ent_of_gen hP Try.func49 rfl (by decide) (sg := sgs) (by kernel_rfl)
def vcput_0 : VC := (.cal 63 [(.r [(.int .u8)]), (.c (.int .i64))] [(.v 1), (.cell (.get (.v 0) (.v 5)) 0)] [(.r [(.int .u8)])] 6 (.cal 63 [(.r [(.int .u8)]), (.c (.int .i64))] [(.v 6), (.len (.cell (.get (.v 0) (.v 5)) 1))] [(.r [(.int .u8)])] 7 (.ev [(.ob (.cmp .leq (.len (.app (.v 7) (.cell (.get (.v 0) (.v 5)) 1))) (.ki .i64 4294967296)))] (.back 0 [(.app (.v 7) (.cell (.get (.v 0) (.v 5)) 1)), (.v 2), (.v 3), (.cell (.get (.v 0) (.v 5)) 0), (.ar .add .i64 (.v 5) (.ki .i64 1))]))))
def vcput : VC := (.ite (.cmp .gtr (.len (.v 0)) (.ki .i64 256)) (.ret [.nil, (.ki .i64 3)]) (.loop [(.lst [(.int .u8)]), (.lst [(.int .u8)]), (.int .i64), (.int .i64), (.int .i64)] [.nil, .nil, (.ki .i64 0), (.ki .i64 0), (.ki .i64 0)] (.ite (.cmp .lss (.v 5) (.len (.v 0))) (.ev [(.ob (.cmp .geq (.v 5) (.ki .i64 0))), (.ob (.cmp .lss (.v 5) (.len (.v 0))))] (.ite (.cmp .lss (.cell (.get (.v 0) (.v 5)) 0) (.ki .i64 1)) (.ret [.nil, (.ki .i64 2)]) (.ite (.cmp .gtr (.cell (.get (.v 0) (.v 5)) 0) (.ki .i64 1000)) (.ret [.nil, (.ki .i64 2)]) (.ite (.cmp .gtr (.v 5) (.ki .i64 0)) (.ite (.cmp .leq (.cell (.get (.v 0) (.v 5)) 0) (.v 4)) (.ret [.nil, (.ki .i64 1)]) vcput_0) vcput_0)))) (.ret [(.v 1), (.ki .i64 0)]))))
theorem put_ent : EntOK Try.prog [] ⟨38, [(.c (.lst [(.int .i64), (.lst [(.int .u8)])]))], [(.c (.lst [(.int .u8)])), (.c (.int .i64))], vcput⟩ :=
  ent_of_gen hP Try.func38 rfl (by decide) (sg := sgs) (by kernel_rfl)
def vcrput_0 : VC := (.ev [(.ob (.cmp .geq (.v 4) (.ki .i64 0))), (.ob (.cmp .lss (.v 4) (.len (.v 0))))] (.cal 42 [(.c (.int .i64))] [(.cell (.get (.v 0) (.v 4)) 0)] [(.r [(.int .u8)])] 5 (.ev [(.ob (.cmp .leq (.len (.app (.v 1) (.v 5))) (.ki .i64 4294967296)))] (.ev [(.ob (.cmp .geq (.v 4) (.ki .i64 0))), (.ob (.cmp .lss (.v 4) (.len (.v 0))))] (.cal 42 [(.c (.int .i64))] [(.len (.cell (.get (.v 0) (.v 4)) 1))] [(.r [(.int .u8)])] 6 (.ev [(.ob (.cmp .leq (.len (.app (.app (.v 1) (.v 5)) (.v 6))) (.ki .i64 4294967296)))] (.ev [(.ob (.cmp .geq (.v 4) (.ki .i64 0))), (.ob (.cmp .lss (.v 4) (.len (.v 0))))] (.ev [(.ob (.cmp .leq (.len (.app (.app (.app (.v 1) (.v 5)) (.v 6)) (.cell (.get (.v 0) (.v 4)) 1))) (.ki .i64 4294967296)))] (.back 0 [(.app (.app (.app (.v 1) (.v 5)) (.v 6)) (.cell (.get (.v 0) (.v 4)) 1)), (.v 2), (.v 3), (.ar .add .i64 (.v 4) (.ki .i64 1))])))))))))
def vcrput : VC := (.ite (.cmp .gtr (.len (.v 0)) (.ki .i64 256)) (.ret [.nil, (.ki .i64 3)]) (.loop [(.lst [(.int .u8)]), (.lst [(.int .u8)]), (.int .i64), (.int .i64)] [.nil, .nil, (.ki .i64 0), (.ki .i64 0)] (.ite (.cmp .lss (.v 4) (.len (.v 0))) (.ev [(.ob (.cmp .geq (.v 4) (.ki .i64 0))), (.ob (.cmp .lss (.v 4) (.len (.v 0))))] (.ite (.cmp .lss (.cell (.get (.v 0) (.v 4)) 0) (.ki .i64 1)) (.ret [.nil, (.ki .i64 2)]) (.ev [(.ob (.cmp .geq (.v 4) (.ki .i64 0))), (.ob (.cmp .lss (.v 4) (.len (.v 0))))] (.ite (.cmp .gtr (.cell (.get (.v 0) (.v 4)) 0) (.ki .i64 1000)) (.ret [.nil, (.ki .i64 2)]) (.ite (.cmp .gtr (.v 4) (.ki .i64 0)) (.ev [(.ob (.cmp .geq (.v 4) (.ki .i64 0))), (.ob (.cmp .lss (.v 4) (.len (.v 0)))), (.ob (.cmp .geq (.ar .sub .i64 (.v 4) (.ki .i64 1)) (.ki .i64 0))), (.ob (.cmp .lss (.ar .sub .i64 (.v 4) (.ki .i64 1)) (.len (.v 0))))] (.ite (.cmp .leq (.cell (.get (.v 0) (.v 4)) 0) (.cell (.get (.v 0) (.ar .sub .i64 (.v 4) (.ki .i64 1))) 0)) (.ret [.nil, (.ki .i64 1)]) vcrput_0)) vcrput_0))))) (.ret [(.v 1), (.ki .i64 0)]))))
theorem rput_ent : EntOK Try.prog [] ⟨43, [(.c (.lst [(.int .i64), (.lst [(.int .u8)])]))], [(.c (.lst [(.int .u8)])), (.c (.int .i64))], vcrput⟩ :=
  ent_of_gen hP Try.func43 rfl (by decide) (sg := sgs) (by kernel_rfl)
def vcrtake_0 : VC := (.cal 74 [(.c (.lst [(.int .u8)])), (.c (.int .i64))] [(.v 0), (.v 6)] [(.c (.lst [(.int .u8)])), (.c (.int .i64)), (.c (.int .i64))] 8 (.ite (.cmp .neq (.v 10) (.ki .i64 0)) (.ret [.nil, (.v 10)]) (.ev [(.ob (.cmp .leq (.len (.app (.v 1) (.cons (.rc (.cons (.v 5) (.cons (.v 8) .nil))) .nil))) (.ki .i64 4294967296)))] (.back 0 [(.app (.v 1) (.cons (.rc (.cons (.v 5) (.cons (.v 8) .nil))) .nil)), (.v 2), (.v 3), (.v 9)]))))
def vcrtake : VC := (.loop [(.lst [(.int .i64), (.lst [(.int .u8)])]), (.lst [(.int .i64), (.lst [(.int .u8)])]), (.int .i64), (.int .i64)] [.nil, .nil, (.ki .i64 0), (.ki .i64 0)] (.ite (.cmp .lss (.v 4) (.len (.v 0))) (.ite (.cmp .eql (.len (.v 1)) (.ki .i64 256)) (.ret [.nil, (.ki .i64 3)]) (.cal 73 [(.c (.lst [(.int .u8)])), (.c (.int .i64))] [(.v 0), (.v 4)] [(.c (.int .i64)), (.c (.int .i64)), (.c (.int .i64))] 5 (.ite (.cmp .neq (.v 7) (.ki .i64 0)) (.ret [.nil, (.v 7)]) (.ite (.cmp .lss (.v 5) (.ki .i64 1)) (.ret [.nil, (.ki .i64 5)]) (.ite (.cmp .gtr (.v 5) (.ki .i64 1000)) (.ret [.nil, (.ki .i64 5)]) (.ite (.cmp .gtr (.len (.v 1)) (.ki .i64 0)) (.ev [(.ob (.cmp .geq (.ar .sub .i64 (.len (.v 1)) (.ki .i64 1)) (.ki .i64 0))), (.ob (.cmp .lss (.ar .sub .i64 (.len (.v 1)) (.ki .i64 1)) (.len (.v 1))))] (.ev [(.ob (.cmp .lss (.ar .sub .i64 (.len (.v 1)) (.ki .i64 1)) (.len (.v 1))))] (.ite (.cmp .leq (.v 5) (.cell (.get (.v 1) (.ar .sub .i64 (.len (.v 1)) (.ki .i64 1))) 0)) (.ret [.nil, (.ki .i64 5)]) vcrtake_0))) vcrtake_0)))))) (.ret [(.v 1), (.ki .i64 0)])))
theorem rtake_ent : EntOK Try.prog [] ⟨48, [(.c (.lst [(.int .u8)]))], [(.c (.lst [(.int .i64), (.lst [(.int .u8)])])), (.c (.int .i64))], vcrtake⟩ :=
  ent_of_gen hP Try.func48 rfl (by decide) (sg := sgs) (by kernel_rfl)
def vcputl : VC := (.ite (.cmp .gtr (.len (.v 0)) (.ki .i64 256))
 (.ret [.nil, (.ki .i64 3)])
 (.cal 63 [(.r [(.int .u8)]), (.c (.int .i64))] [.nil, (.len (.v 0))] [(.r [(.int .u8)])] 1
  (.loop [(.lst [(.int .u8)]), (.int .i64)] [(.v 1), (.ki .i64 0)]
   (.ite (.cmp .lss (.v 3) (.len (.v 0)))
    (.ev [(.ob (.cmp .geq (.v 3) (.ki .i64 0))), (.ob (.cmp .lss (.v 3) (.len (.v 0))))]
     (.cal 63 [(.r [(.int .u8)]), (.c (.int .i64))] [(.v 2), (.len (.get (.v 0) (.v 3)))] [(.r [(.int .u8)])] 4
      (.ev [(.ob (.cmp .leq (.len (.app (.v 4) (.get (.v 0) (.v 3)))) (.ki .i64 4294967296)))]
       (.back 0 [(.app (.v 4) (.get (.v 0) (.v 3))), (.ar .add .i64 (.v 3) (.ki .i64 1))]))))
    (.ret [(.v 2), (.ki .i64 0)])))))
theorem putl_ent : EntOK Try.prog [] ⟨37, [(.c (.lst [(.lst [(.int .u8)])]))], [(.c (.lst [(.int .u8)])), (.c (.int .i64))], vcputl⟩ :=
  ent_of_gen hP Try.func37 rfl (by decide) (sg := sgs) (by kernel_rfl)
def vcrputl : VC := (.ite (.cmp .gtr (.len (.v 0)) (.ki .i64 256))
 (.ret [.nil, (.ki .i64 3)])
 (.cal 42 [(.c (.int .i64))] [(.len (.v 0))] [(.r [(.int .u8)])] 1
  (.loop [(.lst [(.int .u8)]), (.int .i64)] [(.v 1), (.ki .i64 0)]
   (.ite (.cmp .lss (.v 3) (.len (.v 0)))
    (.ev [(.ob (.cmp .geq (.v 3) (.ki .i64 0))), (.ob (.cmp .lss (.v 3) (.len (.v 0))))]
     (.cal 42 [(.c (.int .i64))] [(.len (.get (.v 0) (.v 3)))] [(.r [(.int .u8)])] 4
      (.ev [(.ob (.cmp .leq (.len (.app (.v 2) (.v 4))) (.ki .i64 4294967296)))]
       (.ev [(.ob (.cmp .geq (.v 3) (.ki .i64 0))), (.ob (.cmp .lss (.v 3) (.len (.v 0))))]
        (.ev [(.ob (.cmp .leq (.len (.app (.app (.v 2) (.v 4)) (.get (.v 0) (.v 3)))) (.ki .i64 4294967296)))]
         (.back 0 [(.app (.app (.v 2) (.v 4)) (.get (.v 0) (.v 3))), (.ar .add .i64 (.v 3) (.ki .i64 1))]))))))
    (.ret [(.v 2), (.ki .i64 0)])))))
theorem rputl_ent : EntOK Try.prog [] ⟨41, [(.c (.lst [(.lst [(.int .u8)])]))], [(.c (.lst [(.int .u8)])), (.c (.int .i64))], vcrputl⟩ :=
  ent_of_gen hP Try.func41 rfl (by decide) (sg := sgs) (by kernel_rfl)
def vcrtakel : VC := (.cal 73 [(.c (.lst [(.int .u8)])), (.c (.int .i64))] [(.v 0), (.ki .i64 0)] [(.c (.int .i64)), (.c (.int .i64)), (.c (.int .i64))] 1
 (.ite (.cmp .neq (.v 3) (.ki .i64 0))
  (.ret [.nil, (.v 3)])
  (.ite (.cmp .lss (.v 1) (.ki .i64 0))
   (.ret [.nil, (.ki .i64 5)])
   (.ite (.cmp .gtr (.v 1) (.ki .i64 256))
    (.ret [.nil, (.ki .i64 3)])
    (.loop [(.lst [(.lst [(.int .u8)])]), (.lst [(.lst [(.int .u8)])]), (.int .i64), (.int .i64), (.int .i64)] [.nil, .nil, (.ki .i64 0), (.v 2), (.ki .i64 0)]
     (.ite (.cmp .lss (.v 8) (.v 1))
      (.cal 74 [(.c (.lst [(.int .u8)])), (.c (.int .i64))] [(.v 0), (.v 7)] [(.c (.lst [(.int .u8)])), (.c (.int .i64)), (.c (.int .i64))] 9
       (.ite (.cmp .neq (.v 11) (.ki .i64 0))
        (.ret [.nil, (.v 11)])
        (.ev [(.ob (.cmp .leq (.len (.app (.v 4) (.cons (.v 9) .nil))) (.ki .i64 4294967296)))]
         (.back 0 [(.app (.v 4) (.cons (.v 9) .nil)), (.v 5), (.v 6), (.v 10), (.ar .add .i64 (.v 8) (.ki .i64 1))]))))
      (.ite (.cmp .neq (.v 7) (.len (.v 0)))
       (.ret [.nil, (.ki .i64 5)])
       (.ret [(.v 4), (.ki .i64 0)]))))))))
theorem rtakel_ent : EntOK Try.prog [] ⟨50, [(.c (.lst [(.int .u8)]))], [(.c (.lst [(.lst [(.int .u8)])])), (.c (.int .i64))], vcrtakel⟩ :=
  ent_of_gen hP Try.func50 rfl (by decide) (sg := sgs) (by kernel_rfl)
def vcint_0 : VC := (.ev [(.ob (.cmp .leq (.ki .i64 0) (.ar .add .i64 (.v 1) (.ki .i64 1)))), (.ob (.cmp .leq (.ar .add .i64 (.v 1) (.ki .i64 1)) (.len (.v 0))))] (.loop [(.int .u64), (.int .i64)] [(.ki .u64 0), (.ki .i64 0)] (.ite (.cmp .lss (.v 3) (.len (.sub (.v 0) (.ki .i64 0) (.ar .add .i64 (.v 1) (.ki .i64 1))))) (.ev [(.ob (.cmp .geq (.v 3) (.ki .i64 0))), (.ob (.cmp .lss (.v 3) (.len (.sub (.v 0) (.ki .i64 0) (.ar .add .i64 (.v 1) (.ki .i64 1))))))] (.ev [(.ob (.cmp .geq (.ar .mul .i64 (.ki .i64 7) (.v 3)) (.ki .i64 0)))] (.back 1 [(.ar .or .u64 (.v 2) (.shf .shl .u64 (.conv .u64 (.ar .and .u8 (.get (.sub (.v 0) (.ki .i64 0) (.ar .add .i64 (.v 1) (.ki .i64 1))) (.v 3)) (.ki .u8 127))) (.ar .mul .i64 (.ki .i64 7) (.v 3)))), (.ar .add .i64 (.v 3) (.ki .i64 1))]))) (.ev [(.ob (.cmp .leq (.ki .i64 0) (.ar .add .i64 (.v 1) (.ki .i64 1)))), (.ob (.cmp .leq (.ar .add .i64 (.v 1) (.ki .i64 1)) (.len (.v 0))))] (.ret [(.ar .xor .i64 (.conv .i64 (.shf .shr .u64 (.v 2) (.ki .u64 1))) (.neg .i64 (.conv .i64 (.ar .and .u64 (.v 2) (.ki .u64 1))))), (.rc (.cons (.sub (.v 0) (.ar .add .i64 (.v 1) (.ki .i64 1)) (.len (.v 0))) .nil))])))))
def vcint_1 : VC := (.ite (.cmp .lss (.v 1) (.ki .i64 9)) (.cal 67 [(.c .bool), (.c (.int .i64))] [(.kb true), (.ki .i64 5)] [] 2 vcint_0) (.cal 67 [(.c .bool), (.c (.int .i64))] [(.cmp .leq (.get (.v 0) (.v 1)) (.ki .u8 1)), (.ki .i64 5)] [] 2 vcint_0))
def vcint_2 : VC := (.cal 67 [(.c .bool), (.c (.int .i64))] [(.cmp .lss (.v 1) (.ki .i64 10)), (.ki .i64 5)] [] 2 (.cal 67 [(.c .bool), (.c (.int .i64))] [(.cmp .lss (.v 1) (.len (.v 0))), (.ki .i64 6)] [] 2 (.ev [(.ob (.cmp .geq (.v 1) (.ki .i64 0))), (.ob (.cmp .lss (.v 1) (.len (.v 0))))] (.ite (.cmp .neq (.get (.v 0) (.v 1)) (.ki .u8 0)) (.cal 67 [(.c .bool), (.c (.int .i64))] [(.kb true), (.ki .i64 5)] [] 2 vcint_1) (.cal 67 [(.c .bool), (.c (.int .i64))] [(.cmp .eql (.v 1) (.ki .i64 0)), (.ki .i64 5)] [] 2 vcint_1)))))
def vcint : VC := (.loop [(.int .i64)] [(.ki .i64 0)] (.ite (.cmp .lss (.v 1) (.len (.v 0))) (.ite (.cmp .lss (.v 1) (.ki .i64 10)) (.ev [(.ob (.cmp .geq (.v 1) (.ki .i64 0))), (.ob (.cmp .lss (.v 1) (.len (.v 0))))] (.ite (.cmp .geq (.get (.v 0) (.v 1)) (.ki .u8 128)) (.back 0 [(.ar .add .i64 (.v 1) (.ki .i64 1))]) vcint_2)) vcint_2) vcint_2))
theorem int_ent : EntOK Try.prog [] ⟨68, [(.p [(.s (.lst [(.int .u8)]))])], [(.c (.int .i64))], vcint⟩ :=
  ent_of_gen hP Try.func68 rfl (by decide) (sg := sgs) (by kernel_rfl)

def vctakeint : VC := (.cal 68 [(.p [(.s (.lst [(.int .u8)]))])] [(.rc (.cons (.v 0) .nil))] [(.c (.int .i64))] 1
 (.cal 67 [(.c .bool), (.c (.int .i64))] [(.cmp .eql (.len (.v 2)) (.ki .i64 0)), (.ki .i64 5)] [] 3
  (.ret [(.v 1), (.ki .i64 0)])))
theorem takeint_ent (ds : List D) (r : FR) (h : vctakeint.den Try.prog [] (KD 114 (I64d 0) r) [] (flatD [(.c (.lst [(.int .u8)]))] ds)) : Fun Try.prog [] 45 [(.c (.lst [(.int .u8)]))] ds [(.c (.int .i64)), (.c (.int .i64))] r := by
  exact fun_of_def hP Try.func45 rfl (g := 70) (a := 2) (b := 3) (t := 5) rfl rfl rfl rfl rfl rfl (sg := sgs) rfl rec_TakeInt (az := (.d (.int .i64) (.ki .i64 0))) (fun η M => by show Rep M (.int .i64) (.int .i64 0) (I64d 0); rw [Rep_int]; exact ⟨0, rfl, rfl, by decide, by decide⟩) rfl rfl (by decide) (by decide) (by decide) (e0 := (.ki .i64 0)) (fun ρ => rfl) (by kernel_rfl) (by decide) (by kernel_rfl) h
def vctake_0 : VC := (.cal 69 [(.p [(.s (.lst [(.int .u8)]))])] [(.rc (.cons (.v 5) .nil))] [(.c (.lst [(.int .u8)]))] 6 (.ev [(.ob (.cmp .leq (.len (.app (.v 2) (.cons (.rc (.cons (.v 4) (.cons (.v 6) .nil))) .nil))) (.ki .i64 4294967296)))] (.back 0 [(.v 7), (.app (.v 2) (.cons (.rc (.cons (.v 4) (.cons (.v 6) .nil))) .nil)), (.v 4)])))
def vctake : VC := (.loop [(.lst [(.int .u8)]), (.lst [(.int .i64), (.lst [(.int .u8)])]), (.int .i64)] [(.v 0), .nil, (.ki .i64 0)] (.ite (.cmp .gtr (.len (.v 1)) (.ki .i64 0)) (.cal 67 [(.c .bool), (.c (.int .i64))] [(.cmp .lss (.len (.v 2)) (.ki .i64 256)), (.ki .i64 3)] [] 4 (.cal 68 [(.p [(.s (.lst [(.int .u8)]))])] [(.rc (.cons (.v 1) .nil))] [(.c (.int .i64))] 4 (.ite (.cmp .gtr (.v 4) (.v 3)) (.cal 67 [(.c .bool), (.c (.int .i64))] [(.cmp .leq (.v 4) (.ki .i64 1000)), (.ki .i64 5)] [] 6 vctake_0) (.cal 67 [(.c .bool), (.c (.int .i64))] [(.kb false), (.ki .i64 5)] [] 6 vctake_0)))) (.ret [(.v 2), (.ki .i64 0)])))
theorem take_ent (ds : List D) (r : FR) (h : vctake.den Try.prog [] (KD 114 (.lst []) r) [] (flatD [(.c (.lst [(.int .u8)]))] ds)) : Fun Try.prog [] 44 [(.c (.lst [(.int .u8)]))] ds [(.c (.lst [(.int .i64), (.lst [(.int .u8)])])), (.c (.int .i64))] r := by
  exact fun_of_def hP Try.func44 rfl (g := 65) (a := 2) (b := 3) (t := 7) rfl rfl rfl rfl rfl rfl (sg := sgs) rfl rec_Take (az := (.nilS [.int .i64, .lst [.int .u8]])) (fun η M => ⟨none, rfl⟩) rfl rfl (by decide) (by decide) (by decide) (e0 := .nil) (fun ρ => rfl) (by kernel_rfl) (by decide) (by kernel_rfl) h
def vctakel : VC := (.cal 68 [(.p [(.s (.lst [(.int .u8)]))])] [(.rc (.cons (.v 0) .nil))] [(.c (.int .i64))] 1
 (.cal 67 [(.c .bool), (.c (.int .i64))] [(.cmp .geq (.v 1) (.ki .i64 0)), (.ki .i64 5)] [] 3
  (.cal 67 [(.c .bool), (.c (.int .i64))] [(.cmp .leq (.v 1) (.ki .i64 256)), (.ki .i64 3)] [] 3
   (.loop [(.lst [(.int .u8)]), (.lst [(.lst [(.int .u8)])]), (.int .i64)] [(.v 2), .nil, (.ki .i64 0)]
    (.ite (.cmp .lss (.v 5) (.v 1))
     (.cal 69 [(.p [(.s (.lst [(.int .u8)]))])] [(.rc (.cons (.v 3) .nil))] [(.c (.lst [(.int .u8)]))] 6
      (.ev [(.ob (.cmp .leq (.len (.app (.v 4) (.cons (.v 6) .nil))) (.ki .i64 4294967296)))]
       (.back 0 [(.v 7), (.app (.v 4) (.cons (.v 6) .nil)), (.ar .add .i64 (.v 5) (.ki .i64 1))])))
     (.cal 67 [(.c .bool), (.c (.int .i64))] [(.cmp .eql (.len (.v 3)) (.ki .i64 0)), (.ki .i64 5)] [] 6
      (.ret [(.v 4), (.ki .i64 0)])))))))
theorem takel_ent (ds : List D) (r : FR) (h : vctakel.den Try.prog [] (KD 114 (.lst []) r) [] (flatD [(.c (.lst [(.int .u8)]))] ds)) : Fun Try.prog [] 46 [(.c (.lst [(.int .u8)]))] ds [(.c (.lst [(.lst [(.int .u8)])])), (.c (.int .i64))] r := by
  exact fun_of_def hP Try.func46 rfl (g := 71) (a := 2) (b := 3) (t := 6) rfl rfl rfl rfl rfl rfl (sg := sgs) rfl rec_TakeList (az := (.nilS [.lst [.int .u8]])) (fun η M => ⟨none, rfl⟩) rfl rfl (by decide) (by decide) (by decide) (e0 := .nil) (fun ρ => rfl) (by kernel_rfl) (by decide) (by kernel_rfl) h
end Go.Proofs.Ytmkkijgnlohieaa.L7
