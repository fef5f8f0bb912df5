/-
  Layer 7's functions: plain facts, recovery, conditions (printed by a program). No conditions stand ahead of what is proved.
-/
import Derived.Test.YtindphofgojfbaaFrame
import Derived.Test.YtindphofgojfbaaSyXd
import Derived.Tactics
import Derived.Recover
import Derived.Tactics2
set_option maxRecDepth 100000
set_option linter.unusedSimpArgs false
set_option linter.unusedVariables false
namespace Go.Proofs.Ytindphofgojfbaa.L7
open Go.Proofs.Ytindphofgojfbaa.Sy Go.RowKit Go.WideShapes Go.ChangeShapes Go.ChangeAt
theorem hP : NoNum Try.prog := by unfold NoNum; kernel_rfl
def isB (l : List Int) : Prop := ∀ x ∈ l, 0 ≤ x ∧ x ≤ 255
theorem isB.cons {x : Int} {l : List Int} (h : isB (x :: l)) : (0 ≤ x ∧ x ≤ 255) ∧ isB l := ⟨h x (by simp), fun y hy => h y (by simp [hy])⟩
theorem isB.app {a b : List Int} (h : isB (a ++ b)) : isB a ∧ isB b := ⟨fun y hy => h y (by simp [hy]), fun y hy => h y (by simp [hy])⟩
theorem isB.join {a b : List Int} (h : isB a) (k : isB b) : isB (a ++ b) := fun x hx => (List.mem_append.1 hx).elim (h x) (k x)
theorem isB.nil : isB [] := fun x hx => by cases hx
def pcons (c : Int) : Except Int (Int × List Int) → Except Int (Int × List Int)
  | .ok (u, r) => .ok (c - 128 + 128 * u, r)
  | .error e => .error e
def parse : Nat → List Int → Except Int (Int × List Int)
  | _, [] => .error 6
  | j, c :: t => if 128 ≤ c then (if 9 ≤ j then .error 5 else pcons c (parse (j + 1) t)) else if c = 0 ∧ j ≠ 0 then .error 5 else if 9 ≤ j ∧ 1 < c then .error 5 else .ok (c, t)
def unzig (u : Int) : Int := if u % 2 = 0 then u / 2 else -(u / 2) - 1
def zig (n : Int) : Int := if 0 ≤ n then 2 * n else -2 * n - 1
def encF : Nat → Int → List Int
  | 0, u => [u]
  | f + 1, u => if u < 128 then [u] else (u % 128 + 128) :: encF f (u / 128)
def putS (n : Int) : List Int := encF 9 (zig n)
def in64 (n : Int) : Prop := -9223372036854775808 ≤ n ∧ n ≤ 9223372036854775807
theorem zig_unzig {u : Int} (h : 0 ≤ u) : zig (unzig u) = u := by unfold unzig zig; split <;> split <;> omega
theorem zig_rng {n : Int} (h : in64 n) : 0 ≤ zig n ∧ zig n < 2 * 128 ^ 9 := by unfold zig; unfold in64 at h; split <;> omega
theorem unzig_rng {u : Int} (h0 : 0 ≤ u) (h : u < 2 * 128 ^ 9) : in64 (unzig u) := by unfold in64 unzig; split <;> omega
theorem pow_ge : ∀ f : Nat, (1 : Int) ≤ 128 ^ f
  | 0 => by simp
  | f + 1 => by
    have := pow_ge f
    have hpow : (128 : Int) ^ (f + 1) = 128 ^ f * 128 := Int.pow_succ _ _
    omega
theorem parse_enc : ∀ (f j : Nat) (b : List Int) (u : Int) (r : List Int), j + f = 9 → isB b → parse j b = .ok (u, r) → b = encF f u ++ r ∧ 0 ≤ u ∧ u < 2 * 128 ^ f ∧ (j ≠ 0 → u ≠ 0)
  | f, j, [], u, r, _, _, h => by cases h
  | f, j, c :: t, u, r, hj, hb, h => by
    obtain ⟨hc, ht⟩ := hb.cons
    simp only [parse] at h
    split at h
    · rename_i hc1
      split at h
      · cases h
      · rename_i h9
        match f, hj with
        | 0, hj => omega
        | f + 1, hj =>
          cases hp : parse (j + 1) t with
          | error e => rw [hp] at h; cases h
          | ok p =>
            obtain ⟨u', r'⟩ := p
            rw [hp] at h
            simp only [pcons, Except.ok.injEq, Prod.mk.injEq] at h
            obtain ⟨rfl, rfl⟩ := h
            obtain ⟨e, g0, g1, g2⟩ := parse_enc f (j + 1) t u' r' (by omega) ht hp
            have g3 := g2 (by omega)
            have hpow : (128 : Int) ^ (f + 1) = 128 ^ f * 128 := Int.pow_succ _ _
            refine ⟨?_, by omega, by omega, fun _ => by omega⟩
            simp only [encF]
            rw [if_neg (by omega), show (c - 128 + 128 * u') % 128 + 128 = c by omega, show (c - 128 + 128 * u') / 128 = u' by omega, e]
            rfl
    · split at h
      · cases h
      · split at h
        · cases h
        · rename_i h1 h2 h3
          simp only [Except.ok.injEq, Prod.mk.injEq] at h
          obtain ⟨rfl, rfl⟩ := h
          refine ⟨?_, hc.1, ?_, fun hj0 hc0 => h2 ⟨hc0, hj0⟩⟩
          · cases f with
            | zero => rfl
            | succ f => simp only [encF]; rw [if_pos (by omega)]; rfl
          · cases f with
            | zero => simp only [Int.pow_zero]; omega
            | succ f =>
              have hpow : (128 : Int) ^ (f + 1) = 128 ^ f * 128 := Int.pow_succ _ _
              have := pow_ge f
              omega
theorem encF_len : ∀ (f : Nat) (u : Int), 1 ≤ (encF f u).length ∧ (encF f u).length ≤ f + 1
  | 0, u => by simp [encF]
  | f + 1, u => by
    simp only [encF]
    split
    · simp
    · have := encF_len f (u / 128)
      simp only [List.length_cons]; omega
theorem putS_len (n : Int) : 1 ≤ (putS n).length ∧ (putS n).length ≤ 10 := encF_len 9 _
def readS (b : List Int) : Except Int (Int × List Int) := match parse 0 b with
  | .ok (u, r) => .ok (unzig u, r)
  | .error e => .error e
theorem put_read {b r : List Int} {n : Int} (hb : isB b) (h : readS b = .ok (n, r)) : b = putS n ++ r ∧ in64 n ∧ isB r ∧ r.length < b.length := by
  unfold readS at h
  split at h
  · rename_i u r' hp
    simp only [Except.ok.injEq, Prod.mk.injEq] at h
    obtain ⟨rfl, rfl⟩ := h
    obtain ⟨e, h0, h1, _⟩ := parse_enc 9 0 b u r' rfl hb hp
    have hl := encF_len 9 u
    refine ⟨by unfold putS; rw [zig_unzig h0]; exact e, unzig_rng h0 h1, ?_, by rw [e, List.length_append]; omega⟩
    rw [e] at hb
    exact hb.app.2
  · cases h
theorem parse_lead : ∀ (x t : List Int) (j : Nat), (∀ c ∈ x, 128 ≤ c) → j + x.length ≤ 9 → parse j (x ++ t) = x.foldr pcons (parse (j + x.length) t)
  | [], t, j, _, _ => by simp
  | c :: x, t, j, hx, hl => by
    simp only [List.length_cons] at hl
    simp only [List.cons_append, parse, List.foldr_cons]
    rw [if_pos (hx c (by simp)), if_neg (by omega), parse_lead x t (j + 1) (fun d hd => hx d (by simp [hd])) (by omega)]
    congr 2
    simp only [List.length_cons]; congr 1; omega
theorem parse_long : ∀ (x t : List Int) (j : Nat), (∀ c ∈ x, 128 ≤ c) → 10 ≤ j + x.length → j ≤ 9 → parse j (x ++ t) = .error 5
  | [], t, j, _, h, h2 => by simp at h; omega
  | c :: x, t, j, hx, hl, h9 => by
    simp only [List.cons_append, parse]
    rw [if_pos (hx c (by simp))]
    by_cases hj : 9 ≤ j
    · rw [if_pos hj]
    · rw [if_neg hj, parse_long x t (j + 1) (fun d hd => hx d (by simp [hd])) (by simp at hl; omega) (by omega)]; rfl
/-- The number in groups of seven bits. -/
def sv : List Int → Int
  | [] => 0
  | c :: t => c % 128 + 128 * sv t
theorem sv_app : ∀ (x y : List Int), sv (x ++ y) = sv x + 128 ^ x.length * sv y
  | [], y => by simp [sv]
  | c :: x, y => by
    have hpow : (128 : Int) ^ (x.length + 1) = 128 ^ x.length * 128 := Int.pow_succ _ _
    simp only [List.cons_append, sv, sv_app x y, List.length_cons, hpow]
    rw [Int.mul_add, Int.add_assoc]
    congr 2
    rw [Int.mul_comm ((128 : Int) ^ x.length) 128, Int.mul_assoc]
theorem sv_rng : ∀ (x : List Int), 0 ≤ sv x ∧ sv x < 128 ^ x.length
  | [] => by simp [sv]
  | c :: x => by
    have hpow : (128 : Int) ^ (x.length + 1) = 128 ^ x.length * 128 := Int.pow_succ _ _
    have := sv_rng x
    simp only [sv, List.length_cons, hpow]
    omega
theorem pcons_ok : ∀ (x : List Int) (c : Int) (r : List Int), (∀ d ∈ x, 128 ≤ d ∧ d ≤ 255) → 0 ≤ c → c < 128 → x.foldr pcons (.ok (c, r)) = .ok (sv (x ++ [c]), r)
  | [], c, r, _, h0, h1 => by simp [sv]; omega
  | d :: x, c, r, hx, h0, h1 => by
    have hd := hx d (by simp)
    rw [List.foldr_cons, pcons_ok x c r (fun y hy => hx y (by simp [hy])) h0 h1]
    simp only [pcons, List.cons_append, sv, Except.ok.injEq, Prod.mk.injEq, and_true]
    omega
theorem pcons_err : ∀ (x : List Int) (e : Int), x.foldr pcons (.error e) = .error e
  | [], e => rfl
  | d :: x, e => by rw [List.foldr_cons, pcons_err x e]; rfl
/-- The cases of an integer: k bytes with a further one behind them. -/
theorem read_places {b : List Int} (hb : isB b) {k : Nat} (hk : k ≤ b.length) (hx : ∀ c ∈ b.take k, 128 ≤ c) :
    (10 ≤ k → parse 0 b = .error 5) ∧ (k < 10 → k = b.length → parse 0 b = .error 6) ∧
    (k < 10 → k < b.length → b.getD k 0 < 128 → parse 0 b = if b.getD k 0 = 0 ∧ k ≠ 0 then .error 5 else if 9 ≤ k ∧ 1 < b.getD k 0 then .error 5 else .ok (sv (b.take (k + 1)), b.drop (k + 1))) := by
  have hs : b = b.take k ++ b.drop k := (List.take_append_drop k b).symm
  have hl : (b.take k).length = k := by rw [List.length_take]; omega
  refine ⟨fun h => ?_, fun h h2 => ?_, fun h h2 h3 => ?_⟩
  · rw [hs]; exact parse_long _ _ 0 hx (by omega) (by omega)
  · rw [hs, parse_lead _ _ 0 hx (by omega), List.drop_eq_nil_of_le (by omega)]
    simp only [parse]
    exact pcons_err _ _
  · have hd : b.drop k = b.getD k 0 :: b.drop (k + 1) := by rw [List.drop_eq_getElem_cons h2]; simp [List.getD_eq_getElem?_getD, h2]
    have ht : b.take (k + 1) = b.take k ++ [b.getD k 0] := by rw [List.take_succ_eq_append_getElem h2]; simp [List.getD_eq_getElem?_getD, h2]
    have hc : 0 ≤ b.getD k 0 ∧ b.getD k 0 ≤ 255 := hb _ (by simp [List.getD_eq_getElem?_getD, h2])
    conv => lhs; rw [hs]
    rw [parse_lead _ _ 0 hx (by omega), hd, Nat.zero_add, hl, ht]
    simp only [parse]
    rw [if_neg (by omega)]
    split
    · exact pcons_err _ _
    · split
      · exact pcons_err _ _
      · exact pcons_ok _ _ _ (fun d hd => ⟨hx d hd, (hb d (List.mem_of_mem_take hd)).2⟩) hc.1 h3
def takeIntS (b : List Int) : Int × Int := match readS b with
  | .error e => (0, e)
  | .ok (n, r) => if r = [] then (n, 0) else (0, 5)
def dataS (b : List Int) : Except Int (List Int × List Int) := match readS b with
  | .error e => .error e
  | .ok (n, r) => if n < 0 then .error 5 else if (r.length : Int) < n then .error 6 else .ok (r.take n.toNat, r.drop n.toNat)
def putD (d : List Int) : List Int := putS d.length ++ d
theorem put_data {b d r : List Int} (hb : isB b) (h : dataS b = .ok (d, r)) : b = putD d ++ r ∧ isB d ∧ isB r ∧ r.length < b.length ∧ d.length < b.length ∧ (d.length : Int) ≤ 9223372036854775807 := by
  unfold dataS at h
  split at h
  · cases h
  · rename_i n r' hr
    obtain ⟨e, hn, hB, hl⟩ := put_read hb hr
    split at h
    · cases h
    · split at h
      · cases h
      · rename_i h1 h2
        simp only [Except.ok.injEq, Prod.mk.injEq] at h
        obtain ⟨rfl, rfl⟩ := h
        have hdl : (r'.take n.toNat).length = n.toNat := by rw [List.length_take]; omega
        unfold in64 at hn
        refine ⟨?_, fun x hx => hB x (List.mem_of_mem_take hx), fun x hx => hB x (List.mem_of_mem_drop hx), by rw [List.length_drop]; omega, by rw [hdl]; omega, by rw [hdl]; omega⟩
        unfold putD
        rw [hdl, show ((n.toNat : Nat) : Int) = n by omega, List.append_assoc, List.take_append_drop]
        exact e
abbrev Fld := Int × List Int
def consA (a : List Int) : Except Int (List Int) → Except Int (List Int)
  | .ok l => .ok (a ++ l)
  | .error e => .error e
def putG : Int → List Fld → Except Int (List Int)
  | _, [] => .ok []
  | before, (t, d) :: l => if t < 1 ∨ 1000 < t then .error 2 else if t ≤ before then .error 1 else consA (putS t ++ putD d) (putG t l)
def putF (l : List Fld) : Except Int (List Int) := if 256 < l.length then .error 3 else putG 0 l
def consF (a : Fld) : Except Int (List Fld) → Except Int (List Fld)
  | .ok l => .ok (a :: l)
  | .error e => .error e
def takeG : Nat → Int → Nat → List Int → Except Int (List Fld)
  | 0, _, _, _ => .ok []
  | f + 1, before, c, b => if b = [] then .ok [] else if 256 ≤ c then .error 3 else match readS b with
    | .error e => .error e
    | .ok (t, r) => if ¬ (before < t ∧ t ≤ 1000) then .error 5 else match dataS r with
      | .error e => .error e
      | .ok (d, r2) => consF (t, d) (takeG f t (c + 1) r2)
def takeF (b : List Int) : Except Int (List Fld) := takeG b.length 0 0 b
def putL (l : List (List Int)) : List Int := putS l.length ++ l.flatMap putD
def putListS (l : List (List Int)) : Except Int (List Int) := if 256 < l.length then .error 3 else .ok (putL l)
def consL (a : List Int) : Except Int (List (List Int) × List Int) → Except Int (List (List Int) × List Int)
  | .ok (l, r) => .ok (a :: l, r)
  | .error e => .error e
def takeN : Nat → List Int → Except Int (List (List Int) × List Int)
  | 0, b => .ok ([], b)
  | n + 1, b => match dataS b with
    | .error e => .error e
    | .ok (d, r) => consL d (takeN n r)
def takeListS (b : List Int) : Except Int (List (List Int)) := match readS b with
  | .error e => .error e
  | .ok (n, r) => if n < 0 then .error 5 else if 256 < n then .error 3 else match takeN n.toNat r with
    | .error e => .error e
    | .ok (l, r2) => if r2 = [] then .ok l else .error 5
theorem rec2_of {w w1 : World} {b2 b3 : Nat} {v2 v3 z e : Value} {T2 T3 : TypeId} (hne : b2 ≠ b3) (hb : Below w.heap.size w w1) (h0 : w.heap[b2]? = some (.cells #[v2] T2 (0, 0))) (h2 : w1.heap[b2]? = some (.cells #[v2] T2 (0, 0)))
    (h3 : w1.heap[b3]? = some (.cells #[v3] T3 (0, 0))) : Rec2 w ((w1.setCell ⟨b2, 0, none⟩ z).setCell ⟨b3, 0, none⟩ e) b2 z b3 e := by
  refine ⟨hb.os, hb.tape, hb.output, ?_, fun k hk k2 k3 => ?_, ⟨T2, ?_⟩, ⟨T3, ?_⟩⟩
  · simpa [World.setCell] using hb.size
  · rw [Sy.heap_setCell_other k3, Sy.heap_setCell_other k2]
    exact hb.block k hk
  · rw [Sy.heap_setCell_other hne]
    exact Sy.heap_setCell_same (vs := [v2]) (o := 0) h2
  · exact Sy.heap_setCell_same (vs := [v3]) (o := 0) ((Sy.heap_setCell_other (Ne.symm hne)).trans h3)
theorem reason_calls (er : Int) (w : World) : Calls Try.prog 69 #[.iface 153 (.agg #[.int .i64 er])] w fun e w' => e = .returned (.int .i64 er) ∧ Below w.heap.size w w' := by
  have hta : ∀ w, (Instr.typeAssert (.iface 153 (.agg #[.int .i64 er])) 20 153 true).run Try.prog w = .ok (.tuple #[.agg #[.int .i64 er], .bool true]) w := fun w => by
    simp [Instr.typeAssert, run_underlying Try.underlying153]
  go_enter Try.func69, Try.ntmps69
  go_wp2
  refine bodyPost_ret (by simp [results, Try.results69, go_sem, *]; try rfl) rfl ?_
  exact ⟨rfl, by (repeat' (first | (with_reducible exact Below.refl _ _) | (with_reducible assumption) | (with_reducible refine Below.alloc ?_ ?_ _) | (with_reducible refine Below.drew ?_) | (with_reducible refine Below.setCell ?_ ?_ _) | (with_reducible exact Nat.le_refl _) | omega | (simp only [World.size_alloc, World.size_setCell, World.size_drew]; omega) | (simp; done)))⟩

theorem rec_TakeInt : Recovers Try.prog 83 153 (.int .i64 0) := by
  refine ⟨⟨_, Try.func83, rfl⟩, fun p q w => ?_, fun er b2 b3 w v2 v3 T2 T3 hne h2 h3 => ?_⟩
  · refine callsD_of_wpS Try.func83 rfl fun c₀ cs hu => ?_
    apply wpS_seq
    apply wpS_region
    simp [wpOpsS, go_sem, recoverD, hu, Try.ntmps83, Exit.thenS]
    rw [show (#[p, q] ++ ((Array.replicate 6 undef).setIfInBounds 1 Value.nilIface).setIfInBounds 0 Value.nilIface) = #[p, q, .nilIface, .nilIface, undef, undef, undef, undef] from rfl]
    refine wpS_of_wp ?_
    go_wp2
    cases c₀
    simp_all [bodyPostS, results, Try.results83]
  · refine callsD_of_wpS Try.func83 rfl fun c₀ cs hu => ?_
    apply wpS_seq
    apply wpS_region
    simp [wpOpsS, go_sem, recoverD, hu, Try.ntmps83, Exit.thenS]
    generalize hpv : Value.iface 153 (.agg #[.int .i64 er]) = pv at *
    rw [show (#[Value.pointer (some ⟨b2, 0, none⟩), Value.pointer (some ⟨b3, 0, none⟩)] ++ ((Array.replicate 6 undef).setIfInBounds 1 pv).setIfInBounds 0 pv) = #[.pointer (some ⟨b2, 0, none⟩), .pointer (some ⟨b3, 0, none⟩), pv, pv, undef, undef, undef, undef] from rfl]
    subst hpv
    refine wpS_of_wp ?_
    have hl2 := (Array.getElem?_eq_some_iff.1 h2).1
    have hl3 := (Array.getElem?_eq_some_iff.1 h3).1
    go_wp2_with (go_at_call 69; refine (reason_calls er _).mono ?_; rintro e w1 ⟨rfl, hb1⟩; have h21 := (hb1.block b2 hl2).trans h2; have h31 := (hb1.block b3 hl3).trans h3; have k2 : w1.cell? ⟨b2, 0, none⟩ = some v2 := (by simp [World.cell?, h21]); have f2 : w1.frozen? ⟨b2, 0, none⟩ = false := (by simp [World.frozen?, h21]); have k3 : w1.cell? ⟨b3, 0, none⟩ = some v3 := (by simp [World.cell?, h31]); have f3 : w1.frozen? ⟨b3, 0, none⟩ = false := (by simp [World.frozen?, h31]))
    refine ⟨rfl, _, rfl, .tuple #[], by simp [results, Try.results83], ⟨_, rfl⟩, rfl, ?_⟩
    exact rec2_of hne hb1 h2 h21 h31

theorem rec_Take : Recovers Try.prog 82 153 (.slice none 0 0) := by
  refine ⟨⟨_, Try.func82, rfl⟩, fun p q w => ?_, fun er b2 b3 w v2 v3 T2 T3 hne h2 h3 => ?_⟩
  · refine callsD_of_wpS Try.func82 rfl fun c₀ cs hu => ?_
    apply wpS_seq
    apply wpS_region
    simp [wpOpsS, go_sem, recoverD, hu, Try.ntmps82, Exit.thenS]
    rw [show (#[p, q] ++ ((Array.replicate 6 undef).setIfInBounds 1 Value.nilIface).setIfInBounds 0 Value.nilIface) = #[p, q, .nilIface, .nilIface, undef, undef, undef, undef] from rfl]
    refine wpS_of_wp ?_
    go_wp2
    cases c₀
    simp_all [bodyPostS, results, Try.results82]
  · refine callsD_of_wpS Try.func82 rfl fun c₀ cs hu => ?_
    apply wpS_seq
    apply wpS_region
    simp [wpOpsS, go_sem, recoverD, hu, Try.ntmps82, Exit.thenS]
    generalize hpv : Value.iface 153 (.agg #[.int .i64 er]) = pv at *
    rw [show (#[Value.pointer (some ⟨b2, 0, none⟩), Value.pointer (some ⟨b3, 0, none⟩)] ++ ((Array.replicate 6 undef).setIfInBounds 1 pv).setIfInBounds 0 pv) = #[.pointer (some ⟨b2, 0, none⟩), .pointer (some ⟨b3, 0, none⟩), pv, pv, undef, undef, undef, undef] from rfl]
    subst hpv
    refine wpS_of_wp ?_
    have hl2 := (Array.getElem?_eq_some_iff.1 h2).1
    have hl3 := (Array.getElem?_eq_some_iff.1 h3).1
    go_wp2_with (go_at_call 69; refine (reason_calls er _).mono ?_; rintro e w1 ⟨rfl, hb1⟩; have h21 := (hb1.block b2 hl2).trans h2; have h31 := (hb1.block b3 hl3).trans h3; have k2 : w1.cell? ⟨b2, 0, none⟩ = some v2 := (by simp [World.cell?, h21]); have f2 : w1.frozen? ⟨b2, 0, none⟩ = false := (by simp [World.frozen?, h21]); have k3 : w1.cell? ⟨b3, 0, none⟩ = some v3 := (by simp [World.cell?, h31]); have f3 : w1.frozen? ⟨b3, 0, none⟩ = false := (by simp [World.frozen?, h31]))
    refine ⟨rfl, _, rfl, .tuple #[], by simp [results, Try.results82], ⟨_, rfl⟩, rfl, ?_⟩
    exact rec2_of hne hb1 h2 h21 h31

theorem rec_TakeList : Recovers Try.prog 68 153 (.slice none 0 0) := by
  refine ⟨⟨_, Try.func68, rfl⟩, fun p q w => ?_, fun er b2 b3 w v2 v3 T2 T3 hne h2 h3 => ?_⟩
  · refine callsD_of_wpS Try.func68 rfl fun c₀ cs hu => ?_
    apply wpS_seq
    apply wpS_region
    simp [wpOpsS, go_sem, recoverD, hu, Try.ntmps68, Exit.thenS]
    rw [show (#[p, q] ++ ((Array.replicate 6 undef).setIfInBounds 1 Value.nilIface).setIfInBounds 0 Value.nilIface) = #[p, q, .nilIface, .nilIface, undef, undef, undef, undef] from rfl]
    refine wpS_of_wp ?_
    go_wp2
    cases c₀
    simp_all [bodyPostS, results, Try.results68]
  · refine callsD_of_wpS Try.func68 rfl fun c₀ cs hu => ?_
    apply wpS_seq
    apply wpS_region
    simp [wpOpsS, go_sem, recoverD, hu, Try.ntmps68, Exit.thenS]
    generalize hpv : Value.iface 153 (.agg #[.int .i64 er]) = pv at *
    rw [show (#[Value.pointer (some ⟨b2, 0, none⟩), Value.pointer (some ⟨b3, 0, none⟩)] ++ ((Array.replicate 6 undef).setIfInBounds 1 pv).setIfInBounds 0 pv) = #[.pointer (some ⟨b2, 0, none⟩), .pointer (some ⟨b3, 0, none⟩), pv, pv, undef, undef, undef, undef] from rfl]
    subst hpv
    refine wpS_of_wp ?_
    have hl2 := (Array.getElem?_eq_some_iff.1 h2).1
    have hl3 := (Array.getElem?_eq_some_iff.1 h3).1
    go_wp2_with (go_at_call 69; refine (reason_calls er _).mono ?_; rintro e w1 ⟨rfl, hb1⟩; have h21 := (hb1.block b2 hl2).trans h2; have h31 := (hb1.block b3 hl3).trans h3; have k2 : w1.cell? ⟨b2, 0, none⟩ = some v2 := (by simp [World.cell?, h21]); have f2 : w1.frozen? ⟨b2, 0, none⟩ = false := (by simp [World.frozen?, h21]); have k3 : w1.cell? ⟨b3, 0, none⟩ = some v3 := (by simp [World.cell?, h31]); have f3 : w1.frozen? ⟨b3, 0, none⟩ = false := (by simp [World.frozen?, h31]))
    refine ⟨rfl, _, rfl, .tuple #[], by simp [results, Try.results68], ⟨_, rfl⟩, rfl, ?_⟩
    exact rec2_of hne hb1 h2 h21 h31

def sgs : Nat → Option (List TS × List TS) := fun f => if Nat.beq f 79 then some ([.r [.int .u8], .c (.int .i64)], [.r [.int .u8]]) else if Nat.beq f 70 then some ([.p [.s (.lst [.int .u8])]], [.c (.int .i64)]) else if Nat.beq f 72 then some ([.p [.s (.lst [.int .u8])]], [.c (.lst [.int .u8])]) else if Nat.beq f 22 then some ([.c (.lst [.int .u8])], [.r [.int .u8]]) else none
def vccheck : VC := (.ite (.v 0)
 (.ret [])
 (.pan 153 (.rc (.cons (.v 1) .nil))))
theorem check_ent : EntOK Try.prog [] ⟨71, [(.c .bool), (.c (.int .i64))], [], vccheck⟩ :=
  ent_of_gen hP Try.func71 rfl (by decide) (sg := sgs) (by kernel_rfl)
def vcapp : VC := (.loop [(.lst [(.int .u8)]), (.int .u64)] [(.v 0), (.ar .xor .u64 (.shf .shl .u64 (.conv .u64 (.v 1)) (.ki .u64 1)) (.conv .u64 (.shf .shr .i64 (.v 1) (.ki .u64 63))))]
 (.ite (.cmp .geq (.v 3) (.ki .u64 128))
  (.ev [(.ob (.cmp .leq (.len (.app (.v 2) (.cons (.ar .or .u8 (.conv .u8 (.ar .and .u64 (.v 3) (.ki .u64 127))) (.ki .u8 128)) .nil))) (.ki .i64 4294967296)))]
   (.back 0 [(.app (.v 2) (.cons (.ar .or .u8 (.conv .u8 (.ar .and .u64 (.v 3) (.ki .u64 127))) (.ki .u8 128)) .nil)), (.shf .shr .u64 (.v 3) (.ki .u64 7))]))
  (.ev [(.ob (.cmp .leq (.len (.app (.v 2) (.cons (.conv .u8 (.v 3)) .nil))) (.ki .i64 4294967296)))]
   (.ret [(.app (.v 2) (.cons (.conv .u8 (.v 3)) .nil))]))))
theorem app_ent : EntOK Try.prog [] ⟨79, [(.r [(.int .u8)]), (.c (.int .i64))], [(.r [(.int .u8)])], vcapp⟩ :=
  ent_of_gen hP Try.func79 rfl (by decide) (sg := sgs) (by kernel_rfl)
def vcputint : VC := (.cal 79 [(.r [(.int .u8)]), (.c (.int .i64))] [.nil, (.v 0)] [(.r [(.int .u8)])] 1
 (.ret [(.v 1)]))
theorem putint_ent : EntOK Try.prog [] ⟨60, [(.c (.int .i64))], [(.c (.lst [(.int .u8)]))], vcputint⟩ :=
  ent_of_gen hP Try.func60 rfl (by decide) (sg := sgs) (by kernel_rfl)
def vcclone : VC := (.nilq (.v 0)
 (.ret [.nil])
 (.ev [(.ob (.cmp .leq (.len (.app .nil (.v 0))) (.ki .i64 4294967296)))]
  (.ret [(.app .nil (.v 0))])))
theorem clone_ent : EntOK Try.prog [] ⟨22, [(.c (.lst [(.int .u8)]))], [(.r [(.int .u8)])], vcclone⟩ :=
  ent_of_gen hP Try.func22 rfl (by decide) (sg := sgs) (by kernel_rfl)
def vcdat : VC := (.cal 70 [(.p [(.s (.lst [(.int .u8)]))])] [(.rc (.cons (.v 0) .nil))] [(.c (.int .i64))] 1
 (.cal 71 [(.c .bool), (.c (.int .i64))] [(.cmp .geq (.v 1) (.ki .i64 0)), (.ki .i64 5)] [] 3
  (.cal 71 [(.c .bool), (.c (.int .i64))] [(.cmp .leq (.v 1) (.len (.v 2))), (.ki .i64 6)] [] 3
   (.ev [(.ob (.cmp .leq (.ki .i64 0) (.v 1))), (.ob (.cmp .leq (.v 1) (.len (.v 2)))), (.ob (.cmp .leq (.ki .i64 0) (.v 1))), (.ob (.cmp .leq (.v 1) (.v 1)))]
    (.cal 22 [(.c (.lst [(.int .u8)]))] [(.sub (.v 2) (.ki .i64 0) (.v 1))] [(.r [(.int .u8)])] 3
     (.ev [(.ob (.cmp .leq (.ki .i64 0) (.v 1))), (.ob (.cmp .leq (.v 1) (.len (.v 2))))]
      (.ret [(.v 3), (.rc (.cons (.sub (.v 2) (.v 1) (.len (.v 2))) .nil))])))))))
theorem dat_ent : EntOK Try.prog [] ⟨72, [(.p [(.s (.lst [(.int .u8)]))])], [(.c (.lst [(.int .u8)]))], vcdat⟩ :=
  ent_of_gen hP Try.func72 rfl (by decide) (sg := sgs) (by kernel_rfl)
def vcput_0 : VC := (.cal 79 [(.r [(.int .u8)]), (.c (.int .i64))] [(.v 1), (.cell (.get (.v 0) (.v 5)) 0)] [(.r [(.int .u8)])] 6 (.cal 79 [(.r [(.int .u8)]), (.c (.int .i64))] [(.v 6), (.len (.cell (.get (.v 0) (.v 5)) 1))] [(.r [(.int .u8)])] 7 (.ev [(.ob (.cmp .leq (.len (.app (.v 7) (.cell (.get (.v 0) (.v 5)) 1))) (.ki .i64 4294967296)))] (.back 0 [(.app (.v 7) (.cell (.get (.v 0) (.v 5)) 1)), (.v 2), (.v 3), (.cell (.get (.v 0) (.v 5)) 0), (.ar .add .i64 (.v 5) (.ki .i64 1))]))))
def vcput : VC := (.ite (.cmp .gtr (.len (.v 0)) (.ki .i64 256)) (.ret [.nil, (.ki .i64 3)]) (.loop [(.lst [(.int .u8)]), (.lst [(.int .u8)]), (.int .i64), (.int .i64), (.int .i64)] [.nil, .nil, (.ki .i64 0), (.ki .i64 0), (.ki .i64 0)] (.ite (.cmp .lss (.v 5) (.len (.v 0))) (.ev [(.ob (.cmp .geq (.v 5) (.ki .i64 0))), (.ob (.cmp .lss (.v 5) (.len (.v 0))))] (.ite (.cmp .lss (.cell (.get (.v 0) (.v 5)) 0) (.ki .i64 1)) (.ret [.nil, (.ki .i64 2)]) (.ite (.cmp .gtr (.cell (.get (.v 0) (.v 5)) 0) (.ki .i64 1000)) (.ret [.nil, (.ki .i64 2)]) (.ite (.cmp .gtr (.v 5) (.ki .i64 0)) (.ite (.cmp .leq (.cell (.get (.v 0) (.v 5)) 0) (.v 4)) (.ret [.nil, (.ki .i64 1)]) vcput_0) vcput_0)))) (.ret [(.v 1), (.ki .i64 0)]))))
theorem put_ent : EntOK Try.prog [] ⟨81, [(.c (.lst [(.int .i64), (.lst [(.int .u8)])]))], [(.c (.lst [(.int .u8)])), (.c (.int .i64))], vcput⟩ :=
  ent_of_gen hP Try.func81 rfl (by decide) (sg := sgs) (by kernel_rfl)
def vcputl : VC := (.ite (.cmp .gtr (.len (.v 0)) (.ki .i64 256))
 (.ret [.nil, (.ki .i64 3)])
 (.cal 79 [(.r [(.int .u8)]), (.c (.int .i64))] [.nil, (.len (.v 0))] [(.r [(.int .u8)])] 1
  (.loop [(.lst [(.int .u8)]), (.int .i64)] [(.v 1), (.ki .i64 0)]
   (.ite (.cmp .lss (.v 3) (.len (.v 0)))
    (.ev [(.ob (.cmp .geq (.v 3) (.ki .i64 0))), (.ob (.cmp .lss (.v 3) (.len (.v 0))))]
     (.cal 79 [(.r [(.int .u8)]), (.c (.int .i64))] [(.v 2), (.len (.get (.v 0) (.v 3)))] [(.r [(.int .u8)])] 4
      (.ev [(.ob (.cmp .leq (.len (.app (.v 4) (.get (.v 0) (.v 3)))) (.ki .i64 4294967296)))]
       (.back 0 [(.app (.v 4) (.get (.v 0) (.v 3))), (.ar .add .i64 (.v 3) (.ki .i64 1))]))))
    (.ret [(.v 2), (.ki .i64 0)])))))
theorem putl_ent : EntOK Try.prog [] ⟨80, [(.c (.lst [(.lst [(.int .u8)])]))], [(.c (.lst [(.int .u8)])), (.c (.int .i64))], vcputl⟩ :=
  ent_of_gen hP Try.func80 rfl (by decide) (sg := sgs) (by kernel_rfl)
def vcint_0 : VC := (.ev [(.ob (.cmp .leq (.ki .i64 0) (.ar .add .i64 (.v 1) (.ki .i64 1)))), (.ob (.cmp .leq (.ar .add .i64 (.v 1) (.ki .i64 1)) (.len (.v 0))))] (.loop [(.int .u64), (.int .i64)] [(.ki .u64 0), (.ki .i64 0)] (.ite (.cmp .lss (.v 3) (.len (.sub (.v 0) (.ki .i64 0) (.ar .add .i64 (.v 1) (.ki .i64 1))))) (.ev [(.ob (.cmp .geq (.v 3) (.ki .i64 0))), (.ob (.cmp .lss (.v 3) (.len (.sub (.v 0) (.ki .i64 0) (.ar .add .i64 (.v 1) (.ki .i64 1))))))] (.ev [(.ob (.cmp .geq (.ar .mul .i64 (.ki .i64 7) (.v 3)) (.ki .i64 0)))] (.back 1 [(.ar .or .u64 (.v 2) (.shf .shl .u64 (.conv .u64 (.ar .and .u8 (.get (.sub (.v 0) (.ki .i64 0) (.ar .add .i64 (.v 1) (.ki .i64 1))) (.v 3)) (.ki .u8 127))) (.ar .mul .i64 (.ki .i64 7) (.v 3)))), (.ar .add .i64 (.v 3) (.ki .i64 1))]))) (.ev [(.ob (.cmp .leq (.ki .i64 0) (.ar .add .i64 (.v 1) (.ki .i64 1)))), (.ob (.cmp .leq (.ar .add .i64 (.v 1) (.ki .i64 1)) (.len (.v 0))))] (.ret [(.ar .xor .i64 (.conv .i64 (.shf .shr .u64 (.v 2) (.ki .u64 1))) (.neg .i64 (.conv .i64 (.ar .and .u64 (.v 2) (.ki .u64 1))))), (.rc (.cons (.sub (.v 0) (.ar .add .i64 (.v 1) (.ki .i64 1)) (.len (.v 0))) .nil))])))))
def vcint_1 : VC := (.ite (.cmp .lss (.v 1) (.ki .i64 9)) (.cal 71 [(.c .bool), (.c (.int .i64))] [(.kb true), (.ki .i64 5)] [] 2 vcint_0) (.cal 71 [(.c .bool), (.c (.int .i64))] [(.cmp .leq (.get (.v 0) (.v 1)) (.ki .u8 1)), (.ki .i64 5)] [] 2 vcint_0))
def vcint_2 : VC := (.cal 71 [(.c .bool), (.c (.int .i64))] [(.cmp .lss (.v 1) (.ki .i64 10)), (.ki .i64 5)] [] 2 (.cal 71 [(.c .bool), (.c (.int .i64))] [(.cmp .lss (.v 1) (.len (.v 0))), (.ki .i64 6)] [] 2 (.ev [(.ob (.cmp .geq (.v 1) (.ki .i64 0))), (.ob (.cmp .lss (.v 1) (.len (.v 0))))] (.ite (.cmp .neq (.get (.v 0) (.v 1)) (.ki .u8 0)) (.cal 71 [(.c .bool), (.c (.int .i64))] [(.kb true), (.ki .i64 5)] [] 2 vcint_1) (.cal 71 [(.c .bool), (.c (.int .i64))] [(.cmp .eql (.v 1) (.ki .i64 0)), (.ki .i64 5)] [] 2 vcint_1)))))
def vcint : VC := (.loop [(.int .i64)] [(.ki .i64 0)] (.ite (.cmp .lss (.v 1) (.len (.v 0))) (.ite (.cmp .lss (.v 1) (.ki .i64 10)) (.ev [(.ob (.cmp .geq (.v 1) (.ki .i64 0))), (.ob (.cmp .lss (.v 1) (.len (.v 0))))] (.ite (.cmp .geq (.get (.v 0) (.v 1)) (.ki .u8 128)) (.back 0 [(.ar .add .i64 (.v 1) (.ki .i64 1))]) vcint_2)) vcint_2) vcint_2))
def hdint : List HdL := [{ kind := true, id := 2, nv := 1, tmps := [(.v (.c (.ptr 0 0))), (.v (.c .any)), (.v (.c (.d (.int .i64) (.ki .i64 0)))), (.v (.c (.d (.int .i64) (.v 1)))), (.v (.c .any)), (.v (.c .any)), (.v (.c .any)), (.v (.c .any)), (.v (.c .any)), (.v (.c .any)), (.v (.c .any)), (.v (.c .any)), (.v (.c .any)), (.v (.c .any)), (.v (.c .any)), (.v (.c .any)), (.v (.c .any)), (.v (.c .any)), (.v (.c .any)), (.v (.c .any)), (.v (.c .any)), (.v (.c .any)), (.v (.c .any)), (.v (.c .any)), (.v (.c .any)), (.v (.c .any)), (.v (.c .any)), (.v (.c .any)), (.v (.c .any)), (.v (.c .any)), (.v (.c .any)), (.v (.c .any)), (.v (.c .any)), (.v (.c .any)), (.v (.c .any)), (.v (.c .any)), (.v (.c .any)), (.v (.c .any)), (.v (.c .any)), (.v (.c .any)), (.v (.c .any)), (.v (.c .any)), (.v (.c .any)), (.v (.c .any)), (.v (.c .any)), (.v (.c .any)), (.v (.c .any)), (.v (.c .any)), (.v (.c .any)), (.v (.c .any)), (.v (.c .any)), (.v (.c .any)), (.v (.c .any)), (.v (.c .any)), (.v (.c .any)), (.v (.c .any)), (.v (.c .any)), (.v (.c .any)), (.v (.c .any)), (.v (.c .any)), (.v (.c .any)), (.v (.c .any)), (.v (.c .any)), (.v (.c .any)), (.v (.c .any)), (.v (.c .any)), (.v (.c .any)), (.v (.c .any)), (.v (.c .any)), (.v (.c .any)), (.v (.c .any)), (.v (.c .any)), (.v (.c .any)), (.v (.c .any)), (.v (.c .any)), (.v (.c .any)), (.v (.c .any)), (.v (.c .any)), (.v (.c .any)), (.v (.c .any)), (.v (.c .any)), (.v (.c .any)), (.v (.c .any)), (.v (.c .any)), (.v (.c .any)), (.v (.c .any)), (.v (.c .any)), (.v (.c .any)), (.v (.c .any)), (.v (.c .any)), (.v (.c .any)), (.v (.c .any)), (.v (.c .any)), (.v (.c .any)), (.v (.c .any)), (.v (.c .any)), (.v (.c .any)), (.v (.c .any)), (.v (.c .any)), (.v (.c .any)), (.v (.c .any)), (.v (.c .any)), (.v (.c .any))], blks := [(.cells [(.d (.lst [(.int .u8)]) (.v 0))])], shs := [(.int .i64)], rs := [], bs := [], fz := [] }]
theorem int_ent : EntOK Try.prog [] ⟨70, [(.p [(.s (.lst [(.int .u8)]))])], [(.c (.int .i64))], vcint⟩ :=
  ent_of_genH hP Try.func70 rfl (by decide) (jn := []) (hd := hdint) (sg := sgs) (by kernel_rfl)

def vctakeint : VC := (.cal 70 [(.p [(.s (.lst [(.int .u8)]))])] [(.rc (.cons (.v 0) .nil))] [(.c (.int .i64))] 1
 (.cal 71 [(.c .bool), (.c (.int .i64))] [(.cmp .eql (.len (.v 2)) (.ki .i64 0)), (.ki .i64 5)] [] 3
  (.ret [(.v 1), (.ki .i64 0)])))
theorem takeint_ent (ds : List D) (r : FR) (h : vctakeint.den Try.prog [] (KD 153 (I64d 0) r) [] (flatD [(.c (.lst [(.int .u8)]))] ds)) : Fun Try.prog [] 67 [(.c (.lst [(.int .u8)]))] ds [(.c (.int .i64)), (.c (.int .i64))] r := by
  exact fun_of_def hP Try.func67 rfl (g := 83) (a := 2) (b := 3) (t := 5) rfl rfl rfl rfl rfl rfl (sg := sgs) rfl rec_TakeInt (az := (.d (.int .i64) (.ki .i64 0))) (fun η M => by show Rep M (.int .i64) (.int .i64 0) (I64d 0); rw [Rep_int]; exact ⟨0, rfl, rfl, by decide, by decide⟩) rfl rfl (by decide) (by decide) (by decide) (e0 := (.ki .i64 0)) (fun ρ => rfl) (by kernel_rfl) (by decide) (by kernel_rfl) h
def vctake_0 : VC := (.cal 72 [(.p [(.s (.lst [(.int .u8)]))])] [(.rc (.cons (.v 5) .nil))] [(.c (.lst [(.int .u8)]))] 6 (.ev [(.ob (.cmp .leq (.len (.app (.v 2) (.cons (.rc (.cons (.v 4) (.cons (.v 6) .nil))) .nil))) (.ki .i64 4294967296)))] (.back 0 [(.v 7), (.app (.v 2) (.cons (.rc (.cons (.v 4) (.cons (.v 6) .nil))) .nil)), (.v 4)])))
def vctake : VC := (.loop [(.lst [(.int .u8)]), (.lst [(.int .i64), (.lst [(.int .u8)])]), (.int .i64)] [(.v 0), .nil, (.ki .i64 0)] (.ite (.cmp .gtr (.len (.v 1)) (.ki .i64 0)) (.cal 71 [(.c .bool), (.c (.int .i64))] [(.cmp .lss (.len (.v 2)) (.ki .i64 256)), (.ki .i64 3)] [] 4 (.cal 70 [(.p [(.s (.lst [(.int .u8)]))])] [(.rc (.cons (.v 1) .nil))] [(.c (.int .i64))] 4 (.ite (.cmp .gtr (.v 4) (.v 3)) (.cal 71 [(.c .bool), (.c (.int .i64))] [(.cmp .leq (.v 4) (.ki .i64 1000)), (.ki .i64 5)] [] 6 vctake_0) (.cal 71 [(.c .bool), (.c (.int .i64))] [(.kb false), (.ki .i64 5)] [] 6 vctake_0)))) (.ret [(.v 2), (.ki .i64 0)])))
theorem take_ent (ds : List D) (r : FR) (h : vctake.den Try.prog [] (KD 153 (.lst []) r) [] (flatD [(.c (.lst [(.int .u8)]))] ds)) : Fun Try.prog [] 66 [(.c (.lst [(.int .u8)]))] ds [(.c (.lst [(.int .i64), (.lst [(.int .u8)])])), (.c (.int .i64))] r := by
  exact fun_of_def hP Try.func66 rfl (g := 82) (a := 2) (b := 3) (t := 7) rfl rfl rfl rfl rfl rfl (sg := sgs) rfl rec_Take (az := (.nilS [.int .i64, .lst [.int .u8]])) (fun η M => ⟨none, rfl⟩) rfl rfl (by decide) (by decide) (by decide) (e0 := .nil) (fun ρ => rfl) (by kernel_rfl) (by decide) (by kernel_rfl) h
def vctakel : VC := (.cal 70 [(.p [(.s (.lst [(.int .u8)]))])] [(.rc (.cons (.v 0) .nil))] [(.c (.int .i64))] 1
 (.cal 71 [(.c .bool), (.c (.int .i64))] [(.cmp .geq (.v 1) (.ki .i64 0)), (.ki .i64 5)] [] 3
  (.cal 71 [(.c .bool), (.c (.int .i64))] [(.cmp .leq (.v 1) (.ki .i64 256)), (.ki .i64 3)] [] 3
   (.loop [(.lst [(.int .u8)]), (.lst [(.lst [(.int .u8)])]), (.int .i64)] [(.v 2), .nil, (.ki .i64 0)]
    (.ite (.cmp .lss (.v 5) (.v 1))
     (.cal 72 [(.p [(.s (.lst [(.int .u8)]))])] [(.rc (.cons (.v 3) .nil))] [(.c (.lst [(.int .u8)]))] 6
      (.ev [(.ob (.cmp .leq (.len (.app (.v 4) (.cons (.v 6) .nil))) (.ki .i64 4294967296)))]
       (.back 0 [(.v 7), (.app (.v 4) (.cons (.v 6) .nil)), (.ar .add .i64 (.v 5) (.ki .i64 1))])))
     (.cal 71 [(.c .bool), (.c (.int .i64))] [(.cmp .eql (.len (.v 3)) (.ki .i64 0)), (.ki .i64 5)] [] 6
      (.ret [(.v 4), (.ki .i64 0)])))))))
theorem takel_ent (ds : List D) (r : FR) (h : vctakel.den Try.prog [] (KD 153 (.lst []) r) [] (flatD [(.c (.lst [(.int .u8)]))] ds)) : Fun Try.prog [] 48 [(.c (.lst [(.int .u8)]))] ds [(.c (.lst [(.lst [(.int .u8)])])), (.c (.int .i64))] r := by
  exact fun_of_def hP Try.func48 rfl (g := 68) (a := 2) (b := 3) (t := 6) rfl rfl rfl rfl rfl rfl (sg := sgs) rfl rec_TakeList (az := (.nilS [.lst [.int .u8]])) (fun η M => ⟨none, rfl⟩) rfl rfl (by decide) (by decide) (by decide) (e0 := .nil) (fun ρ => rfl) (by kernel_rfl) (by decide) (by kernel_rfl) h


end Go.Proofs.Ytindphofgojfbaa.L7
set_option maxRecDepth 100000
set_option linter.unusedSimpArgs false
set_option linter.unusedVariables false
namespace Go.Proofs.Ytindphofgojfbaa.L7
open Go.Proofs.Ytindphofgojfbaa.Sy Go.RowKit Go.WideShapes Go.ChangeShapes Go.ChangeAt
theorem and127 {x : Int} (h0 : 0 ≤ x) (h1 : x ≤ 255) : arI .and .u8 x 127 = x % 128 := by
  unfold arI
  simp only [BitVec.toNat_and, bv_toNat (n := IntKind.bits .u8) h0 (show x < 2 ^ 8 by omega), bv_toNat (n := IntKind.bits .u8) (x := 127) (by omega) (by decide)]
  have e : x.toNat &&& (127 : Int).toNat = (x % 128).toNat := by
    rw [show (127 : Int).toNat = 2 ^ 7 - 1 by decide, Nat.and_two_pow_sub_one_eq_mod]
    omega
  rw [e, show (((x % 128).toNat : Nat) : Int) = x % 128 by omega]
  exact wrap_u8 (by omega) (by omega)
theorem and127_64 {x : Int} (h0 : 0 ≤ x) (h1 : x ≤ 18446744073709551615) : arI .and .u64 x 127 = x % 128 := by
  unfold arI
  simp only [BitVec.toNat_and, bv_toNat (n := IntKind.bits .u64) h0 (show x < 2 ^ 64 by omega), bv_toNat (n := IntKind.bits .u64) (x := 127) (by omega) (by decide)]
  have e : x.toNat &&& (127 : Int).toNat = (x % 128).toNat := by
    rw [show (127 : Int).toNat = 2 ^ 7 - 1 by decide, Nat.and_two_pow_sub_one_eq_mod]
    omega
  rw [e, show (((x % 128).toNat : Nat) : Int) = x % 128 by omega]
  exact wrap_u64 (by omega) (by omega)
theorem and1_64 {x : Int} (h0 : 0 ≤ x) (h1 : x ≤ 18446744073709551615) : arI .and .u64 x 1 = x % 2 := by
  unfold arI
  simp only [BitVec.toNat_and, bv_toNat (n := IntKind.bits .u64) h0 (show x < 2 ^ 64 by omega), bv_toNat (n := IntKind.bits .u64) (x := 1) (by omega) (by decide)]
  have e : x.toNat &&& (1 : Int).toNat = (x % 2).toNat := by
    rw [show (1 : Int).toNat = 2 ^ 1 - 1 by decide, Nat.and_two_pow_sub_one_eq_mod]
    omega
  rw [e, show (((x % 2).toNat : Nat) : Int) = x % 2 by omega]
  exact wrap_u64 (by omega) (by omega)
theorem or128 {x : Int} (h0 : 0 ≤ x) (h1 : x < 128) : arI .or .u8 x 128 = x + 128 := by
  unfold arI
  simp only [BitVec.toNat_or, bv_toNat (n := IntKind.bits .u8) h0 (show x < 2 ^ 8 by omega), bv_toNat (n := IntKind.bits .u8) (x := 128) (by omega) (by decide)]
  have e : x.toNat ||| (128 : Int).toNat = (x + 128).toNat := by
    have h := Nat.two_pow_add_eq_or_of_lt (i := 7) (b := x.toNat) (by omega) 1
    rw [Nat.or_comm, show (128 : Int).toNat = 2 ^ 7 * 1 by decide, ← h]
    omega
  rw [e, show (((x + 128).toNat : Nat) : Int) = x + 128 by omega]
  exact wrap_u8 (by omega) (by omega)
/-- A group of bits above those that stand. -/
theorem or_group {u c : Int} {i : Nat} (h0 : 0 ≤ u) (h1 : u < 2 ^ i) (h2 : 0 ≤ c) (h3 : u + c * 2 ^ i ≤ 18446744073709551615) : arI .or .u64 u (c * 2 ^ i) = u + c * 2 ^ i := by
  have hp : (0 : Int) ≤ c * 2 ^ i := Int.mul_nonneg h2 (Int.pow_nonneg (by omega))
  unfold arI
  simp only [BitVec.toNat_or, bv_toNat (n := IntKind.bits .u64) h0 (show u < 2 ^ 64 by omega), bv_toNat (n := IntKind.bits .u64) (x := c * 2 ^ i) hp (show c * 2 ^ i < 2 ^ 64 by omega)]
  have e : u.toNat ||| (c * 2 ^ i).toNat = (u + c * 2 ^ i).toNat := by
    have hu : u.toNat < 2 ^ i := by
      have : ((2 ^ i : Nat) : Int) = 2 ^ i := by simp
      omega
    have h := Nat.two_pow_add_eq_or_of_lt hu c.toNat
    have hc : (c * 2 ^ i).toNat = 2 ^ i * c.toNat := by
      have h5 : ((2 ^ i : Nat) : Int) = 2 ^ i := by simp
      have : ((2 ^ i * c.toNat : Nat) : Int) = c * 2 ^ i := by
        rw [Int.natCast_mul, h5, Int.toNat_of_nonneg h2, Int.mul_comm]
      omega
    rw [Nat.or_comm, hc, ← h, ← hc]
    omega
  rw [e, Int.toNat_of_nonneg (by omega)]
  exact wrap_u64 (by omega) (by omega)
theorem shl_group {c : Int} {i : Nat} (h : i ≤ 63) (h0 : 0 ≤ c * 2 ^ i) (h1 : c * 2 ^ i ≤ 18446744073709551615) : shI .shl .u64 c (i : Int) = c * 2 ^ i := by
  rw [shI_shl, Int.toNat_natCast, show min i (IntKind.bits .u64) = i from Nat.min_eq_left (show i ≤ 64 by omega)]
  exact wrap_u64 h0 h1
theorem shr1_u64 (x : Int) : shI .shr .u64 x 1 = x / 2 := by
  rw [shI_shr, show (2 : Int) ^ (min (1 : Int).toNat (IntKind.bits .u64)) = 2 by decide]
  exact Int.fdiv_eq_ediv_of_nonneg _ (by decide)
theorem shr7_u64 (x : Int) : shI .shr .u64 x 7 = x / 128 := by
  rw [shI_shr, show (2 : Int) ^ (min (7 : Int).toNat (IntKind.bits .u64)) = 128 by decide]
  exact Int.fdiv_eq_ediv_of_nonneg _ (by decide)
theorem shr63_i64 {x : Int} (h : in64 x) : shI .shr .i64 x 63 = if 0 ≤ x then 0 else -1 := by
  rw [shI_shr, show (2 : Int) ^ (min (63 : Int).toNat (IntKind.bits .i64)) = 9223372036854775808 by decide, Int.fdiv_eq_ediv_of_nonneg _ (by decide)]
  unfold in64 at h
  split <;> omega
theorem wrap_i64_hi {n : Int} (h0 : 9223372036854775808 ≤ n) (h1 : n ≤ 18446744073709551615) : IntKind.wrap .i64 n = n - 18446744073709551616 := by
  simp [IntKind.wrap, IntKind.bits, IntKind.signed]; omega
theorem bv_allOnes : BitVec.ofInt 64 (-1) = BitVec.allOnes 64 := by decide
theorem arI_xori (x y : Int) : arI .xor .i64 x y = IntKind.wrap .i64 (((BitVec.ofInt 64 x ^^^ BitVec.ofInt 64 y).toNat : Nat) : Int) := rfl
theorem arI_xoru (x y : Int) : arI .xor .u64 x y = IntKind.wrap .u64 (((BitVec.ofInt 64 x ^^^ BitVec.ofInt 64 y).toNat : Nat) : Int) := rfl
/-- The sign taken back. -/
theorem xor_sign {u : Int} (h0 : 0 ≤ u) (h1 : u ≤ 18446744073709551615) : arI .xor .i64 (u / 2) (-(u % 2)) = unzig u := by
  rw [arI_xori]
  unfold unzig
  have hx := bv_toNat (n := 64) (x := u / 2) (by omega) (show u / 2 < 2 ^ 64 by omega)
  split
  · rename_i h
    rw [h, show (-(0 : Int)) = 0 from rfl, show BitVec.ofInt 64 0 = 0#64 from rfl]
    simp only [BitVec.xor_zero, hx]
    rw [Int.toNat_of_nonneg (by omega)]
    exact wrap_i64 (by omega) (by omega)
  · rename_i h
    rw [show u % 2 = 1 by omega, bv_allOnes]
    simp only [BitVec.xor_allOnes, BitVec.toNat_not, hx]
    have e : ((2 ^ 64 - 1 - (u / 2).toNat : Nat) : Int) = 18446744073709551615 - u / 2 := by omega
    rw [e, wrap_i64_hi (by omega) (by omega)]
    omega
theorem zig_xor {n : Int} (h : in64 n) : arI .xor .u64 (shI .shl .u64 (IntKind.wrap .u64 n) 1) (IntKind.wrap .u64 (shI .shr .i64 n 63)) = zig n := by
  rw [shr63_i64 h, shI_shl, wrap_u64_mod, wrap_u64_mod, wrap_u64_mod, show (2 : Int) ^ (min (1 : Int).toNat (IntKind.bits .u64)) = 2 by decide]
  rw [arI_xoru]
  unfold zig
  unfold in64 at h
  split
  · rename_i h0
    rw [show (0 : Int) % 18446744073709551616 = 0 by decide, show BitVec.ofInt 64 0 = 0#64 from rfl]
    simp only [BitVec.xor_zero]
    rw [bv_toNat (n := 64) (by omega) (show _ < (2 : Int) ^ 64 by omega), Int.toNat_of_nonneg (by omega), wrap_u64 (by omega) (by omega)]
    omega
  · rename_i h0
    rw [show BitVec.ofInt 64 ((-1 : Int) % 18446744073709551616) = BitVec.allOnes 64 by decide]
    simp only [BitVec.xor_allOnes, BitVec.toNat_not]
    rw [bv_toNat (n := 64) (by omega) (show _ < (2 : Int) ^ 64 by omega)]
    have e : ((2 ^ 64 - 1 - (n % 18446744073709551616 * 2 % 18446744073709551616).toNat : Nat) : Int) = 18446744073709551615 - (2 * n + 18446744073709551616) := by omega
    rw [e, wrap_u64 (by omega) (by omega)]
    omega
theorem check_t (e : Int) : Fun Try.prog [] 71 [tB, tI] [.bool true, I64d e] [] (.ok []) := by
  refine check_ent _ _ ?_
  show vccheck.den _ _ _ _ _
  unfold vccheck
  exact den_ite (fun _ => den_ret rfl) (fun h => by cases h)
theorem check_f (e : Int) : Fun Try.prog [] 71 [tB, tI] [.bool false, I64d e] [] (.pan 153 (.rc [I64d e])) := by
  refine check_ent _ _ ?_
  show vccheck.den _ _ _ _ _
  unfold vccheck
  exact den_ite (fun h => by cases h) (fun _ => den_pan rfl)
theorem den_chk {K : FR → Prop} {Λ : List Lp} {ρ : List D} {c : E} {e : Int} {n : Nat} {k : VC} {b : Bool} (hc : c.den ρ = .bool b) (ht : b = true → k.den Try.prog [] K Λ ρ) (hf : b = false → K (.pan 153 (.rc [I64d e]))) :
    (VC.cal 71 [tB, tI] [c, .ki .i64 e] [] n k).den Try.prog [] K Λ ρ := by
  cases b with
  | true => exact den_cal [] rfl (check_t e) (by simp only [List.map_cons, List.map_nil, hc]; rfl) rfl (by rw [List.append_nil]; exact ht rfl)
  | false => exact den_calP (check_f e) (by simp only [List.map_cons, List.map_nil, hc]; rfl) (hf rfl)
def appI (a : List Int) (n : Int) (xs : List D) : Prop := ∃ (r : List Int) (u : Int) (f : Nat), xs = [bD r, .int .u64 u] ∧ 0 ≤ u ∧ u < 2 * 128 ^ f ∧ f ≤ 9 ∧ r ++ encF f u = a ++ putS n ∧ r.length + (f + 1) ≤ a.length + 10
def appM (xs : List D) : Nat := (xs.getD 1 default).toI.toNat
theorem encF_big {f : Nat} {u : Int} (h : 128 ≤ u) (hu : u < 2 * 128 ^ f) : ∃ g, f = g + 1 ∧ encF f u = (u % 128 + 128) :: encF g (u / 128) ∧ u / 128 < 2 * 128 ^ g := by
  cases f with
  | zero => simp at hu; omega
  | succ g =>
    have hpow : (128 : Int) ^ (g + 1) = 128 ^ g * 128 := Int.pow_succ _ _
    refine ⟨g, rfl, ?_, by omega⟩
    simp only [encF]
    rw [if_neg (by omega)]
theorem encF_small {f : Nat} {u : Int} (h : u < 128) : encF f u = [u] := by
  cases f with
  | zero => rfl
  | succ g => simp only [encF]; rw [if_pos h]
theorem top9 {u : Int} {f : Nat} (h : u < 2 * 128 ^ f) (hf : f ≤ 9) : u ≤ 18446744073709551615 := by
  have : (128 : Int) ^ f ≤ 128 ^ 9 := by
    have : f = 0 ∨ f = 1 ∨ f = 2 ∨ f = 3 ∨ f = 4 ∨ f = 5 ∨ f = 6 ∨ f = 7 ∨ f = 8 ∨ f = 9 := by omega
    rcases this with rfl | rfl | rfl | rfl | rfl | rfl | rfl | rfl | rfl | rfl <;> decide
  rw [show (128 : Int) ^ 9 = 9223372036854775808 by decide] at this
  omega
theorem app_fn (a : List Int) (n : Int) (hn : in64 n) (hl : a.length + 10 ≤ 4294967296) : Fun Try.prog [] 79 [.r [.int .u8], tI] [bD a, I64d n] [.r [.int .u8]] (.ok [bD (a ++ putS n)]) := by
  refine app_ent _ _ ?_
  show vcapp.den _ _ _ _ _
  unfold vcapp
  have hz := zig_rng hn
  refine den_loop (appI a n) appM ⟨a, zig n, 9, ?_, hz.1, hz.2, by omega, rfl, by omega⟩ ?_
  · simp only [E.den, D.toI, D.toB, D.toL, D.toS, D.len, D.mapL, flatD, dE]
    rw [zig_xor hn]
  simp only [AllSh]
  intro _ _ m _ _ ⟨r, u, f, he, h0, h1, hf, hr, hlen⟩
  simp only [List.cons.injEq, D.int.injEq, D.lst.injEq, true_and, and_true] at he
  obtain ⟨rfl, rfl⟩ := he
  have ht := top9 h1 hf
  (try simp only [List.cons_append, List.nil_append])
  refine den_ite (fun h => ?_) (fun h => ?_)
  · simp only [E.den, D.toI, D.toB, D.toL, D.toS, D.len, D.mapL, flatD, dE] at h
    obtain ⟨g, rfl, hg, hu⟩ := encF_big h h1
    have e : arI .or .u8 (IntKind.wrap .u8 (arI .and .u64 m 127)) 128 = m % 128 + 128 := by
      rw [and127_64 h0 ht, wrap_u8 (by omega) (by omega), or128 (by omega) (by omega)]
    refine den_ev (evs_ob (by simp only [E.den, D.toI, D.toB, D.toL, D.toS, D.len, D.mapL, flatD, dE]; omega) (evs_nil ?_))
    refine den_back rfl ⟨r ++ [m % 128 + 128], m / 128, g, ?_, by omega, hu, by omega, by rw [← hr, hg]; simp, by simp only [List.length_append, List.length_cons, List.length_nil]; omega⟩ ?_
    · simp only [E.den, D.toI, D.toB, D.toL, D.toS, D.len, D.mapL, flatD, dE]; rw [e, shr7_u64]; simp
    · simp only [appM]; simp only [E.den, D.toI, D.toB, D.toL, D.toS, D.len, D.mapL, flatD, dE]; rw [shr7_u64]; omega
  · simp only [E.den, D.toI, D.toB, D.toL, D.toS, D.len, D.mapL, flatD, dE] at h
    refine den_ev (evs_ob (by simp only [E.den, D.toI, D.toB, D.toL, D.toS, D.len, D.mapL, flatD, dE]; omega) (evs_nil (den_ret ?_)))
    simp only [E.den, D.toI, D.toB, D.toL, D.toS, D.len, D.mapL, flatD, dE]
    rw [wrap_u8 h0 (by omega), ← hr, encF_small h]
    simp
theorem putint_fn (n : Int) (hn : in64 n) : Fun Try.prog [] 60 [tI] [I64d n] [tY] (.ok [bD (putS n)]) := by
  refine putint_ent _ _ ?_
  show vcputint.den _ _ _ _ _
  unfold vcputint
  refine den_cal [bD (putS n)] rfl (app_fn [] n hn (by simp)) rfl rfl ?_
  exact den_ret rfl
theorem pow7 : ∀ i : Nat, (2 : Int) ^ (7 * i) = 128 ^ i
  | 0 => rfl
  | i + 1 => by
    rw [show 7 * (i + 1) = 7 * i + 7 by omega, Int.pow_add, pow7 i, Int.pow_succ]
    rfl
theorem sv_take_le (b : List Int) {i j : Nat} (h : i ≤ j) : sv (b.take i) ≤ sv (b.take j) := by
  have e : b.take j = b.take i ++ (b.take j).drop i := by
    have := List.take_append_drop i (b.take j)
    rw [List.take_take, Nat.min_eq_left h] at this
    exact this.symm
  rw [e, sv_app]
  have h1 := (sv_rng ((b.take j).drop i)).1
  have h2 : (0 : Int) ≤ 128 ^ (b.take i).length := Int.pow_nonneg (by omega)
  have := Int.mul_nonneg h2 h1
  omega
theorem sv_next (b : List Int) {i : Nat} (h : i < b.length) : sv (b.take (i + 1)) = sv (b.take i) + b.getD i 0 % 128 * 128 ^ i := by
  rw [take_get 0 h, sv_app, List.length_take, Nat.min_eq_left (by omega), Int.mul_comm]
  simp [sv]
def intR (b : List Int) : FR := match readS b with
  | .ok (n, r) => .ok [I64d n, .rc [bD r]]
  | .error e => .pan 153 (.rc [I64d e])
theorem intR_ok {b r : List Int} {u : Int} (h : parse 0 b = .ok (u, r)) : intR b = .ok [I64d (unzig u), .rc [bD r]] := by simp [intR, readS, h]
theorem intR_err {b : List Int} {e : Int} (h : parse 0 b = .error e) : intR b = .pan 153 (.rc [I64d e]) := by simp [intR, readS, h]
def endI (b : List Int) (k : Nat) (xs : List D) : Prop := ∃ i : Nat, xs = [.int .u64 (sv (b.take i)), I64d i] ∧ i ≤ k + 1
theorem sub_row (b : List Int) (m n : Nat) : ((b.map U8d).take n).drop m = ((b.take n).drop m).map U8d := by simp
theorem int_end (b : List Int) (hb : isB b) (hl : b.length ≤ 4294967296) {k : Nat} (hk : k < b.length) (h10 : k < 10) (hp : parse 0 b = .ok (sv (b.take (k + 1)), b.drop (k + 1))) (L : Lp) :
    vcint_0.den Try.prog [] (fun r' => r' = intR b) [L] [bD b, I64d k] := by
  obtain ⟨_, g0, g1, _⟩ := parse_enc 9 0 b _ _ rfl hb hp
  rw [show (128 : Int) ^ 9 = 9223372036854775808 by decide] at g1
  have hw : IntKind.wrap .i64 ((k : Int) + 1) = ((k + 1 : Nat) : Int) := by rw [wrap_i64 (by omega) (by omega)]; omega
  unfold vcint_0
  refine den_ev (evs_ob (by simp only [E.den, D.toI, D.toB, D.toL, D.toS, D.len, D.mapL, flatD, dE]; rw [hw]; omega) (evs_ob (by simp only [E.den, D.toI, D.toB, D.toL, D.toS, D.len, D.mapL, flatD, dE]; rw [hw]; omega) (evs_nil ?_)))
  refine den_loop (endI b k) (fun xs => k + 1 - (xs.getD 1 default).toI.toNat) ⟨0, by simp [E.den, sv], by omega⟩ ?_
  simp only [AllSh]
  intro u _ _ n _ _ ⟨i, he, hi⟩
  simp only [List.cons.injEq, D.int.injEq, true_and, and_true] at he
  obtain ⟨rfl, rfl⟩ := he
  have hlen : (E.len (.sub (.v 0) (.ki .i64 0) (.ar .add .i64 (.v 1) (.ki .i64 1)))).den ([bD b, I64d k] ++ [.int .u64 (sv (b.take i)), I64d i]) = I64d (k + 1 : Nat) := by
    simp only [E.den, D.toI, D.toB, D.toL, D.toS, D.len, D.mapL, flatD, dE]
    rw [hw, Int.toNat_natCast, show (0 : Int).toNat = 0 from rfl, sub_row]
    simp only [List.length_map, List.length_drop, List.length_take, D.int.injEq, true_and]
    omega
  refine den_ite (fun h => ?_) (fun h => ?_)
  · simp only [E.den] at h hlen
    simp only [hlen] at h
    simp only [E.den, D.toI, D.toB, D.toL, D.toS, D.len, D.mapL, flatD, dE] at h
    have hi' : i < k + 1 := by omega
    have hc : 0 ≤ b.getD i 0 ∧ b.getD i 0 ≤ 255 := hb _ (by simp [List.getD_eq_getElem?_getD, show i < b.length by omega])
    have hn := sv_next b (show i < b.length by omega)
    have hle := sv_take_le b (show i + 1 ≤ k + 1 by omega)
    have hr := sv_rng (b.take i)
    rw [List.length_take, Nat.min_eq_left (by omega)] at hr
    have hp0 : (0 : Int) ≤ b.getD i 0 % 128 * 128 ^ i := Int.mul_nonneg (by omega) (Int.pow_nonneg (by omega))
    have hm : IntKind.wrap .i64 (7 * (i : Int)) = ((7 * i : Nat) : Int) := by rw [wrap_i64 (by omega) (by omega)]; omega
    have hwi : IntKind.wrap .i64 ((i : Int) + 1) = ((i + 1 : Nat) : Int) := by rw [wrap_i64 (by omega) (by omega)]; omega
    refine den_ev (evs_ob (by simp only [E.den, D.toI, D.toB, D.toL, D.toS, D.len, D.mapL, flatD, dE]; omega) (evs_ob ?_ (evs_nil ?_)))
    · simp only [E.den]
      simp only [hlen]
      simp only [E.den, D.toI, D.toB, D.toL, D.toS, D.len, D.mapL, flatD, dE]
      omega
    refine den_ev (evs_ob (by simp only [E.den, D.toI, D.toB, D.toL, D.toS, D.len, D.mapL, flatD, dE]; rw [hm]; omega) (evs_nil ?_))
    refine den_back rfl ⟨i + 1, ?_, by omega⟩ ?_
    · simp only [E.den, D.toI, D.toB, D.toL, D.toS, D.len, D.mapL, flatD, dE]
      rw [hw, Int.toNat_natCast, show (0 : Int).toNat = 0 from rfl, sub_row, get_U (by simp; omega), hwi]
      have hg : ((b.take (k + 1)).drop 0).getD i 0 = b.getD i 0 := by simp [List.getD_eq_getElem?_getD, List.getElem?_take, hi']
      simp only [D.toI, hg]
      rw [and127 hc.1 hc.2, wrap_u64 (by omega) (by omega), hm]
      rw [← pow7] at hp0 hr hn
      rw [shl_group (by omega) hp0 (by omega), or_group hr.1 hr.2 (by omega) (by omega), hn]
    · simp only []
      simp only [E.den, D.toI, D.toB, D.toL, D.toS, D.len, D.mapL, flatD, dE]
      rw [hwi]
      omega
  · simp only [E.den] at h hlen
    simp only [hlen] at h
    simp only [E.den, D.toI, D.toB, D.toL, D.toS, D.len, D.mapL, flatD, dE] at h
    have : i = k + 1 := by omega
    subst this
    refine den_ev (evs_ob (by simp only [E.den, D.toI, D.toB, D.toL, D.toS, D.len, D.mapL, flatD, dE]; rw [hw]; omega) (evs_ob (by simp only [E.den, D.toI, D.toB, D.toL, D.toS, D.len, D.mapL, flatD, dE]; rw [hw]; omega) (evs_nil (den_ret ?_))))
    rw [intR_ok hp]
    simp only [E.den, D.toI, D.toB, D.toL, D.toS, D.len, D.mapL, flatD, dE]
    rw [shr1_u64, and1_64 g0 (by omega), wrap_i64 (n := sv (b.take (k + 1)) / 2) (by omega) (by omega), wrap_i64 (n := sv (b.take (k + 1)) % 2) (by omega) (by omega), wrap_i64 (n := 0 - sv (b.take (k + 1)) % 2) (by omega) (by omega), Int.zero_sub, xor_sign g0 (by omega), hw, Int.toNat_natCast, sub_row, List.take_of_length_le (Nat.le_refl _)]
theorem int_mid (b : List Int) (hb : isB b) (hl : b.length ≤ 4294967296) {k : Nat} (hk : k < b.length) (h10 : k < 10) (h0 : ¬ (b.getD k 0 = 0 ∧ k ≠ 0))
    (hp : parse 0 b = if 9 ≤ k ∧ 1 < b.getD k 0 then .error 5 else .ok (sv (b.take (k + 1)), b.drop (k + 1))) (L : Lp) : vcint_1.den Try.prog [] (fun r' => r' = intR b) [L] [bD b, I64d k] := by
  have hg := get_U hk
  unfold vcint_1
  refine den_ite (fun h => ?_) (fun h => ?_)
  · simp only [E.den, D.toI, D.toB, D.toL, D.toS, D.len, D.mapL, flatD, dE] at h
    rw [if_neg (by omega)] at hp
    exact den_chk (b := true) rfl (fun _ => int_end b hb hl hk h10 hp L) (fun h => by cases h)
  · simp only [E.den, D.toI, D.toB, D.toL, D.toS, D.len, D.mapL, flatD, dE] at h
    refine den_chk rfl (fun h2 => ?_) (fun h2 => ?_)
    · simp only [E.den, D.toI, D.toB, D.toL, D.toS, D.len, D.mapL, flatD, dE] at h2
      rw [hg] at h2
      simp only [E.den, D.toI, D.toB, D.toL, D.toS, D.len, D.mapL, flatD, dE] at h2
      rw [if_neg (by omega)] at hp
      exact int_end b hb hl hk h10 hp L
    · simp only [E.den, D.toI, D.toB, D.toL, D.toS, D.len, D.mapL, flatD, dE] at h2
      rw [hg] at h2
      simp only [E.den, D.toI, D.toB, D.toL, D.toS, D.len, D.mapL, flatD, dE] at h2
      rw [if_pos (by omega)] at hp
      exact (intR_err hp).symm
theorem int_tail (b : List Int) (hb : isB b) (hl : b.length ≤ 4294967296) {k : Nat} (hk : k ≤ b.length) (hx : ∀ c ∈ b.take k, 128 ≤ c) (hend : k < 10 → k < b.length → b.getD k 0 < 128) (L : Lp) :
    vcint_2.den Try.prog [] (fun r' => r' = intR b) [L] [bD b, I64d k] := by
  obtain ⟨p1, p2, p3⟩ := read_places hb hk hx
  unfold vcint_2
  refine den_chk rfl (fun h1 => ?_) (fun h1 => ?_)
  rotate_left
  · simp only [E.den, D.toI, D.toB, D.toL, D.toS, D.len, D.mapL, flatD, dE] at h1
    exact (intR_err (p1 (by omega))).symm
  simp only [E.den, D.toI, D.toB, D.toL, D.toS, D.len, D.mapL, flatD, dE] at h1
  refine den_chk rfl (fun h2 => ?_) (fun h2 => ?_)
  rotate_left
  · simp only [E.den, D.toI, D.toB, D.toL, D.toS, D.len, D.mapL, flatD, dE] at h2
    exact (intR_err (p2 (by omega) (by omega))).symm
  simp only [E.den, D.toI, D.toB, D.toL, D.toS, D.len, D.mapL, flatD, dE] at h2
  have hk' : k < b.length := by omega
  have hp := p3 (by omega) hk' (hend (by omega) hk')
  have hg := get_U hk'
  refine den_ev (evs_ob (by simp only [E.den, D.toI, D.toB, D.toL, D.toS, D.len, D.mapL, flatD, dE]; omega) (evs_ob (by simp only [E.den, D.toI, D.toB, D.toL, D.toS, D.len, D.mapL, flatD, dE]; omega) (evs_nil ?_)))
  refine den_ite (fun h3 => ?_) (fun h3 => ?_)
  · simp only [E.den, D.toI, D.toB, D.toL, D.toS, D.len, D.mapL, flatD, dE] at h3
    rw [hg] at h3
    simp only [E.den, D.toI, D.toB, D.toL, D.toS, D.len, D.mapL, flatD, dE] at h3
    rw [if_neg (fun h => h3 h.1)] at hp
    exact den_chk (b := true) rfl (fun _ => int_mid b hb hl hk' (by omega) (fun h => h3 h.1) hp L) (fun h => by cases h)
  · simp only [E.den, D.toI, D.toB, D.toL, D.toS, D.len, D.mapL, flatD, dE] at h3
    rw [hg] at h3
    simp only [E.den, D.toI, D.toB, D.toL, D.toS, D.len, D.mapL, flatD, dE] at h3
    refine den_chk rfl (fun h4 => ?_) (fun h4 => ?_)
    · simp only [E.den, D.toI, D.toB, D.toL, D.toS, D.len, D.mapL, flatD, dE] at h4
      rw [if_neg (fun h => h.2 (by omega))] at hp
      exact int_mid b hb hl hk' (by omega) (fun h => h.2 (by omega)) hp L
    · simp only [E.den, D.toI, D.toB, D.toL, D.toS, D.len, D.mapL, flatD, dE] at h4
      rw [if_pos ⟨h3, by omega⟩] at hp
      exact (intR_err hp).symm
def leadI (b : List Int) (xs : List D) : Prop := ∃ k : Nat, xs = [I64d k] ∧ k ≤ b.length ∧ k ≤ 10 ∧ ∀ c ∈ b.take k, 128 ≤ c
theorem int_fn (b : List Int) (hb : isB b) (hl : b.length ≤ 4294967296) : Fun Try.prog [] 70 [.p [.s (.lst [.int .u8])]] [.rc [bD b]] [tI] (intR b) := by
  refine int_ent _ _ ?_
  show vcint.den _ _ _ _ _
  unfold vcint
  refine den_loop (leadI b) (fun xs => b.length - (xs.getD 0 default).toI.toNat) ⟨0, rfl, by omega, by omega, by simp⟩ ?_
  simp only [AllSh]
  intro n _ _ ⟨k, he, hk, hk10, hx⟩
  simp only [List.cons.injEq, D.int.injEq, true_and, and_true] at he
  subst he
  refine den_ite (fun h => den_ite (fun h2 => ?_) (fun h2 => ?_)) (fun h => ?_)
  · simp only [E.den, D.toI, D.toB, D.toL, D.toS, D.len, D.mapL, flatD, dE] at h
    simp only [E.den, D.toI, D.toB, D.toL, D.toS, D.len, D.mapL, flatD, dE] at h2
    have hk' : k < b.length := by simpa using h
    have hg := get_U hk'
    refine den_ev (evs_ob (by simp only [E.den, D.toI, D.toB, D.toL, D.toS, D.len, D.mapL, flatD, dE]; omega) (evs_ob (by simp only [E.den, D.toI, D.toB, D.toL, D.toS, D.len, D.mapL, flatD, dE]; simp; omega) (evs_nil ?_)))
    refine den_ite (fun h3 => ?_) (fun h3 => ?_)
    · simp only [E.den, D.toI, D.toB, D.toL, D.toS, D.len, D.mapL, flatD, dE] at h3
      rw [hg] at h3
      simp only [E.den, D.toI, D.toB, D.toL, D.toS, D.len, D.mapL, flatD, dE] at h3
      have hw : IntKind.wrap .i64 ((k : Int) + 1) = ((k + 1 : Nat) : Int) := by rw [wrap_i64 (by omega) (by omega)]; omega
      refine den_back rfl ⟨k + 1, ?_, by omega, by omega, ?_⟩ ?_
      · simp only [E.den, D.toI, D.toB, D.toL, D.toS, D.len, D.mapL, flatD, dE]; rw [hw]
      · rw [take_get 0 hk']
        intro c hc
        rcases List.mem_append.1 hc with h | h
        · exact hx c h
        · simp only [List.mem_singleton] at h; omega
      · simp only []; simp only [E.den, D.toI, D.toB, D.toL, D.toS, D.len, D.mapL, flatD, dE]; rw [hw]; omega
    · simp only [E.den, D.toI, D.toB, D.toL, D.toS, D.len, D.mapL, flatD, dE] at h3
      rw [hg] at h3
      simp only [E.den, D.toI, D.toB, D.toL, D.toS, D.len, D.mapL, flatD, dE] at h3
      exact int_tail b hb hl hk hx (fun _ _ => by omega) _
  · simp only [E.den, D.toI, D.toB, D.toL, D.toS, D.len, D.mapL, flatD, dE] at h2
    exact int_tail b hb hl hk hx (fun _ _ => by omega) _
  · simp only [E.den, D.toI, D.toB, D.toL, D.toS, D.len, D.mapL, flatD, dE] at h
    have : ¬ k < b.length := by simpa using h
    exact int_tail b hb hl hk hx (fun _ _ => by omega) _
theorem int_ok {b r : List Int} {n : Int} (hb : isB b) (hl : b.length ≤ 4294967296) (h : readS b = .ok (n, r)) : Fun Try.prog [] 70 [.p [.s (.lst [.int .u8])]] [.rc [bD b]] [tI] (.ok [I64d n, .rc [bD r]]) := by
  have := int_fn b hb hl
  simpa only [intR, h] using this
theorem int_pan {b : List Int} {e : Int} (hb : isB b) (hl : b.length ≤ 4294967296) (h : readS b = .error e) : Fun Try.prog [] 70 [.p [.s (.lst [.int .u8])]] [.rc [bD b]] [tI] (.pan 153 (.rc [I64d e])) := by
  have := int_fn b hb hl
  simpa only [intR, h] using this
section
variable {P : Program} {G : Globs} {K : FR → Prop} {Λ : List Lp} {ρ : List D}
theorem den_t {e : E} {a b : VC} (h : (e.den ρ).toB = true) (k : a.den P G K Λ ρ) : (VC.ite e a b).den P G K Λ ρ := den_ite (fun _ => k) (fun h' => by rw [h] at h'; cases h')
theorem den_f {e : E} {a b : VC} (h : (e.den ρ).toB = false) (k : b.den P G K Λ ρ) : (VC.ite e a b).den P G K Λ ρ := den_ite (fun h' => by rw [h] at h'; cases h') (fun _ => k)
end
abbrev fD (x : Fld) : D := .rc [I64d x.1, bD x.2]
abbrev fsD (l : List Fld) : D := .lst (l.map fD)
abbrev tF : TS := .c (.lst [.int .i64, .lst [.int .u8]])
theorem get_F {l : List Fld} {i : Nat} (h : i < l.length) : (l.map fD).getD i default = fD (l.getD i (0, [])) := by simp [List.getD_eq_getElem?_getD, h]
theorem mem_getD {α : Type} (d : α) {l : List α} {i : Nat} (h : i < l.length) : l.getD i d ∈ l := by simp [List.getD_eq_getElem?_getD, h]
theorem clone_fn (b : List Int) (hl : b.length ≤ 4294967296) : Fun Try.prog [] 22 [tY] [bD b] [.r [.int .u8]] (.ok [bD b]) := by
  refine clone_ent _ _ ?_
  show vcclone.den _ _ _ _ _
  unfold vcclone
  simp only [E.den, D.toI, D.toB, D.toL, D.toS, D.len, D.mapL, flatD, dE]
  refine ⟨fun h => den_ret ?_, ?_⟩
  · simp only [E.den, D.toI, D.toB, D.toL, D.toS, D.len, D.mapL, flatD, dE] at h
    have : b = [] := by simpa using h
    subst this
    rfl
  · refine den_ev (evs_ob (by simp only [E.den, D.toI, D.toB, D.toL, D.toS, D.len, D.mapL, flatD, dE]; omega) (evs_nil (den_ret ?_)))
    simp only [E.den, D.toI, D.toB, D.toL, D.toS, D.len, D.mapL, flatD, dE]
def datR (b : List Int) : FR := match dataS b with
  | .ok (d, r) => .ok [bD d, .rc [bD r]]
  | .error e => .pan 153 (.rc [I64d e])
theorem dat_fn (b : List Int) (hb : isB b) (hl : b.length ≤ 4294967296) : Fun Try.prog [] 72 [.p [.s (.lst [.int .u8])]] [.rc [bD b]] [tY] (datR b) := by
  refine dat_ent _ _ ?_
  show vcdat.den _ _ _ _ _
  unfold vcdat
  cases hr : readS b with
  | error e => exact den_calP (int_pan hb hl hr) rfl (by simp [datR, dataS, hr])
  | ok p =>
    obtain ⟨n, r⟩ := p
    obtain ⟨hbe, hn, hrB, hrl⟩ := put_read hb hr
    refine den_cal [I64d n, bD r] rfl (int_ok hb hl hr) rfl rfl ?_
    refine den_chk rfl (fun h1 => ?_) (fun h1 => ?_)
    rotate_left
    · simp only [E.den, D.toI, D.toB, D.toL, D.toS, D.len, D.mapL, flatD, dE] at h1
      simp [datR, dataS, hr, h1]
    simp only [E.den, D.toI, D.toB, D.toL, D.toS, D.len, D.mapL, flatD, dE] at h1
    refine den_chk rfl (fun h2 => ?_) (fun h2 => ?_)
    rotate_left
    · simp only [E.den, D.toI, D.toB, D.toL, D.toS, D.len, D.mapL, flatD, dE] at h2
      simp [datR, dataS, hr, show ¬ n < 0 by omega, h2]
    simp only [E.den, D.toI, D.toB, D.toL, D.toS, D.len, D.mapL, flatD, dE] at h2
    have hR : datR b = .ok [bD (r.take n.toNat), .rc [bD (r.drop n.toNat)]] := by simp [datR, dataS, hr, show ¬ n < 0 by omega, show ¬ ((r.length : Int) < n) by omega]
    refine den_ev (evs_ob (by simp only [E.den, D.toI, D.toB, D.toL, D.toS, D.len, D.mapL, flatD, dE]; omega) (evs_ob (by simp only [E.den, D.toI, D.toB, D.toL, D.toS, D.len, D.mapL, flatD, dE]; omega) (evs_ob (by simp only [E.den, D.toI, D.toB, D.toL, D.toS, D.len, D.mapL, flatD, dE]; omega) (evs_ob (by simp only [E.den, D.toI, D.toB, D.toL, D.toS, D.len, D.mapL, flatD, dE]; omega) (evs_nil ?_)))))
    refine den_cal [bD (r.take n.toNat)] rfl (clone_fn (r.take n.toNat) (by rw [List.length_take]; omega)) ?_ rfl ?_
    · simp only [E.den, D.toI, D.toB, D.toL, D.toS, D.len, D.mapL, flatD, dE]
      rw [show (0 : Int).toNat = 0 from rfl, sub_row, List.drop_zero]
    refine den_ev (evs_ob (by simp only [E.den, D.toI, D.toB, D.toL, D.toS, D.len, D.mapL, flatD, dE]; omega) (evs_ob (by simp only [E.den, D.toI, D.toB, D.toL, D.toS, D.len, D.mapL, flatD, dE]; omega) (evs_nil ?_)))
    refine den_ret ?_
    rw [hR]
    simp only [E.den, D.toI, D.toB, D.toL, D.toS, D.len, D.mapL, flatD, dE]
    rw [sub_row, List.take_of_length_le (Nat.le_refl _)]
theorem dat_ok {b r d : List Int} (hb : isB b) (hl : b.length ≤ 4294967296) (h : dataS b = .ok (d, r)) : Fun Try.prog [] 72 [.p [.s (.lst [.int .u8])]] [.rc [bD b]] [tY] (.ok [bD d, .rc [bD r]]) := by
  have := dat_fn b hb hl
  simpa only [datR, h] using this
theorem dat_pan {b : List Int} {e : Int} (hb : isB b) (hl : b.length ≤ 4294967296) (h : dataS b = .error e) : Fun Try.prog [] 72 [.p [.s (.lst [.int .u8])]] [.rc [bD b]] [tY] (.pan 153 (.rc [I64d e])) := by
  have := dat_fn b hb hl
  simpa only [datR, h] using this
def tiR (b : List Int) : List D := [I64d (takeIntS b).1, I64d (takeIntS b).2]
theorem takeint_fn (b : List Int) (hb : isB b) (hl : b.length ≤ 4294967296) : Fun Try.prog [] 67 [tY] [bD b] [tI, tI] (.ok (tiR b)) := by
  refine takeint_ent _ _ ?_
  show vctakeint.den _ _ _ _ _
  unfold vctakeint
  cases hr : readS b with
  | error e => exact den_calP (int_pan hb hl hr) rfl ⟨rfl, e, rfl, by simp [tiR, takeIntS, hr]⟩
  | ok p =>
    obtain ⟨n, r⟩ := p
    refine den_cal [I64d n, bD r] rfl (int_ok hb hl hr) rfl rfl ?_
    refine den_chk rfl (fun h1 => den_ret ?_) (fun h1 => ?_)
    · simp only [E.den, D.toI, D.toB, D.toL, D.toS, D.len, D.mapL, flatD, dE] at h1
      have : r = [] := by cases r with
        | nil => rfl
        | cons x r => simp at h1; omega
      show FR.ok _ = FR.ok _
      simp only [E.den, D.toI, D.toB, D.toL, D.toS, D.len, D.mapL, flatD, dE]
      simp [tiR, takeIntS, hr, this]
    · simp only [E.den, D.toI, D.toB, D.toL, D.toS, D.len, D.mapL, flatD, dE] at h1
      refine ⟨rfl, 5, rfl, ?_⟩
      have : r ≠ [] := by
        intro e
        subst e
        simp at h1
      simp [tiR, takeIntS, hr, this]
def putR (x : Except Int (List Int)) : List D := match x with
  | .ok b => [bD b, I64d 0]
  | .error e => [bD [], I64d e]
theorem consA_consA (a b : List Int) (x : Except Int (List Int)) : consA a (consA b x) = consA (a ++ b) x := by cases x <;> simp [consA]
theorem consA_nil (x : Except Int (List Int)) : consA [] x = x := by cases x <;> rfl
def bef (l : List Fld) (i : Nat) : Int := if i = 0 then 0 else (l.getD (i - 1) (0, [])).1
def putI (l : List Fld) (acc : List Int) (i : Nat) : Prop := i ≤ l.length ∧ acc.length ≤ i * 1000020 ∧ putG 0 l = consA acc (putG (bef l i) (l.drop i))
theorem putI0 (l : List Fld) : putI l [] 0 := ⟨by omega, by simp, by rw [consA_nil]; rfl⟩
theorem bef_next {l : List Fld} {i : Nat} : bef l (i + 1) = (l.getD i (0, [])).1 := by simp [bef]
theorem putI_step {l : List Fld} {acc : List Int} {i : Nat} (h : putI l acc i) (hi : i < l.length) (hs : ∀ x ∈ l, x.2.length ≤ 1000000) :
    ((l.getD i (0, [])).1 < 1 ∨ 1000 < (l.getD i (0, [])).1 → putG 0 l = .error 2) ∧
    (¬ ((l.getD i (0, [])).1 < 1 ∨ 1000 < (l.getD i (0, [])).1) → (l.getD i (0, [])).1 ≤ bef l i → putG 0 l = .error 1) ∧
    (¬ ((l.getD i (0, [])).1 < 1 ∨ 1000 < (l.getD i (0, [])).1) → ¬ (l.getD i (0, [])).1 ≤ bef l i → putI l (acc ++ putS (l.getD i (0, [])).1 ++ putS (l.getD i (0, [])).2.length ++ (l.getD i (0, [])).2) (i + 1)) := by
  obtain ⟨h1, h2, h3⟩ := h
  rw [drop_get (0, []) hi] at h3
  have hm := hs _ (mem_getD (0, []) hi)
  generalize hx : l.getD i (0, []) = x at *
  obtain ⟨t, d⟩ := x
  simp only [putG] at h3
  refine ⟨fun h => ?_, fun h k => ?_, fun h k => ⟨by omega, ?_, ?_⟩⟩
  · rw [h3, if_pos h]; rfl
  · rw [h3, if_neg h, if_pos k]; rfl
  · have e1 := putS_len t
    have e2 := putS_len d.length
    simp only [List.length_append] at hm ⊢
    omega
  · rw [h3, if_neg h, if_neg k, consA_consA, bef_next, hx]
    simp [putD]
theorem putF_over {l : List Fld} (h : 256 < l.length) : putF l = .error 3 := by simp [putF, h]
theorem putF_in {l : List Fld} (h : l.length ≤ 256) : putF l = putG 0 l := by simp [putF]; omega
theorem put_end {l : List Fld} {acc : List Int} (h : putI l acc l.length) : putG 0 l = .ok acc := by
  rw [h.2.2, List.drop_length]
  simp [putG, consA]
def putI1 (l : List Fld) (xs : List D) : Prop := ∃ (acc : List Int) (z : List D) (e : Int) (i : Nat), xs = [bD acc, .lst z, I64d e, I64d (bef l i), I64d i] ∧ putI l acc i
def putM (l : List Fld) (xs : List D) : Nat := l.length - (xs.getD 4 default).toI.toNat
theorem put_go (l : List Fld) (hl : l.length ≤ 256) (hs : ∀ x ∈ l, x.2.length ≤ 1000000) {acc : List Int} {z : List D} {e : Int} {i m : Nat} (hi' : i < l.length) (hI : putI l acc i) (h1 : ¬ ((l.getD i (0, [])).1 < 1 ∨ 1000 < (l.getD i (0, [])).1)) (h2 : ¬ (l.getD i (0, [])).1 ≤ bef l i) (hm : l.length - i = m) :
    vcput_0.den Try.prog [] (fun r' => r' = .ok (putR (putG 0 l))) [⟨putI1 l, putM l, m⟩] [fsD l, bD acc, .lst z, I64d e, I64d (bef l i), I64d i] := by
  have hg := get_F hi'
  have hml := hs _ (mem_getD (0, []) hi')
  have hal := hI.2.1
  have hnx : bef l (i + 1) = (l.getD i (0, [])).1 := bef_next
  have hst := (putI_step hI hi' hs).2.2 h1 h2
  generalize hx : l.getD i (0, []) = x at *
  obtain ⟨t, d⟩ := x
  simp only [] at *
  have e1 := putS_len t
  have e2 := putS_len d.length
  have hw : IntKind.wrap .i64 ((i : Int) + 1) = ((i + 1 : Nat) : Int) := by rw [wrap_i64 (by omega) (by omega)]; omega
  unfold vcput_0
  refine den_cal [bD (acc ++ putS t)] rfl (app_fn acc t (by unfold in64; omega) (by omega)) (by simp only [E.den, D.toI, D.toB, D.toL, D.toS, D.len, D.mapL, flatD, dE]; rw [hg] <;> rfl) rfl ?_
  (try simp only [List.cons_append, List.nil_append])
  refine den_cal [bD (acc ++ putS t ++ putS d.length)] rfl (app_fn (acc ++ putS t) d.length (by unfold in64; omega) (by simp only [List.length_append]; omega)) (by simp only [E.den, D.toI, D.toB, D.toL, D.toS, D.len, D.mapL, flatD, dE]; rw [hg]; simp only [E.den, D.toI, D.toB, D.toL, D.toS, D.len, D.mapL, flatD, dE]) rfl ?_
  (try simp only [List.cons_append, List.nil_append])
  refine den_ev (evs_ob (by simp only [E.den, D.toI, D.toB, D.toL, D.toS, D.len, D.mapL, flatD, dE]; rw [hg]; simp only [E.den, D.toI, D.toB, D.toL, D.toS, D.len, D.mapL, flatD, dE]; omega) (evs_nil ?_))
  refine den_back rfl ⟨acc ++ putS t ++ putS d.length ++ d, z, e, i + 1, ?_, hst⟩ ?_
  · simp only [E.den, D.toI, D.toB, D.toL, D.toS, D.len, D.mapL, flatD, dE]
    rw [hg]
    simp only [E.den, D.toI, D.toB, D.toL, D.toS, D.len, D.mapL, flatD, dE]
    rw [hw, hnx]
    simp
  · simp only [putM]
    simp only [E.den, D.toI, D.toB, D.toL, D.toS, D.len, D.mapL, flatD, dE]
    rw [hw]
    omega
theorem put_fn (l : List Fld) (hl : l.length ≤ 4294967296) (hs : ∀ x ∈ l, x.2.length ≤ 1000000) : Fun Try.prog [] 81 [tF] [fsD l] [tY, tI] (.ok (putR (putF l))) := by
  refine put_ent _ _ ?_
  show vcput.den _ _ _ _ _
  unfold vcput
  refine den_ite (fun h => den_ret ?_) (fun h => ?_)
  · simp only [E.den, D.toI, D.toB, D.toL, D.toS, D.len, D.mapL, flatD, dE] at h
    simp only [E.den, D.toI, D.toB, D.toL, D.toS, D.len, D.mapL, flatD, dE]
    rw [putF_over (by omega)]
    rfl
  simp only [E.den, D.toI, D.toB, D.toL, D.toS, D.len, D.mapL, flatD, dE] at h
  rw [putF_in (by omega)]
  refine den_loop (putI1 l) (putM l) ⟨[], [], 0, 0, rfl, putI0 l⟩ ?_
  simp only [AllSh]
  intro _ _ z _ e _ _ _ _ _ n _ _ ⟨acc, z', e', i, he, hI⟩
  simp only [List.cons.injEq, D.int.injEq, D.lst.injEq, true_and, and_true] at he
  obtain ⟨rfl, rfl, rfl, rfl, rfl⟩ := he
  (try simp only [List.cons_append, List.nil_append])
  refine den_ite (fun h2 => ?_) (fun h2 => ?_)
  rotate_left
  · simp only [E.den, D.toI, D.toB, D.toL, D.toS, D.len, D.mapL, flatD, dE] at h2
    refine den_ret ?_
    have : i = l.length := by have := hI.1; omega
    subst this
    rw [put_end hI]
    simp only [E.den, D.toI, D.toB, D.toL, D.toS, D.len, D.mapL, flatD, dE]
    rfl
  simp only [E.den, D.toI, D.toB, D.toL, D.toS, D.len, D.mapL, flatD, dE] at h2
  have hi' : i < l.length := by omega
  have hg := get_F hi'
  obtain ⟨s1, s2, s3⟩ := putI_step hI hi' hs
  have go := fun h1 h2 => put_go l (by omega) hs (z := z) (e := e) hi' hI h1 h2 rfl
  have hb0 : i = 0 → bef l i = 0 := fun h => by simp [bef, h]
  generalize hx : l.getD i (0, []) = x at *
  obtain ⟨t, d⟩ := x
  simp only [] at s1 s2 s3 go
  refine den_ev (evs_ob (by simp only [E.den, D.toI, D.toB, D.toL, D.toS, D.len, D.mapL, flatD, dE]; omega) (evs_ob (by simp only [E.den, D.toI, D.toB, D.toL, D.toS, D.len, D.mapL, flatD, dE]; omega) (evs_nil ?_)))
  refine den_ite (fun h3 => den_ret ?_) (fun h3 => ?_)
  · simp only [E.den, D.toI, D.toB, D.toL, D.toS, D.len, D.mapL, flatD, dE] at h3
    rw [hg] at h3
    simp only [E.den, D.toI, D.toB, D.toL, D.toS, D.len, D.mapL, flatD, dE] at h3
    rw [s1 (.inl h3)]
    simp only [E.den, D.toI, D.toB, D.toL, D.toS, D.len, D.mapL, flatD, dE]
    rfl
  simp only [E.den, D.toI, D.toB, D.toL, D.toS, D.len, D.mapL, flatD, dE] at h3
  rw [hg] at h3
  simp only [E.den, D.toI, D.toB, D.toL, D.toS, D.len, D.mapL, flatD, dE] at h3
  refine den_ite (fun h4 => den_ret ?_) (fun h4 => ?_)
  · simp only [E.den, D.toI, D.toB, D.toL, D.toS, D.len, D.mapL, flatD, dE] at h4
    rw [hg] at h4
    simp only [E.den, D.toI, D.toB, D.toL, D.toS, D.len, D.mapL, flatD, dE] at h4
    rw [s1 (.inr h4)]
    simp only [E.den, D.toI, D.toB, D.toL, D.toS, D.len, D.mapL, flatD, dE]
    rfl
  simp only [E.den, D.toI, D.toB, D.toL, D.toS, D.len, D.mapL, flatD, dE] at h4
  rw [hg] at h4
  simp only [E.den, D.toI, D.toB, D.toL, D.toS, D.len, D.mapL, flatD, dE] at h4
  refine den_ite (fun h5 => den_ite (fun h6 => den_ret ?_) (fun h6 => ?_)) (fun h5 => ?_)
  · simp only [E.den, D.toI, D.toB, D.toL, D.toS, D.len, D.mapL, flatD, dE] at h6
    rw [hg] at h6
    simp only [E.den, D.toI, D.toB, D.toL, D.toS, D.len, D.mapL, flatD, dE] at h6
    rw [s2 (by omega) h6]
    simp only [E.den, D.toI, D.toB, D.toL, D.toS, D.len, D.mapL, flatD, dE]
    rfl
  · simp only [E.den, D.toI, D.toB, D.toL, D.toS, D.len, D.mapL, flatD, dE] at h6
    rw [hg] at h6
    simp only [E.den, D.toI, D.toB, D.toL, D.toS, D.len, D.mapL, flatD, dE] at h6
    exact go (by omega) (by omega)
  · simp only [E.den, D.toI, D.toB, D.toL, D.toS, D.len, D.mapL, flatD, dE] at h5
    have := hb0 (by omega)
    exact go (by omega) (by omega)
def preF (acc : List Fld) : Except Int (List Fld) → Except Int (List Fld)
  | .ok l => .ok (acc ++ l)
  | .error e => .error e
theorem preF_consF (acc : List Fld) (x : Fld) (r : Except Int (List Fld)) : preF acc (consF x r) = preF (acc ++ [x]) r := by cases r <;> simp [preF, consF]
def takeR : Except Int (List Fld) → List D
  | .ok l => [fsD l, I64d 0]
  | .error e => [.lst [], I64d e]
theorem takeG_nil (f : Nat) (b : Int) (c : Nat) : takeG f b c [] = .ok [] := by cases f <;> simp [takeG]
theorem takeG_step {f : Nat} {before : Int} {c : Nat} {b : List Int} (hb : b ≠ []) (hf : b.length ≤ f) : ∃ g, f = g + 1 ∧ takeG f before c b = if 256 ≤ c then .error 3 else match readS b with
    | .error e => .error e
    | .ok (t, r) => if ¬ (before < t ∧ t ≤ 1000) then .error 5 else match dataS r with
      | .error e => .error e
      | .ok (d, r2) => consF (t, d) (takeG g t (c + 1) r2) := by
  cases f with
  | zero => exact absurd (List.length_eq_zero_iff.1 (by omega)) hb
  | succ g =>
    refine ⟨g, rfl, ?_⟩
    simp only [takeG]
    rw [if_neg hb] <;> rfl
def takeI (b : List Int) (xs : List D) : Prop := ∃ (rest : List Int) (acc : List Fld) (before : Int) (f : Nat), xs = [bD rest, fsD acc, I64d before] ∧ rest.length ≤ f ∧ takeF b = preF acc (takeG f before acc.length rest) ∧ isB rest ∧ rest.length ≤ b.length ∧ acc.length ≤ 256
def takeM (xs : List D) : Nat := (xs.getD 0 default).toL.length
theorem take_fn (b : List Int) (hb : isB b) (hl : b.length ≤ 4294967296) : Fun Try.prog [] 66 [tY] [bD b] [tF, tI] (.ok (takeR (takeF b))) := by
  refine take_ent _ _ ?_
  show vctake.den _ _ _ _ _
  unfold vctake
  refine den_loop (takeI b) takeM ⟨b, [], 0, b.length, rfl, by omega, ?_, hb, by omega, by simp⟩ ?_
  · unfold takeF
    cases takeG b.length 0 0 b <;> rfl
  simp only [AllSh]
  intro _ _ _ _ n _ _ ⟨rest, acc, before, f, he, hf, hF, hrB, hrl, hac⟩
  simp only [List.cons.injEq, D.int.injEq, D.lst.injEq, true_and, and_true] at he
  obtain ⟨rfl, rfl, rfl⟩ := he
  (try simp only [List.cons_append, List.nil_append])
  refine den_ite (fun h => ?_) (fun h => ?_)
  rotate_left
  · simp only [E.den, D.toI, D.toB, D.toL, D.toS, D.len, D.mapL, flatD, dE] at h
    have : rest = [] := List.length_eq_zero_iff.1 (by omega)
    subst this
    rw [takeG_nil] at hF
    refine den_ret ?_
    show FR.ok _ = FR.ok _
    rw [hF]
    simp only [E.den, D.toI, D.toB, D.toL, D.toS, D.len, D.mapL, flatD, dE]
    simp [preF, takeR]
  simp only [E.den, D.toI, D.toB, D.toL, D.toS, D.len, D.mapL, flatD, dE] at h
  have hne : rest ≠ [] := fun e => by subst e; simp at h
  obtain ⟨g, rfl, hstep⟩ := takeG_step (before := n) (c := acc.length) hne hf
  rw [hstep] at hF
  refine den_chk rfl (fun h1 => ?_) (fun h1 => ?_)
  rotate_left
  · simp only [E.den, D.toI, D.toB, D.toL, D.toS, D.len, D.mapL, flatD, dE] at h1
    rw [if_pos (by omega)] at hF
    exact ⟨rfl, 3, rfl, by rw [hF]; rfl⟩
  simp only [E.den, D.toI, D.toB, D.toL, D.toS, D.len, D.mapL, flatD, dE] at h1
  rw [if_neg (by omega)] at hF
  cases hr : readS rest with
  | error e =>
    rw [hr] at hF
    exact den_calP (int_pan hrB (by omega) hr) rfl ⟨rfl, e, rfl, by rw [hF]; rfl⟩
  | ok p =>
    obtain ⟨t, r⟩ := p
    rw [hr] at hF
    simp only [] at hF
    obtain ⟨_, _, hrB2, hrl2⟩ := put_read hrB hr
    refine den_cal [I64d t, bD r] rfl (int_ok hrB (by omega) hr) rfl rfl ?_
    (try simp only [List.cons_append, List.nil_append])
    have go : n < t → t ≤ 1000 → vctake_0.den Try.prog [] (KD 153 (.lst []) (.ok (takeR (takeF b)))) [⟨takeI b, takeM, rest.length⟩] [bD b, bD rest, fsD acc, I64d n, I64d t, bD r] := by
      intro k1 k2
      rw [if_neg (fun h => h ⟨k1, k2⟩)] at hF
      unfold vctake_0
      cases hd : dataS r with
      | error e =>
        rw [hd] at hF
        exact den_calP (dat_pan hrB2 (by omega) hd) rfl ⟨rfl, e, rfl, by rw [hF]; rfl⟩
      | ok p =>
        obtain ⟨d, r2⟩ := p
        rw [hd] at hF
        simp only [] at hF
        obtain ⟨_, _, hrB3, hrl3, _, _⟩ := put_data hrB2 hd
        refine den_cal [bD d, bD r2] rfl (dat_ok hrB2 (by omega) hd) rfl rfl ?_
        (try simp only [List.cons_append, List.nil_append])
        refine den_ev (evs_ob (by simp only [E.den, D.toI, D.toB, D.toL, D.toS, D.len, D.mapL, flatD, dE]; omega) (evs_nil ?_))
        refine den_back rfl ⟨r2, acc ++ [(t, d)], t, g, ?_, by omega, ?_, hrB3, by omega, by simp; omega⟩ ?_
        · simp only [E.den, D.toI, D.toB, D.toL, D.toS, D.len, D.mapL, flatD, dE]
          simp
        · rw [hF, preF_consF]
          simp
        · simp only [takeM]
          simp only [E.den, D.toI, D.toB, D.toL, D.toS, D.len, D.mapL, flatD, dE]
          omega
    refine den_ite (fun h2 => ?_) (fun h2 => ?_)
    · simp only [E.den, D.toI, D.toB, D.toL, D.toS, D.len, D.mapL, flatD, dE] at h2
      refine den_chk rfl (fun h3 => ?_) (fun h3 => ?_)
      · simp only [E.den, D.toI, D.toB, D.toL, D.toS, D.len, D.mapL, flatD, dE] at h3
        have := go (by omega) h3
        simp only [takeM, List.getD_cons_zero, D.toL, List.length_map]
        exact this
      · simp only [E.den, D.toI, D.toB, D.toL, D.toS, D.len, D.mapL, flatD, dE] at h3
        rw [if_pos (by omega)] at hF
        exact ⟨rfl, 5, rfl, by rw [hF]; rfl⟩
    · simp only [E.den, D.toI, D.toB, D.toL, D.toS, D.len, D.mapL, flatD, dE] at h2
      rw [if_pos (by omega)] at hF
      exact den_chk (b := false) rfl (fun h => by cases h) (fun _ => ⟨rfl, 5, rfl, by rw [hF]; rfl⟩)
theorem flat_next {l : List (List Int)} {i : Nat} (h : i < l.length) : (l.take (i + 1)).flatMap putD = (l.take i).flatMap putD ++ putD (l.getD i []) := by
  rw [take_get [] h]; simp
theorem flat_len {l : List (List Int)} (hs : ∀ x ∈ l, x.length ≤ 1000000) : ∀ {i : Nat}, i ≤ l.length → ((l.take i).flatMap putD).length ≤ i * 1000010
  | 0, _ => by simp
  | i + 1, h => by
    have := flat_len hs (i := i) (by omega)
    have hm := hs _ (mem_getD [] (show i < l.length by omega))
    have h3 := putS_len (l.getD i []).length
    have hpd : (putD (l.getD i [])).length = (putS (l.getD i []).length).length + (l.getD i []).length := by unfold putD; rw [List.length_append]
    rw [flat_next (by omega), List.length_append]
    omega
theorem putListS_over {l : List (List Int)} (h : 256 < l.length) : putListS l = .error 3 := by simp [putListS, h]
theorem putListS_in {l : List (List Int)} (h : l.length ≤ 256) : putListS l = .ok (putL l) := by simp [putListS]; omega
def putlI (l : List (List Int)) (xs : List D) : Prop := ∃ i : Nat, xs = [bD (putS l.length ++ (l.take i).flatMap putD), I64d i] ∧ i ≤ l.length
def putlM (l : List (List Int)) (xs : List D) : Nat := l.length - (xs.getD 1 default).toI.toNat
theorem putl_fn (l : List (List Int)) (hl : l.length ≤ 4294967296) (hs : ∀ x ∈ l, x.length ≤ 1000000) : Fun Try.prog [] 80 [tYY] [bbD l] [tY, tI] (.ok (putR (putListS l))) := by
  refine putl_ent _ _ ?_
  show vcputl.den _ _ _ _ _
  unfold vcputl
  refine den_ite (fun h => den_ret ?_) (fun h => ?_)
  · simp only [E.den, D.toI, D.toB, D.toL, D.toS, D.len, D.mapL, flatD, dE] at h
    simp only [E.den, D.toI, D.toB, D.toL, D.toS, D.len, D.mapL, flatD, dE]
    rw [putListS_over (by omega)]
    rfl
  simp only [E.den, D.toI, D.toB, D.toL, D.toS, D.len, D.mapL, flatD, dE] at h
  rw [putListS_in (by omega)]
  have hl1 := putS_len l.length
  refine den_cal [bD (putS l.length)] rfl (app_fn [] l.length (by unfold in64; omega) (by simp)) (by simp only [E.den, D.toI, D.toB, D.toL, D.toS, D.len, D.mapL, flatD, dE]; rfl) rfl ?_
  (try simp only [List.cons_append, List.nil_append])
  refine den_loop (putlI l) (putlM l) ⟨0, by simp only [E.den, D.toI, D.toB, D.toL, D.toS, D.len, D.mapL, flatD, dE]; simp, by omega⟩ ?_
  simp only [AllSh]
  intro _ _ n _ _ ⟨i, he, hi⟩
  simp only [List.cons.injEq, D.int.injEq, D.lst.injEq, true_and, and_true] at he
  obtain ⟨rfl, rfl⟩ := he
  (try simp only [List.cons_append, List.nil_append])
  refine den_ite (fun h2 => ?_) (fun h2 => ?_)
  · simp only [E.den, D.toI, D.toB, D.toL, D.toS, D.len, D.mapL, flatD, dE] at h2
    have hi' : i < l.length := by omega
    have hg := get_B hi'
    have hfl := flat_len hs hi
    have hfl2 := flat_len hs (i := i + 1) (by omega)
    have hfn := flat_next hi'
    have hm := hs _ (mem_getD [] hi')
    have h3 := putS_len (l.getD i []).length
    have hw : IntKind.wrap .i64 ((i : Int) + 1) = ((i + 1 : Nat) : Int) := by rw [wrap_i64 (by omega) (by omega)]; omega
    refine den_ev (evs_ob (by simp only [E.den, D.toI, D.toB, D.toL, D.toS, D.len, D.mapL, flatD, dE]; omega) (evs_ob (by simp only [E.den, D.toI, D.toB, D.toL, D.toS, D.len, D.mapL, flatD, dE]; omega) (evs_nil ?_)))
    refine den_cal [bD (putS l.length ++ (l.take i).flatMap putD ++ putS (l.getD i []).length)] rfl (app_fn _ (l.getD i []).length (by unfold in64; omega) (by simp only [List.length_append]; omega)) (by simp only [E.den, D.toI, D.toB, D.toL, D.toS, D.len, D.mapL, flatD, dE]; rw [hg]; simp only [E.den, D.toI, D.toB, D.toL, D.toS, D.len, D.mapL, flatD, dE]) rfl ?_
    (try simp only [List.cons_append, List.nil_append])
    refine den_ev (evs_ob (by simp only [E.den, D.toI, D.toB, D.toL, D.toS, D.len, D.mapL, flatD, dE]; rw [hg]; simp only [E.den, D.toI, D.toB, D.toL, D.toS, D.len, D.mapL, flatD, dE]; omega) (evs_nil ?_))
    refine den_back rfl ⟨i + 1, ?_, by omega⟩ ?_
    · simp only [E.den, D.toI, D.toB, D.toL, D.toS, D.len, D.mapL, flatD, dE]
      rw [hg, hfn]
      simp only [E.den, D.toI, D.toB, D.toL, D.toS, D.len, D.mapL, flatD, dE]
      rw [hw]
      simp [putD]
    · simp only [putlM]; simp only [E.den, D.toI, D.toB, D.toL, D.toS, D.len, D.mapL, flatD, dE]; rw [hw]; omega
  · simp only [E.den, D.toI, D.toB, D.toL, D.toS, D.len, D.mapL, flatD, dE] at h2
    have : i = l.length := by omega
    subst this
    refine den_ret ?_
    simp only [E.den, D.toI, D.toB, D.toL, D.toS, D.len, D.mapL, flatD, dE]
    rw [List.take_length]
    rfl
def preL (acc : List (List Int)) : Except Int (List (List Int) × List Int) → Except Int (List (List Int) × List Int)
  | .ok (l, r) => .ok (acc ++ l, r)
  | .error e => .error e
theorem preL_nil (x : Except Int (List (List Int) × List Int)) : preL [] x = x := by cases x <;> rfl
theorem preL_consL (acc : List (List Int)) (d : List Int) (x : Except Int (List (List Int) × List Int)) : preL acc (consL d x) = preL (acc ++ [d]) x := by
  cases x <;> simp [preL, consL]
def takeLR : Except Int (List (List Int)) → List D
  | .ok l => [bbD l, I64d 0]
  | .error e => [.lst [], I64d e]
def takelI (b : List Int) (n : Nat) (r : List Int) (xs : List D) : Prop := ∃ (rest : List Int) (acc : List (List Int)), xs = [bD rest, bbD acc, I64d acc.length] ∧ acc.length ≤ n ∧ takeN n r = preL acc (takeN (n - acc.length) rest) ∧ isB rest ∧ rest.length ≤ b.length
def takelM (n : Nat) (xs : List D) : Nat := n - (xs.getD 2 default).toI.toNat
theorem takel_fn (b : List Int) (hb : isB b) (hl : b.length ≤ 4294967296) : Fun Try.prog [] 48 [tY] [bD b] [tYY, tI] (.ok (takeLR (takeListS b))) := by
  refine takel_ent _ _ ?_
  show vctakel.den _ _ _ _ _
  unfold vctakel
  cases hr : readS b with
  | error e => exact den_calP (int_pan hb hl hr) rfl ⟨rfl, e, rfl, by simp [takeListS, hr, takeLR]⟩
  | ok p =>
    obtain ⟨n, r⟩ := p
    obtain ⟨_, _, hrB, hrl⟩ := put_read hb hr
    refine den_cal [I64d n, bD r] rfl (int_ok hb hl hr) rfl rfl ?_
    (try simp only [List.cons_append, List.nil_append])
    refine den_chk rfl (fun h1 => ?_) (fun h1 => ?_)
    rotate_left
    · simp only [E.den, D.toI, D.toB, D.toL, D.toS, D.len, D.mapL, flatD, dE] at h1
      exact ⟨rfl, 5, rfl, by simp [takeListS, hr, takeLR, show n < 0 by omega]⟩
    simp only [E.den, D.toI, D.toB, D.toL, D.toS, D.len, D.mapL, flatD, dE] at h1
    refine den_chk rfl (fun h2 => ?_) (fun h2 => ?_)
    rotate_left
    · simp only [E.den, D.toI, D.toB, D.toL, D.toS, D.len, D.mapL, flatD, dE] at h2
      exact ⟨rfl, 3, rfl, by simp [takeListS, hr, takeLR, show ¬ n < 0 by omega, show 256 < n by omega]⟩
    simp only [E.den, D.toI, D.toB, D.toL, D.toS, D.len, D.mapL, flatD, dE] at h2
    have hT : takeListS b = match takeN n.toNat r with
      | .error e => .error e
      | .ok (l, r2) => if r2 = [] then .ok l else .error 5 := by
      simp [takeListS, hr, show ¬ n < 0 by omega, show ¬ 256 < n by omega] <;> rfl
    refine den_loop (takelI b n.toNat r) (takelM n.toNat) ⟨r, [], rfl, by simp, by rw [preL_nil]; rfl, hrB, by omega⟩ ?_
    simp only [AllSh]
    intro _ _ _ _ m _ _ ⟨rest, acc, he, hac, hN, hB, hrl2⟩
    simp only [List.cons.injEq, D.int.injEq, D.lst.injEq, true_and, and_true] at he
    obtain ⟨rfl, rfl, rfl⟩ := he
    (try simp only [List.cons_append, List.nil_append])
    refine den_ite (fun h3 => ?_) (fun h3 => ?_)
    · simp only [E.den, D.toI, D.toB, D.toL, D.toS, D.len, D.mapL, flatD, dE] at h3
      rw [show n.toNat - acc.length = (n.toNat - (acc.length + 1)) + 1 by omega, takeN] at hN
      have hw : IntKind.wrap .i64 ((acc.length : Int) + 1) = ((acc.length + 1 : Nat) : Int) := by rw [wrap_i64 (by omega) (by omega)]; omega
      cases hd : dataS rest with
      | error e =>
        rw [hd] at hN
        exact den_calP (dat_pan hB (by omega) hd) rfl ⟨rfl, e, rfl, by rw [hT, hN]; simp [preL, takeLR]⟩
      | ok p =>
        obtain ⟨d, r2⟩ := p
        rw [hd] at hN
        simp only [] at hN
        obtain ⟨_, _, hB3, hrl3, _, _⟩ := put_data hB hd
        refine den_cal [bD d, bD r2] rfl (dat_ok hB (by omega) hd) rfl rfl ?_
        (try simp only [List.cons_append, List.nil_append])
        refine den_ev (evs_ob (by simp only [E.den, D.toI, D.toB, D.toL, D.toS, D.len, D.mapL, flatD, dE]; omega) (evs_nil ?_))
        refine den_back rfl ⟨r2, acc ++ [d], ?_, by simp; omega, ?_, hB3, by omega⟩ ?_
        · simp only [E.den, D.toI, D.toB, D.toL, D.toS, D.len, D.mapL, flatD, dE]
          rw [hw]
          simp
        · rw [hN, preL_consL]
          simp
        · simp only [takelM]
          simp only [E.den, D.toI, D.toB, D.toL, D.toS, D.len, D.mapL, flatD, dE]
          rw [hw]
          omega
    · simp only [E.den, D.toI, D.toB, D.toL, D.toS, D.len, D.mapL, flatD, dE] at h3
      rw [show n.toNat - acc.length = 0 by omega, takeN] at hN
      refine den_chk rfl (fun h4 => ?_) (fun h4 => ?_)
      · simp only [E.den, D.toI, D.toB, D.toL, D.toS, D.len, D.mapL, flatD, dE] at h4
        have : rest = [] := List.length_eq_zero_iff.1 (by omega)
        subst this
        refine den_ret ?_
        show FR.ok _ = FR.ok _
        rw [hT, hN]
        simp only [E.den, D.toI, D.toB, D.toL, D.toS, D.len, D.mapL, flatD, dE]
        simp [preL, takeLR]
      · simp only [E.den, D.toI, D.toB, D.toL, D.toS, D.len, D.mapL, flatD, dE] at h4
        have : rest ≠ [] := fun e => by subst e; simp at h4
        exact ⟨rfl, 5, rfl, by rw [hT, hN]; simp [preL, takeLR, this]⟩
end Go.Proofs.Ytindphofgojfbaa.L7
