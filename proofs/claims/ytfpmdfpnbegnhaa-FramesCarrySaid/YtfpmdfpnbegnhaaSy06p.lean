/-
  Checksums, stuffing, frames and streams over lists of bytes. No program, no conditions.
-/
import Derived.Test.YtfpmdfpnbegnhaaSyO3
set_option linter.unusedSimpArgs false
set_option linter.unusedVariables false
namespace Go.Proofs.Ytfpmdfpnbegnhaa
/-! Plain: checksums, stuffing, frames, streams, over lists of bytes. -/
def xorI (x y : Int) : Int := ((x.toNat ^^^ y.toNat : Nat) : Int)
def step1 (r : Int) : Int := if 32768 ≤ r then xorI (2 * r - 65536) 4129 else 2 * r
def stepN : Nat → Int → Int
  | 0, r => r
  | n + 1, r => stepN n (step1 r)
def byteS (r c : Int) : Int := stepN 8 (xorI r (c * 256))
def sumS (l : List Int) : Int := l.foldl byteS 65535
def inB (l : List Int) : Prop := ∀ x ∈ l, 0 ≤ x ∧ x ≤ 255
theorem inB.cons {x : Int} {l : List Int} (h : inB (x :: l)) : (0 ≤ x ∧ x ≤ 255) ∧ inB l := ⟨h x (by simp), fun y hy => h y (by simp [hy])⟩
theorem inB.app {a b : List Int} (h : inB (a ++ b)) : inB a ∧ inB b := ⟨fun y hy => h y (by simp [hy]), fun y hy => h y (by simp [hy])⟩

theorem xor_rng {x y : Int} (h0 : 0 ≤ x) (h1 : x ≤ 65535) (h2 : 0 ≤ y) (h3 : y ≤ 65535) : 0 ≤ xorI x y ∧ xorI x y ≤ 65535 := by
  unfold xorI
  have := Nat.xor_lt_two_pow (n := 16) (x := x.toNat) (y := y.toNat) (by omega) (by omega)
  omega
theorem xor_rng8 {x y : Int} (h0 : 0 ≤ x) (h1 : x ≤ 255) (h2 : 0 ≤ y) (h3 : y ≤ 255) : 0 ≤ xorI x y ∧ xorI x y ≤ 255 := by
  unfold xorI
  have := Nat.xor_lt_two_pow (n := 8) (x := x.toNat) (y := y.toNat) (by omega) (by omega)
  omega
theorem xor_inj {x y z : Int} (h0 : 0 ≤ x) (h1 : 0 ≤ y) (h : xorI x z = xorI y z) : x = y := by
  unfold xorI at h
  have h2 : x.toNat ^^^ z.toNat = y.toNat ^^^ z.toNat := by omega
  have h3 := congrArg (· ^^^ z.toNat) h2
  simp only [Nat.xor_assoc, Nat.xor_self, Nat.xor_zero] at h3
  omega
theorem xor_comm' (x y : Int) : xorI x y = xorI y x := by unfold xorI; rw [Nat.xor_comm]
theorem xor_ne {x y : Int} (h0 : 0 ≤ x) (h1 : 0 ≤ y) (hy : y ≠ 0) : xorI x y ≠ x := by
  intro h
  have h2 : xorI y x = xorI 0 x := by rw [xor_comm', h]; unfold xorI; simp; omega
  exact hy (xor_inj h1 (by omega) h2)
theorem step1_rng {r : Int} (h0 : 0 ≤ r) (h1 : r ≤ 65535) : 0 ≤ step1 r ∧ step1 r ≤ 65535 := by
  unfold step1
  split
  · exact xor_rng (by omega) (by omega) (by omega) (by omega)
  · omega
theorem stepN_rng : ∀ (n : Nat) {r : Int}, 0 ≤ r → r ≤ 65535 → 0 ≤ stepN n r ∧ stepN n r ≤ 65535
  | 0, r, h0, h1 => ⟨h0, h1⟩
  | n + 1, r, h0, h1 => by
    have := step1_rng h0 h1
    exact stepN_rng n this.1 this.2
theorem byteS_rng {r c : Int} (h0 : 0 ≤ r) (h1 : r ≤ 65535) (h2 : 0 ≤ c) (h3 : c ≤ 255) : 0 ≤ byteS r c ∧ byteS r c ≤ 65535 := by
  have := xor_rng h0 h1 (y := c * 256) (by omega) (by omega)
  exact stepN_rng 8 this.1 this.2
theorem fold_rng : ∀ (l : List Int) {r : Int}, inB l → 0 ≤ r → r ≤ 65535 → 0 ≤ l.foldl byteS r ∧ l.foldl byteS r ≤ 65535
  | [], r, _, h0, h1 => ⟨h0, h1⟩
  | c :: l, r, h, h0, h1 => by
    obtain ⟨h2, h3⟩ := h.cons
    have := byteS_rng h0 h1 h2.1 h2.2
    exact fold_rng l h3 this.1 this.2
theorem sumS_rng {l : List Int} (h : inB l) : 0 ≤ sumS l ∧ sumS l ≤ 65535 := fold_rng l h (by omega) (by omega)
theorem xor_par (x : Int) (h0 : 0 ≤ x) (he : x % 2 = 0) : xorI x 4129 % 2 = 1 := by
  unfold xorI
  have : (x.toNat ^^^ (4129 : Int).toNat) % 2 = 1 := by
    have h := Nat.testBit_xor x.toNat 4129 0
    have e1 : x.toNat.testBit 0 = false := by simp [Nat.testBit_zero]; omega
    have e2 : (4129 : Nat).testBit 0 = true := by decide
    rw [e1, e2] at h
    have h3 : (x.toNat ^^^ 4129).testBit 0 = true := by rw [h]; rfl
    rw [Nat.testBit_zero] at h3
    simpa using h3
  omega
theorem step1_inj {r s : Int} (h0 : 0 ≤ r) (h1 : r ≤ 65535) (h2 : 0 ≤ s) (h3 : s ≤ 65535) (h : step1 r = step1 s) : r = s := by
  unfold step1 at h
  split at h
  · split at h
    · have := xor_inj (by omega) (by omega) h; omega
    · have := xor_par (2 * r - 65536) (by omega) (by omega); omega
  · split at h
    · have := xor_par (2 * s - 65536) (by omega) (by omega); omega
    · omega
theorem stepN_inj : ∀ (n : Nat) {r s : Int}, 0 ≤ r → r ≤ 65535 → 0 ≤ s → s ≤ 65535 → stepN n r = stepN n s → r = s
  | 0, r, s, _, _, _, _, h => h
  | n + 1, r, s, h0, h1, h2, h3, h => by
    have a := step1_rng h0 h1
    have b := step1_rng h2 h3
    exact step1_inj h0 h1 h2 h3 (stepN_inj n a.1 a.2 b.1 b.2 h)
theorem byteS_inj {r s c : Int} (h0 : 0 ≤ r) (h1 : r ≤ 65535) (h2 : 0 ≤ s) (h3 : s ≤ 65535) (h4 : 0 ≤ c) (h5 : c ≤ 255) (h : byteS r c = byteS s c) : r = s := by
  have a := xor_rng h0 h1 (y := c * 256) (by omega) (by omega)
  have b := xor_rng h2 h3 (y := c * 256) (by omega) (by omega)
  exact xor_inj h0 h2 (stepN_inj 8 a.1 a.2 b.1 b.2 h)
theorem byteS_sep {r c d : Int} (h0 : 0 ≤ r) (h1 : r ≤ 65535) (h2 : 0 ≤ c) (h3 : c ≤ 255) (h4 : 0 ≤ d) (h5 : d ≤ 255) (h : byteS r c = byteS r d) : c = d := by
  have a := xor_rng h0 h1 (y := c * 256) (by omega) (by omega)
  have b := xor_rng h0 h1 (y := d * 256) (by omega) (by omega)
  have e := stepN_inj 8 a.1 a.2 b.1 b.2 h
  rw [xor_comm' r, xor_comm' r] at e
  have := xor_inj (by omega) (by omega) e
  omega
theorem fold_inj : ∀ (l : List Int) {r s : Int}, inB l → 0 ≤ r → r ≤ 65535 → 0 ≤ s → s ≤ 65535 → l.foldl byteS r = l.foldl byteS s → r = s
  | [], r, s, _, _, _, _, _, h => h
  | c :: l, r, s, hb, h0, h1, h2, h3, h => by
    obtain ⟨g1, g2⟩ := hb.cons
    have a := byteS_rng h0 h1 g1.1 g1.2
    have b := byteS_rng h2 h3 g1.1 g1.2
    exact byteS_inj h0 h1 h2 h3 g1.1 g1.2 (fold_inj l g2 a.1 a.2 b.1 b.2 h)
theorem set_split {l : List Int} {k : Nat} (hk : k < l.length) (v : Int) : l.set k v = l.take k ++ v :: l.drop (k + 1) ∧ l = l.take k ++ l.getD k 0 :: l.drop (k + 1) := by
  constructor
  · rw [List.set_eq_take_append_cons_drop, if_pos hk]
  · have h : l.drop k = l.getD k 0 :: l.drop (k + 1) := by
      rw [List.drop_eq_getElem_cons hk]; simp [List.getD_eq_getElem?_getD, hk]
    rw [← h, List.take_append_drop]
theorem inB.get {l : List Int} (h : inB l) {k : Nat} (hk : k < l.length) : 0 ≤ l.getD k 0 ∧ l.getD k 0 ≤ 255 := by
  refine h _ ?_
  simp [List.getD_eq_getElem?_getD, hk]
theorem inB.set {l : List Int} (h : inB l) {k : Nat} {v : Int} (h0 : 0 ≤ v) (h1 : v ≤ 255) : inB (l.set k v) := fun x hx => by
  rcases List.mem_or_eq_of_mem_set hx with h2 | h2
  · exact h x h2
  · omega
/-- Changing one byte changes the checksum. -/
theorem sum_set {l : List Int} (h : inB l) {k : Nat} (hk : k < l.length) {v : Int} (h0 : 0 ≤ v) (h1 : v ≤ 255) (hv : v ≠ l.getD k 0) : sumS (l.set k v) ≠ sumS l := by
  intro he
  obtain ⟨e1, e2⟩ := set_split hk v
  have hg := h.get hk
  have hs : sumS (l.take k ++ v :: l.drop (k + 1)) = sumS (l.take k ++ l.getD k 0 :: l.drop (k + 1)) := by rw [← e1, he, ← e2]
  simp only [sumS, List.foldl_append, List.foldl_cons] at hs
  have ht : inB (l.take k) := fun x hx => h x (List.mem_of_mem_take hx)
  have hd : inB (l.drop (k + 1)) := fun x hx => h x (List.mem_of_mem_drop hx)
  have r := fold_rng (l.take k) ht (r := 65535) (by omega) (by omega)
  have a := byteS_rng r.1 r.2 h0 h1
  have b := byteS_rng r.1 r.2 hg.1 hg.2
  exact hv (byteS_sep r.1 r.2 h0 h1 hg.1 hg.2 (fold_inj _ hd a.1 a.2 b.1 b.2 hs))

/-! Stuffing -/
def esc (c : Int) : List Int := if c = 192 then [219, 220] else if c = 219 then [219, 221] else [c]
theorem esc_mark {c : Int} (h : c = 192) : esc c = [219, 220] := by simp [esc, h]
theorem esc_self {c : Int} (h : c = 219) : esc c = [219, 221] := by simp [esc, h]
theorem esc_other {c : Int} (h1 : ¬ c = 192) (h2 : ¬ c = 219) : esc c = [c] := by simp [esc, h1, h2]
def stuffS (l : List Int) : List Int := 192 :: (l.flatMap esc ++ [192])
def withSum (b : List Int) (n : Int) : List Int := b ++ [n / 256, n % 256]
def packS (b : List Int) : List Int := stuffS (withSum b (sumS b))
def consR (x : Int) : Except Int (List Int × List Int) → Except Int (List Int × List Int)
  | .ok (l, m) => .ok (x :: l, m)
  | .error e => .error e
def decS : List Int → Except Int (List Int × List Int)
  | [] => .error 6
  | c :: t => if c = 192 then .ok ([], t) else if c = 219 then (match t with
      | [] => .error 6
      | d :: u => if d = 220 then consR 192 (decS u) else if d = 221 then consR 219 (decS u) else .error 5)
    else consR c (decS t)
def consC (x : Int) : Except Int (List Int) → Except Int (List Int)
  | .ok l => .ok (x :: l)
  | .error e => .error e
/-- What stands between two marks, or behind one. -/
def cont (cl : Bool) : List Int → Except Int (List Int)
  | [] => if cl then .ok [] else .error 6
  | c :: t => if c = 219 then (match t with
      | [] => .error (if cl then 5 else 6)
      | d :: u => if d = 220 then consC 192 (cont cl u) else if d = 221 then consC 219 (cont cl u) else .error 5)
    else consC c (cont cl t)
theorem decS_nil : decS [] = .error 6 := rfl
theorem decS_cons (c : Int) (t : List Int) : decS (c :: t) = if c = 192 then .ok ([], t) else if c = 219 then (match t with
      | [] => .error 6
      | d :: u => if d = 220 then consR 192 (decS u) else if d = 221 then consR 219 (decS u) else .error 5)
    else consR c (decS t) := by cases t <;> rfl
theorem cont_nil (cl : Bool) : cont cl [] = if cl then .ok [] else .error 6 := rfl
theorem cont_cons (cl : Bool) (c : Int) (t : List Int) : cont cl (c :: t) = if c = 219 then (match t with
      | [] => .error (if cl then 5 else 6)
      | d :: u => if d = 220 then consC 192 (cont cl u) else if d = 221 then consC 219 (cont cl u) else .error 5)
    else consC c (cont cl t) := by cases t <;> rfl
def liftR (y : List Int) : Except Int (List Int) → Except Int (List Int × List Int)
  | .ok c => .ok (c, y)
  | .error e => .error e
theorem liftR_cons (y : List Int) (x : Int) (r : Except Int (List Int)) : liftR y (consC x r) = consR x (liftR y r) := by cases r <;> rfl
theorem dec_closed (y : List Int) : ∀ (n : Nat) (x : List Int), x.length ≤ n → (192 : Int) ∉ x → decS (x ++ 192 :: y) = liftR y (cont true x)
  | _, [], _, _ => by simp [decS_cons, decS_nil, cont_cons, cont_nil, liftR]
  | 0, _ :: _, h, _ => by simp at h
  | n + 1, c :: t, hl, h => by
    simp only [List.mem_cons, not_or] at h
    have hc : c ≠ 192 := fun e => h.1 e.symm
    by_cases h9 : c = 219
    · subst h9
      cases t with
      | nil => simp [decS_cons, decS_nil, cont_cons, cont_nil, liftR]
      | cons d u =>
        simp only [List.mem_cons, not_or] at h
        have ih := dec_closed y n u (by simp at hl; omega) h.2.2
        simp only [List.cons_append, decS_cons, decS_nil, cont_cons, cont_nil, if_neg (show ¬((219 : Int) = 192) by decide), if_true, ih]
        split
        · rw [liftR_cons]
        · split
          · rw [liftR_cons]
          · rfl
    · have ih := dec_closed y n t (by simp at hl; omega) h.2
      simp only [List.cons_append, decS_cons, decS_nil, cont_cons, cont_nil, if_neg hc, if_neg h9, ih, liftR_cons]
theorem cont_open : ∀ (n : Nat) (x : List Int), x.length ≤ n → ∃ e, cont false x = .error e
  | _, [], _ => ⟨6, rfl⟩
  | 0, _ :: _, h => by simp at h
  | n + 1, c :: t, hl => by
    by_cases h9 : c = 219
    · subst h9
      cases t with
      | nil => exact ⟨6, rfl⟩
      | cons d u =>
        obtain ⟨e, ih⟩ := cont_open n u (by simp at hl; omega)
        simp only [cont_cons, cont_nil, if_true, ih]
        split
        · exact ⟨e, rfl⟩
        · split
          · exact ⟨e, rfl⟩
          · exact ⟨5, rfl⟩
    · obtain ⟨e, ih⟩ := cont_open n t (by simp at hl; omega)
      simp only [cont_cons, cont_nil, if_neg h9, ih]
      exact ⟨e, rfl⟩
theorem dec_open : ∀ (n : Nat) (x : List Int), x.length ≤ n → (192 : Int) ∉ x → decS x = liftR [] (cont false x)
  | _, [], _, _ => by simp [decS_cons, decS_nil, cont_cons, cont_nil, liftR]
  | 0, _ :: _, h, _ => by simp at h
  | n + 1, c :: t, hl, h => by
    simp only [List.mem_cons, not_or] at h
    have hc : c ≠ 192 := fun e => h.1 e.symm
    by_cases h9 : c = 219
    · subst h9
      cases t with
      | nil => simp [decS_cons, decS_nil, cont_cons, cont_nil, liftR]
      | cons d u =>
        simp only [List.mem_cons, not_or] at h
        have ih := dec_open n u (by simp at hl; omega) h.2.2
        simp only [decS_cons, decS_nil, cont_cons, cont_nil, if_neg (show ¬((219 : Int) = 192) by decide), if_true, ih]
        split
        · rw [liftR_cons]
        · split
          · rw [liftR_cons]
          · rfl
    · have ih := dec_open n t (by simp at hl; omega) h.2
      simp only [decS_cons, decS_nil, cont_cons, cont_nil, if_neg hc, if_neg h9, ih, liftR_cons]
theorem dec_esc (l y : List Int) : decS (l.flatMap esc ++ 192 :: y) = .ok (l, y) := by
  induction l with
  | nil => simp [decS_cons, decS_nil]
  | cons c l ih =>
    simp only [List.flatMap_cons, List.append_assoc]
    by_cases h : c = 192
    · rw [esc_mark h]; simp [decS_cons, decS_nil, ih, consR, h]
    · by_cases h2 : c = 219
      · rw [esc_self h2]; simp [decS_cons, decS_nil, ih, consR, h2]
      · rw [esc_other h h2]; simp [decS_cons, ih, consR, h, h2]
theorem esc_no (l : List Int) : (192 : Int) ∉ l.flatMap esc := by
  induction l with
  | nil => simp
  | cons c l ih =>
    simp only [List.flatMap_cons, List.mem_append, not_or]
    refine ⟨?_, ih⟩
    unfold esc
    split
    · decide
    · split
      · decide
      · rename_i h _; simp; exact fun e => h e.symm
theorem dec_inv : ∀ (n : Nat) (t c r : List Int), t.length ≤ n → decS t = .ok (c, r) → t = c.flatMap esc ++ 192 :: r
  | _, [], c, r, _, h => by simp [decS_cons, decS_nil] at h
  | 0, _ :: _, _, _, h, _ => by simp at h
  | n + 1, x :: t, c, r, hl, h => by
    have step : ∀ {x : Int} {u : List Int} {c r : List Int}, consR x (decS u) = .ok (c, r) → ∃ c', c = x :: c' ∧ decS u = .ok (c', r) := by
      intro x u c r h
      cases hd : decS u with
      | error e => rw [hd] at h; cases h
      | ok p => obtain ⟨l, m⟩ := p; rw [hd] at h; simp only [consR, Except.ok.injEq, Prod.mk.injEq] at h; exact ⟨l, h.1.symm, by rw [h.2]⟩
    simp only [decS_cons, decS_nil] at h
    split at h
    · rename_i hx
      simp only [Except.ok.injEq, Prod.mk.injEq] at h
      obtain ⟨rfl, rfl⟩ := h
      simp [hx]
    · rename_i hx
      split at h
      · rename_i h9
        subst h9
        split at h
        · cases h
        · rename_i d u
          split at h
          · rename_i hd
            obtain ⟨c', rfl, h'⟩ := step h
            rw [dec_inv n u c' r (by simp at hl; omega) h']
            simp [esc, hd]
          · split at h
            · rename_i hd
              obtain ⟨c', rfl, h'⟩ := step h
              rw [dec_inv n u c' r (by simp at hl; omega) h']
              simp [esc, hd]
            · cases h
      · rename_i h9
        obtain ⟨c', rfl, h'⟩ := step h
        rw [dec_inv n t c' r (by simp at hl; omega) h']
        simp [esc, hx, h9]
theorem dec_prefix (l : List Int) : ∀ (k : Nat), decS ((l.flatMap esc).take k) = .error 6 := by
  induction l with
  | nil => intro k; simp [decS_nil]
  | cons c l ih =>
    intro k
    simp only [List.flatMap_cons]
    by_cases h : c = 192
    · rw [esc_mark h]
      match k with
      | 0 => simp [decS_nil]
      | 1 => simp [decS_cons]
      | k + 2 => simp [decS_cons, ih k, consR]
    · by_cases h2 : c = 219
      · rw [esc_self h2]
        match k with
        | 0 => simp [decS_nil]
        | 1 => simp [decS_cons]
        | k + 2 => simp [decS_cons, ih k, consR]
      · rw [esc_other h h2]
        match k with
        | 0 => simp [decS_nil]
        | k + 1 => simp [decS_cons, h, h2, ih k, consR]

/-! Frames -/
def unpackS (b : List Int) : Except Int (List Int) := match b with
  | [] => .error 6
  | h :: t => if h ≠ 192 then .error 5 else match decS t with
    | .error e => .error e
    | .ok (c, rest) => if rest ≠ [] then .error 5 else if c.length < 2 then .error 6 else if 4096 < c.length - 2 then .error 3
      else if c.getD (c.length - 2) 0 * 256 + c.getD (c.length - 1) 0 ≠ sumS (c.take (c.length - 2)) then .error 7 else .ok (c.take (c.length - 2))
theorem last_two {c : List Int} (h : 2 ≤ c.length) : c = c.take (c.length - 2) ++ [c.getD (c.length - 2) 0, c.getD (c.length - 1) 0] := by
  have h1 : c.drop (c.length - 2) = [c.getD (c.length - 2) 0, c.getD (c.length - 1) 0] := by
    rw [List.drop_eq_getElem_cons (by omega), List.drop_eq_getElem_cons (by omega), List.drop_eq_nil_of_le (by omega)]
    have e : c.length - 2 + 1 = c.length - 1 := by omega
    simp [List.getD_eq_getElem?_getD, show c.length - 2 < c.length by omega, show c.length - 1 < c.length by omega, e]
  rw [← h1, List.take_append_drop]
theorem withSum_len (b : List Int) (n : Int) : (withSum b n).length = b.length + 2 := by simp [withSum]
theorem withSum_take (b : List Int) (n : Int) : (withSum b n).take ((withSum b n).length - 2) = b := by simp [withSum]
theorem withSum_hi (b : List Int) (n : Int) : (withSum b n).getD ((withSum b n).length - 2) 0 = n / 256 := by simp [withSum, List.getD_eq_getElem?_getD]
theorem withSum_lo (b : List Int) (n : Int) : (withSum b n).getD ((withSum b n).length - 1) 0 = n % 256 := by simp [withSum, List.getD_eq_getElem?_getD]
/-- A content that is stuffed is unpacked if it bears its checksum. -/
theorem unpack_stuff (b : List Int) (n : Int) : unpackS (stuffS (withSum b n)) = if 4096 < b.length then .error 3 else if n ≠ sumS b then .error 7 else .ok b := by
  simp only [unpackS, stuffS, ne_eq, not_true_eq_false, if_false, dec_esc]
  rw [withSum_take, withSum_hi, withSum_lo, withSum_len]
  have e : n / 256 * 256 + n % 256 = n := by omega
  rw [e, if_neg (by omega)]
  simp
theorem unpack_pack {b : List Int} (h : b.length ≤ 4096) : unpackS (packS b) = .ok b := by
  rw [packS, unpack_stuff, if_neg (by omega), if_neg (by simp)]
theorem unpack_ok {f p : List Int} (h : unpackS f = .ok p) : ∃ hi lo : Int, f = stuffS (p ++ [hi, lo]) ∧ hi * 256 + lo = sumS p ∧ p.length ≤ 4096 := by
  cases f with
  | nil => simp [unpackS] at h
  | cons x t =>
    simp only [unpackS] at h
    split at h
    · cases h
    · rename_i hx
      split at h
      · cases h
      · rename_i c rest hd
        split at h
        · cases h
        · rename_i hr
          split at h
          · cases h
          · rename_i h2
            split at h
            · cases h
            · rename_i h3
              split at h
              · cases h
              · rename_i h4
                simp only [Except.ok.injEq] at h
                subst h
                have hr' : rest = [] := by simpa using hr
                have hx' : x = 192 := by simpa using hx
                subst hr' hx'
                refine ⟨c.getD (c.length - 2) 0, c.getD (c.length - 1) 0, ?_, Decidable.not_not.1 h4, by rw [List.length_take]; omega⟩
                rw [← last_two (by omega)]
                unfold stuffS
                rw [← dec_inv _ _ _ _ (Nat.le_refl _) hd]
theorem esc_sub {c : List Int} {x : Int} (h : x ∈ c) (h1 : x ≠ 192) : x ∈ c.flatMap esc ∨ x = 219 := by
  by_cases h9 : x = 219
  · exact .inr h9
  · exact .inl (List.mem_flatMap.2 ⟨x, h, by simp [esc, h1, h9]⟩)
theorem esc_inB {c : List Int} (h : inB (c.flatMap esc)) : inB c := by
  intro x hx
  by_cases h1 : x = 192
  · omega
  · rcases esc_sub hx h1 with h2 | h2
    · exact h x h2
    · omega
theorem esc_inB' {c : List Int} (h : inB c) : inB (c.flatMap esc) := by
  intro x hx
  obtain ⟨y, hy, hxy⟩ := List.mem_flatMap.1 hx
  have := h y hy
  unfold esc at hxy
  split at hxy
  · simp at hxy; omega
  · split at hxy
    · simp at hxy; omega
    · simp at hxy; omega
theorem stuff_inB {c : List Int} (h : inB c) : inB (stuffS c) := by
  intro x hx
  simp only [stuffS, List.mem_cons, List.mem_append, List.not_mem_nil, or_false] at hx
  rcases hx with h1 | h1 | h1
  · omega
  · exact esc_inB' h x h1
  · omega
theorem withSum_inB {b : List Int} {n : Int} (h : inB b) (h0 : 0 ≤ n) (h1 : n ≤ 65535) : inB (withSum b n) := by
  intro x hx
  simp only [withSum, List.mem_append, List.mem_cons, List.not_mem_nil, or_false] at hx
  rcases hx with h2 | h2 | h2
  · exact h x h2
  · omega
  · omega
theorem pack_inB {b : List Int} (h : inB b) : inB (packS b) := by
  have := sumS_rng h
  exact stuff_inB (withSum_inB h this.1 this.2)
/-- What is unpacked is packed to the same frame. -/
theorem pack_unpack {f p : List Int} (hb : inB f) (h : unpackS f = .ok p) : packS p = f ∧ p.length ≤ 4096 ∧ inB p := by
  obtain ⟨hi, lo, rfl, hs, hl⟩ := unpack_ok h
  have hc : inB (p ++ [hi, lo]) := by
    refine esc_inB fun x hx => hb x ?_
    simp only [stuffS, List.mem_cons, List.mem_append]
    exact .inr (.inl hx)
  have h1 := hc hi (by simp)
  have h2 := hc lo (by simp)
  refine ⟨?_, hl, hc.app.1⟩
  unfold packS withSum
  rw [← hs, show (hi * 256 + lo) / 256 = hi by omega, show (hi * 256 + lo) % 256 = lo by omega]
theorem esc_len (l : List Int) : (l.flatMap esc).length ≤ 2 * l.length := by
  induction l with
  | nil => simp
  | cons c l ih =>
    have : (esc c).length ≤ 2 := by unfold esc; split <;> (try split) <;> simp
    simp only [List.flatMap_cons, List.length_append, List.length_cons]
    omega
theorem stuff_len (l : List Int) : (stuffS l).length ≤ 2 * l.length + 2 := by
  have := esc_len l
  simp only [stuffS, List.length_cons, List.length_append, List.length_nil]; omega
theorem unpack_len {f p : List Int} (h : unpackS f = .ok p) : f.length ≤ 8198 := by
  obtain ⟨hi, lo, rfl, _, hl⟩ := unpack_ok h
  have := stuff_len (p ++ [hi, lo])
  simp at this
  omega
theorem unpack_prefix (l : List Int) (k : Nat) (hk : k < (stuffS l).length) : unpackS ((stuffS l).take k) = .error 6 := by
  cases k with
  | zero => rfl
  | succ k =>
    simp only [stuffS, List.length_cons, List.length_append, List.length_nil] at hk
    simp only [stuffS, List.take_succ_cons, unpackS, ne_eq, not_true_eq_false, if_false]
    rw [List.take_append_of_le_length (by omega), dec_prefix]
theorem stuff_marks (l : List Int) (i : Nat) (hi : i < (stuffS l).length) : ((stuffS l).getD i 0 = 192) ↔ (i = 0 ∨ i = (stuffS l).length - 1) := by
  cases i with
  | zero => simp [stuffS]
  | succ i =>
    simp only [stuffS, List.length_cons, List.length_append, List.length_nil] at hi ⊢
    simp only [List.getD_cons_succ]
    by_cases h : i < (l.flatMap esc).length
    · have hm : ((l.flatMap esc) ++ [192]).getD i 0 ∈ l.flatMap esc := by
        rw [List.getD_eq_getElem?_getD, List.getElem?_append_left h, List.getElem?_eq_getElem h, Option.getD_some]
        exact List.getElem_mem _
      constructor
      · intro e; rw [e] at hm; exact absurd hm (esc_no l)
      · intro e; omega
    · have : i = (l.flatMap esc).length := by omega
      subst this
      simp [List.getD_eq_getElem?_getD]

/-! Streams -/
def scan1 (s : Option (List Int) × List (List Int)) (c : Int) : Option (List Int) × List (List Int) :=
  if c = 192 then (some [192], match s.1 with
    | some seg => (match unpackS (seg ++ [192]) with | .ok p => s.2 ++ [p] | .error _ => s.2)
    | none => s.2)
  else (s.1.map (· ++ [c]), s.2)
def restS : Option (List Int) → List Int
  | some seg => if seg.length ≤ 8198 then seg else []
  | none => []
def feedS (s : List Int) : List Int × List (List Int) := let r := s.foldl scan1 (none, []); (restS r.1, r.2)
theorem scan_none (c : Int) (cur : Option (List Int)) (out : List (List Int)) (h : c ≠ 192) : scan1 (cur, out) c = (cur.map (· ++ [c]), out) := by simp [scan1, h]
theorem fold_quiet : ∀ (l : List Int) (cur : Option (List Int)) (out : List (List Int)), (192 : Int) ∉ l → l.foldl scan1 (cur, out) = (cur.map (· ++ l), out)
  | [], cur, out, _ => by cases cur <;> simp
  | c :: l, cur, out, h => by
    simp only [List.mem_cons, not_or] at h
    rw [List.foldl_cons, scan_none _ _ _ (fun e => h.1 e.symm), fold_quiet l _ _ h.2]
    cases cur <;> simp
theorem fold_out : ∀ (l : List Int) (cur : Option (List Int)) (out : List (List Int)), l.foldl scan1 (cur, out) = ((l.foldl scan1 (cur, [])).1, out ++ (l.foldl scan1 (cur, [])).2)
  | [], cur, out => by simp
  | c :: l, cur, out => by
    simp only [List.foldl_cons]
    by_cases hc : c = 192
    · simp only [scan1, if_pos hc]
      rw [fold_out l (some [192])]
      conv => rhs; rw [fold_out l (some [192])]
      cases cur with
      | none => simp
      | some seg => simp only []; split <;> simp
    · simp only [scan1, if_neg hc]
      rw [fold_out l]
/-- What is left is a mark and bytes that are none. -/
def curOK (n : Nat) : Option (List Int) → Prop
  | none => True
  | some seg => ∃ u, seg = 192 :: u ∧ (192 : Int) ∉ u ∧ seg.length ≤ n
theorem fold_cur : ∀ (l : List Int) (n : Nat) (cur : Option (List Int)) (out : List (List Int)), curOK n cur → curOK (n + l.length) (l.foldl scan1 (cur, out)).1
  | [], n, cur, out, h => h
  | c :: l, n, cur, out, h => by
    simp only [List.foldl_cons]
    have key : curOK (n + 1) (scan1 (cur, out) c).1 := by
      by_cases hc : c = 192
      · simp only [scan1, if_pos hc]
        exact ⟨[], rfl, by simp, by simp⟩
      · rw [scan_none _ _ _ hc]
        cases cur with
        | none => trivial
        | some seg =>
          obtain ⟨u, rfl, hu, hl⟩ := h
          exact ⟨u ++ [c], by simp, by simp; exact ⟨hu, fun e => hc e.symm⟩, by simp at hl ⊢; omega⟩
    have := fold_cur l (n + 1) (scan1 (cur, out) c).1 (scan1 (cur, out) c).2 key
    rw [show n + (c :: l).length = n + 1 + l.length by simp; omega]
    exact this
def segS : Option (List Int) → List Int
  | some seg => seg
  | none => []
theorem fold_again {n : Nat} {cur : Option (List Int)} (h : curOK n cur) (out : List (List Int)) : (segS cur).foldl scan1 (none, out) = (cur, out) := by
  cases cur with
  | none => rfl
  | some seg =>
    obtain ⟨u, rfl, hu, _⟩ := h
    simp only [segS, List.foldl_cons]
    rw [show scan1 (none, out) 192 = (some [192], out) by simp [scan1], fold_quiet _ _ _ hu]
    simp
/-- A stream in two pieces. -/
theorem feed_app {x y : List Int} (h : x.length ≤ 8198) : feedS (x ++ y) = ((feedS ((feedS x).1 ++ y)).1, (feedS x).2 ++ (feedS ((feedS x).1 ++ y)).2) := by
  simp only [feedS, List.foldl_append]
  have hc : curOK (0 + x.length) (x.foldl scan1 (none, [])).1 := fold_cur x 0 none [] trivial
  have hr : restS (x.foldl scan1 (none, [])).1 = segS (x.foldl scan1 (none, [])).1 := by
    cases hcur : (x.foldl scan1 (none, [])).1 with
    | none => rfl
    | some seg =>
      rw [hcur] at hc
      obtain ⟨u, h1, _, hl⟩ := hc
      simp only [restS, segS]
      rw [if_pos (by omega)]
  rw [hr, fold_again hc]
  have e : x.foldl scan1 (none, []) = ((x.foldl scan1 (none, [])).1, (x.foldl scan1 (none, [])).2) := rfl
  rw [e, fold_out y]
theorem feed_rest_len {x : List Int} : (feedS x).1.length ≤ x.length := by
  have hc : curOK (0 + x.length) (x.foldl scan1 (none, [])).1 := fold_cur x 0 none [] trivial
  simp only [feedS]
  cases hcur : (x.foldl scan1 (none, [])).1 with
  | none => simp [restS]
  | some seg =>
    rw [hcur] at hc
    obtain ⟨u, h1, _, hl⟩ := hc
    simp only [restS]
    split
    · omega
    · simp
theorem feed_nil : feedS [] = ([], []) := rfl
/-- Bytes without a mark, a frame: its payload is found. -/
def bare : Option (List Int) → Prop
  | none => True
  | some seg => seg = [192]
theorem fold_frame {junk p : List Int} {cur : Option (List Int)} {out : List (List Int)} (hcur : bare cur) (hj : (192 : Int) ∉ junk) (hn : ∀ q, unpackS (192 :: (junk ++ [192])) ≠ .ok q) (hp : p.length ≤ 4096) :
    (junk ++ packS p).foldl scan1 (cur, out) = (some [192], out ++ [p]) := by
  rw [List.foldl_append, fold_quiet _ _ _ hj]
  simp only [packS, stuffS, List.foldl_cons, List.foldl_append, List.foldl_nil]
  have h1 : scan1 (cur.map (· ++ junk), out) 192 = (some [192], out) := by
    cases cur with
    | none => simp [scan1]
    | some seg =>
      have : seg = [192] := hcur
      subst this
      simp only [scan1, Option.map_some, if_true, Prod.mk.injEq, true_and]
      split
      · rename_i q hq
        exact absurd (by simpa using hq) (hn q)
      · rfl
  rw [h1, fold_quiet _ _ _ (esc_no _)]
  simp only [scan1, if_true, Option.map_some, Prod.mk.injEq, true_and]
  have := unpack_pack hp
  simp only [packS, stuffS] at this
  rw [show [192] ++ List.flatMap esc (withSum p (sumS p)) ++ [192] = 192 :: (List.flatMap esc (withSum p (sumS p)) ++ [192]) by simp, this]
end Go.Proofs.Ytfpmdfpnbegnhaa
