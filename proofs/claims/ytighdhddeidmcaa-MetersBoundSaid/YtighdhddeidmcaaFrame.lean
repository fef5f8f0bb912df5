/-
  The frame shared by the proofs of this seat: a law that returns true and leaves all old memory as it was meets its row.
-/
import Derived.Test.YtighdhddeidmcaaRows
import Derived.WalkKit
import Derived.ProofKit
import Derived.OpenShut
import Derived.JoinedCond
import Derived.Lib.Hide
import Derived.Deep.RegionHeld3
namespace Go.Proofs.Ytighdhddeidmcaa
open Go.RowKit Go.WideShapes Go.ChangeShapes

theorem laidOut : laidOutB Try.prog = true := by kernel_rfl
theorem own : ownKnob Try.prog.godebug = none := by kernel_rfl

/-- Cells and marks of old blocks read as before. -/
theorem bcell {W w1 : World} (hb : Below W.heap.size W w1) : (∀ b o, b < W.heap.size → w1.cell? ⟨b, o, none⟩ = W.cell? ⟨b, o, none⟩) ∧ (∀ b o, b < W.heap.size → w1.frozen? ⟨b, o, none⟩ = W.frozen? ⟨b, o, none⟩) :=
  ⟨fun b o h => hb.cell (p := ⟨b, o, none⟩) h, fun b o h => hb.frozen (p := ⟨b, o, none⟩) h⟩

/-- What a drawn region carries along: all cells of the blocks below B are as in W. -/
theorem s_keep {B : Nat} {W w1 w2 : World} (hB : B ≤ W.heap.size) (h : (∀ b o, b < B → w1.cell? ⟨b, o, none⟩ = W.cell? ⟨b, o, none⟩) ∧ Below B W w1) (hb : Below w1.heap.size w1 w2) :
    (∀ b o, b < B → w2.cell? ⟨b, o, none⟩ = W.cell? ⟨b, o, none⟩) ∧ Below B W w2 := by
  have h2 : Below B W w2 := h.2.trans (hb.mono (Nat.le_trans hB h.2.size))
  exact ⟨fun b o hlt => h2.cell (p := ⟨b, o, none⟩) hlt, h2⟩
theorem s_start {B : Nat} {W : World} : (∀ b o, b < B → W.drew.cell? ⟨b, o, none⟩ = W.cell? ⟨b, o, none⟩) ∧ Below B W W.drew :=
  ⟨fun _ _ _ => rfl, (Below.refl _ _).drew⟩
theorem s_drew {B : Nat} {W w1 : World} (h : (∀ b o, b < B → w1.cell? ⟨b, o, none⟩ = W.cell? ⟨b, o, none⟩) ∧ Below B W w1) : (∀ b o, b < B → w1.drew.cell? ⟨b, o, none⟩ = W.cell? ⟨b, o, none⟩) ∧ Below B W w1.drew :=
  ⟨h.1, h.2.drew⟩

theorem s_alloc {B : Nat} {W w1 : World} {o : Obj} (hB : B ≤ W.heap.size) (h : (∀ b o, b < B → w1.cell? ⟨b, o, none⟩ = W.cell? ⟨b, o, none⟩) ∧ Below B W w1) :
    (∀ b o', b < B → (w1.alloc o).cell? ⟨b, o', none⟩ = W.cell? ⟨b, o', none⟩) ∧ Below B W (w1.alloc o) := by
  have h2 : Below B W (w1.alloc o) := h.2.alloc (Nat.le_trans hB h.2.size) o
  exact ⟨fun b o' hlt => h2.cell (p := ⟨b, o', none⟩) hlt, h2⟩
theorem below_step {w W w1 : World} (hb : Below W.heap.size W w1) (h : Below w.heap.size w W) : Below w.heap.size w w1 := h.trans (hb.mono h.size)
theorem below_out {B : Nat} {w W w2 : World} (h : (∀ b o, b < B → w2.cell? ⟨b, o, none⟩ = W.cell? ⟨b, o, none⟩) ∧ Below B W w2) (hB : w.heap.size ≤ B) (h0 : Below w.heap.size w W) : Below w.heap.size w w2 := h0.trans (h.2.mono hB)

section
variable {H : Type} {enc : TypeId × Value → H} {P : Program}

/-- Readings of arguments stay, if below the old heap's end nothing has turned. -/
theorem trodAll_stays {W W' : World} (hl : laidOutB P = true) (hb : Below W.heap.size W W') :
    ∀ (ts : List TypeId) {vs : List Value} {ds : List (DataW H)} {ps : List MemPlace}, (ts.all fun t => P.readableRec t && decide (t < P.types.size)) = true →
      DataW.TrodAll enc P W 0 (fun _ => true) true ts vs ds ps → (∀ x ∈ ps, x.block < W.heap.size) → ∀ sp : Nat → Bool, (∀ p ∈ ps, sp p.block = true) →
      DataW.TrodAll enc P W' 0 sp true ts vs ds ps
  | [], vs, ds, ps, _, h, _, _, _ => by
    obtain ⟨rfl, rfl, rfl⟩ := trodAll_nil h
    exact trodAll_mk0
  | t :: ts, vs, ds, ps, hall, h, hlt, sp, hsp => by
    obtain ⟨v, vs', d, ds', p, q, rfl, rfl, rfl, h1, h2⟩ := trodAll_cons h
    simp only [List.all_cons, Bool.and_eq_true, decide_eq_true_eq] at hall
    obtain ⟨⟨hr, hrow⟩, hrest⟩ := hall
    exact trodAll_cons_mk
      (WideElems.Trod_stays hl hr hrow h1 (fun x hx => hb.same (hlt x (List.mem_append_left _ hx))) (fun x hx => hsp x (List.mem_append_left _ hx)))
      (trodAll_stays hl hb ts hrest h2 (fun x hx => hlt x (List.mem_append_right _ hx)) sp (fun x hx => hsp x (List.mem_append_right _ hx)))

/-- THE ROW's LAST STEP: the law has returned true, and nothing that was there has turned. -/
theorem law_post {f : Func} {s : ChangeSpec} {apart fresh handsOn again : Bool} {W W' : World} {args : Array Value} {ds gs : List (DataW H)} {before : List MemPlace} {tb : TypeId}
    (hl : laidOutB P = true) (hvars : s.vars = []) (hpar : (f.params.toList.all fun t => P.readableRec t && decide (t < P.types.size)) = true)
    (hres : f.resultTypes = #[tb]) (htb : P.underlying tb = some .bool)
    (hW : DataW.Whole enc P f.params.toList s.vars apart W args.toList ds gs before)
    (hfn : s.fn H ds = { results := [.lit (.bool true)], args := ds })
    (hb : Below W.heap.size W W') :
    s.post enc P f apart fresh handsOn again W args (.bool true) W' := by
  have hW0 := hW
  obtain ⟨p, q, hA, hV, hbef, hfz, hnd⟩ := hW
  rw [hvars] at hV
  obtain ⟨rfl, rfl⟩ := trodVars_none hV
  rw [List.append_nil] at hbef
  subst hbef
  have hlt : ∀ x ∈ before, x.block < W.heap.size := fun x hx => hW0.lt x hx
  have hfn' : s.fn H (ds ++ []) = { results := [.lit (.bool true)], args := ds } := by rw [List.append_nil]; exact hfn
  have hargs : ∀ sp : Nat → Bool, (∀ p ∈ before, sp p.block = true) → DataW.TrodAll enc P W' 0 sp true f.params.toList args.toList ds before := fun sp hsp => trodAll_stays hl hb _ hpar hA hlt sp hsp
  have hold : ∀ p ∈ before, (fun b => decide (b < W.heap.size)) p.block = true := fun p hp => by simpa using hlt p hp
  have hrt : f.resultTypes.toList = [tb] := by rw [hres]
  have hrs : f.resultTypes.size = 1 := by rw [hres]; rfl
  have hRes : ∀ (b : Nat) (sp : Nat → Bool) (hd : Bool), DataW.TrodAll enc P W' b sp hd f.resultTypes.toList ((Value.bool true).resultList f.resultTypes.size) [.lit (.bool true)] [] := fun b sp hd => by
    rw [hrt, hrs]; exact trodAll_mk1 (shut_bool htb true)
  refine ⟨ds, [], before, [], before, [], hW0, by rw [hfn']; exact hRes _ _ _, by rw [hfn']; exact hargs _ hold, by rw [hfn', hvars]; rfl, World.keptBut_mono (fun p hp => ⟨hp, Or.inr (Or.inl hp)⟩) (hb.frame (· ∈ before)), fun _ => ?_⟩
  refine ⟨?_, ?_⟩
  · rw [hres]; exact ok_one (f := { f with resultTypes := #[tb] }) rfl rfl (okWide_bool_mk htb true)
  · refine ⟨[.lit (.bool true)] ++ ds, [], [] ++ before, ⟨[] ++ before, [], trodAll_append (hargs _ (fun _ _ => rfl)) (hRes _ _ _), by rw [hvars]; rfl, by simp, ?_, ?_⟩, ?_⟩
    · intro b off hp
      have hin : MemPlace.cell b off ∈ before := by simpa using hp
      rw [hb.frozen (hlt _ hin)]
      exact hfz b off hin
    · intro ha
      have := hnd ha
      simpa using this
    · intro p hp _
      simpa using hp
end
end Go.Proofs.Ytighdhddeidmcaa
