/-
  The laid table as data, and a world that holds it.
-/
import Derived.Test.YtajphmclobadfaaDoorSy28c
import Derived.Test.YtajphmclobadfaaDoorCards
import Derived.Test.YtajphmclobadfaaDoorTie
import Derived.Deep.DeepHandedRow
import Derived.Lib.LaidTab
set_option maxRecDepth 100000
set_option linter.unusedSimpArgs false
set_option linter.unusedVariables false
namespace Go.Proofs.YtajphmclobadfaaDoor
open Go.Proofs.YtajphmclobadfaaDoor.Sy Go.RowKit Go.WideShapes Go.ChangeShapes Go.ChangeAt
def tabV : List Value := [.int .i64 (0), .int .i64 (0), .int .i64 (0), .int .i64 (0), .int .i64 (0), .int .i64 (0), .int .i64 (0), .int .i64 (0), .int .i64 (1), .int .i64 (1), .int .i64 (0), .int .i64 (0), .int .i64 (0), .int .i64 (1), .int .i64 (0), .int .i64 (0), .int .i64 (1), .int .i64 (0), .int .i64 (4), .int .i64 (0), .int .i64 (0), .int .i64 (0), .int .i64 (2), .int .i64 (3), .int .i64 (24), .int .i64 (0), .int .i64 (0), .int .i64 (0), .int .i64 (0), .int .i64 (5), .int .i64 (8), .int .i64 (0), .int .i64 (0), .int .i64 (0), .int .i64 (0), .int .i64 (4), .int .i64 (16), .int .i64 (0), .int .i64 (0), .int .i64 (0), .int .i64 (0), .int .i64 (3), .int .i64 (0), .int .i64 (0), .int .i64 (8), .int .i64 (8), .int .i64 (0), .int .i64 (0), .int .i64 (0), .int .i64 (8), .int .i64 (0), .int .i64 (0), .int .i64 (8), .int .i64 (0), .int .i64 (2), .int .i64 (0), .int .i64 (0), .int .i64 (2), .int .i64 (0), .int .i64 (0), .int .i64 (0), .int .i64 (2), .int .i64 (0), .int .i64 (0), .int .i64 (2), .int .i64 (0), .int .i64 (0), .int .i64 (0), .int .i64 (4), .int .i64 (4), .int .i64 (0), .int .i64 (-1), .int .i64 (0), .int .i64 (4), .int .i64 (0), .int .i64 (0), .int .i64 (4), .int .i64 (-1)]
def tabX : List D := [.rc [.int .i64 (0), .int .i64 (0), .int .i64 (0), .int .i64 (0), .int .i64 (0), .int .i64 (0)], .rc [.int .i64 (0), .int .i64 (0), .int .i64 (1), .int .i64 (1), .int .i64 (0), .int .i64 (0)], .rc [.int .i64 (0), .int .i64 (1), .int .i64 (0), .int .i64 (0), .int .i64 (1), .int .i64 (0)], .rc [.int .i64 (4), .int .i64 (0), .int .i64 (0), .int .i64 (0), .int .i64 (2), .int .i64 (3)], .rc [.int .i64 (24), .int .i64 (0), .int .i64 (0), .int .i64 (0), .int .i64 (0), .int .i64 (5)], .rc [.int .i64 (8), .int .i64 (0), .int .i64 (0), .int .i64 (0), .int .i64 (0), .int .i64 (4)], .rc [.int .i64 (16), .int .i64 (0), .int .i64 (0), .int .i64 (0), .int .i64 (0), .int .i64 (3)], .rc [.int .i64 (0), .int .i64 (0), .int .i64 (8), .int .i64 (8), .int .i64 (0), .int .i64 (0)], .rc [.int .i64 (0), .int .i64 (8), .int .i64 (0), .int .i64 (0), .int .i64 (8), .int .i64 (0)], .rc [.int .i64 (2), .int .i64 (0), .int .i64 (0), .int .i64 (2), .int .i64 (0), .int .i64 (0)], .rc [.int .i64 (0), .int .i64 (2), .int .i64 (0), .int .i64 (0), .int .i64 (2), .int .i64 (0)], .rc [.int .i64 (0), .int .i64 (0), .int .i64 (4), .int .i64 (4), .int .i64 (0), .int .i64 (-1)], .rc [.int .i64 (0), .int .i64 (4), .int .i64 (0), .int .i64 (0), .int .i64 (4), .int .i64 (-1)]]
theorem tab_ok {W : World} (hL : laidMetH Tryd.prog Rows.connectorNextsRow.laid W) : GlobOK gls (M0 W) :=
  globOK_laid (P := Tryd.prog) (W := W) (rest := []) (g := 0) (xs := tabX) (vs := tabV) (h := hL) (t := 36) (by kernel_rfl) (by kernel_rfl) (by kernel_rfl) (by kernel_rfl) (fun ρ => rfl) (by kernel_rfl)
noncomputable def laidWorld (os : Os) : World :=
  { World.holding Tryd.prog os ⟨#[], #[], []⟩ with heap := (World.holding Tryd.prog os ⟨#[], #[], []⟩).heap.modify 0 fun
      | .cells _ t frozen => .cells tabV.toArray t frozen
      | o => o }
theorem typ_cn {d : D} (h : TypT tCn d) : ∃ c : Cn, d = cnD c := by
  obtain ⟨ds, rfl, h⟩ := h
  unfold Typs at h
  obtain ⟨_, _, rfl, h1, h⟩ := h
  unfold Typs at h
  obtain ⟨_, _, rfl, h2, h⟩ := h
  unfold Typs at h
  obtain ⟨_, _, rfl, h3, h⟩ := h
  unfold Typs at h
  obtain ⟨_, _, rfl, h4, h⟩ := h
  unfold Typs at h
  obtain ⟨_, _, rfl, h5, h⟩ := h
  unfold Typs at h
  subst h
  obtain ⟨s, rfl, _⟩ := typ_int h1
  obtain ⟨p, rfl⟩ := typ_bool h2
  obtain ⟨r, rfl⟩ := typ_bool h3
  obtain ⟨d, rfl⟩ := typ_bool h4
  obtain ⟨n, rfl, _⟩ := typ_int h5
  exact ⟨⟨s, p, r, d, n⟩, rfl⟩
theorem next_call {K : FR → Prop} {Λ : List Lp} {ρ : List D} {es : List E} {m : Nat} {k : VC} (c : Cn) (i : Int) (ha : es.map (·.den ρ) = [cnD c, I64d i]) (hk : k.den Tryd.prog gls K Λ (ρ ++ [I64d (nxC c i).s, .bool (nxC c i).p, .bool (nxC c i).r, .bool (nxC c i).d, I64d (nxC c i).n, I64d (nxE c i)])) : (VC.cal 8 [tCn, tI] es [tCn, tI] m k).den Tryd.prog gls K Λ ρ :=
  den_cal [I64d _, .bool _, .bool _, .bool _, I64d _, I64d _] rfl (next_fn c i) ha rfl hk
theorem rnext_call {K : FR → Prop} {Λ : List Lp} {ρ : List D} {es : List E} {m : Nat} {k : VC} (c : Cn) (i : Int) (ha : es.map (·.den ρ) = [cnD c, I64d i]) (hk : k.den Tryd.prog gls K Λ (ρ ++ [I64d (nxC c i).s, .bool (nxC c i).p, .bool (nxC c i).r, .bool (nxC c i).d, I64d (nxC c i).n, I64d (nxE c i)])) : (VC.cal 9 [tCn, tI] es [tCn, tI] m k).den Tryd.prog gls K Λ ρ :=
  den_cal [I64d _, .bool _, .bool _, .bool _, I64d _, I64d _] rfl (rnext_fn c i) ha rfl hk
end Go.Proofs.YtajphmclobadfaaDoor
