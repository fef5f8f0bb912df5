/-
  Layer 7's functions: plain facts, recovery, conditions (printed by a program). No conditions stand ahead of what is proved.
-/
import Derived.Test.YtmplgfkhknhacaaFrame
import Derived.Test.YtmplgfkhknhacaaDE
import Derived.Test.YtmplgfkhknhacaaSyXd
import Derived.Tactics
import Derived.Recover
import Derived.Tactics2
set_option maxRecDepth 100000
set_option linter.unusedSimpArgs false
set_option linter.unusedVariables false
namespace Go.Proofs.Ytmplgfkhknhacaa.L7
open Go.Proofs.Ytmplgfkhknhacaa.Sy Go.RowKit Go.WideShapes Go.ChangeShapes Go.ChangeAt
theorem hP : NoNum Try.prog := by unfold NoNum; kernel_rfl
def isB (l : List Int) : Prop := ∀ x ∈ l, 0 ≤ x ∧ x ≤ 255
theorem isB.cons {x : Int} {l : List Int} (h : isB (x :: l)) : (0 ≤ x ∧ x ≤ 255) ∧ isB l := ⟨h x (by simp), fun y hy => h y (by simp [hy])⟩
theorem isB.app {a b : List Int} (h : isB (a ++ b)) : isB a ∧ isB b := ⟨fun y hy => h y (by simp [hy]), fun y hy => h y (by simp [hy])⟩
theorem isB.join {a b : List Int} (h : isB a) (k : isB b) : isB (a ++ b) := fun x hx => (List.mem_append.1 hx).elim (h x) (k x)
theorem isB.nil : isB [] := fun x hx => by cases hx
def sgs : Nat → Option (List TS × List TS) := fun f => if Nat.beq f 129 then some ([.r [.int .u8], .c (.int .i64)], [.r [.int .u8]]) else if Nat.beq f 120 then some ([.p [.s (.lst [.int .u8])]], [.c (.int .i64)]) else if Nat.beq f 122 then some ([.p [.s (.lst [.int .u8])]], [.c (.lst [.int .u8])]) else if Nat.beq f 52 then some ([.c (.lst [.int .u8])], [.r [.int .u8]]) else none
end Go.Proofs.Ytmplgfkhknhacaa.L7
set_option maxRecDepth 100000
set_option linter.unusedSimpArgs false
set_option linter.unusedVariables false
namespace Go.Proofs.Ytmplgfkhknhacaa.L7
open Go.Proofs.Ytmplgfkhknhacaa.Sy Go.RowKit Go.WideShapes Go.ChangeShapes Go.ChangeAt
section
variable {P : Program} {G : Globs} {K : FR → Prop} {Λ : List Lp} {ρ : List D}
theorem den_t {e : E} {a b : VC} (h : (e.den ρ).toB = true) (k : a.den P G K Λ ρ) : (VC.ite e a b).den P G K Λ ρ := den_ite (fun _ => k) (fun h' => by rw [h] at h'; cases h')
theorem den_f {e : E} {a b : VC} (h : (e.den ρ).toB = false) (k : b.den P G K Λ ρ) : (VC.ite e a b).den P G K Λ ρ := den_ite (fun h' => by rw [h] at h'; cases h') (fun _ => k)
end
end Go.Proofs.Ytmplgfkhknhacaa.L7
