/-
  Firmware updates in plain Lean: what the functions of layer 32 compute.
-/
import Derived.Test.YtokjokbbegcceaaFrame
namespace Go.Proofs.Ytokjokbbegcceaa
structure Fw where
  s : Int
  v : Int
  t : Int
  d : Int
  tr : Int
def uwB (s : Int) : Bool := !(s < 1) && !(4 < s)
def fvalI (f : Fw) : Int :=
  if f.s < 0 || 6 < f.s || f.v < 0 || 2147483647 < f.v || f.t < 0 || 2147483647 < f.t || f.d < 0 || 268435456 < f.d || f.tr < 0 || 10 < f.tr then 2
  else if f.s == 0 then (if f.t != 0 || f.d != 0 || f.tr != 0 then 1 else 0)
  else if f.t == 0 then 1
  else if (f.t == f.v) != (f.s == 5) then 1 else 0
def schE (f : Fw) (ver due tr : Int) : Int :=
  if ver < 1 || 2147483647 < ver || due < 0 || 268435456 < due || tr < 0 || 10 < tr then 2
  else if uwB f.s then 10 else if ver == f.v then 9 else 0
def sch (f : Fw) (ver due tr : Int) : Fw := if schE f ver due tr == 0 then ⟨1, f.v, ver, due, tr⟩ else f
def canE (f : Fw) : Int := if f.s == 1 || f.s == 2 || f.s == 3 then 0 else 10
def can (f : Fw) : Fw := if canE f == 0 then ⟨0, f.v, 0, 0, 0⟩ else f
def step (f : Fw) (now : Int) (idle good : Bool) : Fw :=
  if f.s == 1 then (if f.d ≤ now then ⟨2, f.v, f.t, f.d, f.tr⟩ else f)
  else if f.s == 2 then (if good then ⟨3, f.v, f.t, f.d, f.tr⟩ else if f.tr == 0 then ⟨6, f.v, f.t, f.d, f.tr⟩ else ⟨2, f.v, f.t, f.d, Go.RowKit.wrap64 (f.tr - 1)⟩)
  else if f.s == 3 then (if idle then ⟨4, f.v, f.t, f.d, f.tr⟩ else f)
  else if f.s == 4 then (if good then ⟨5, f.t, f.t, f.d, f.tr⟩ else ⟨6, f.v, f.t, f.d, f.tr⟩)
  else f
/-- A call: 1 Schedule, 2 Step, 3 Cancel. -/
structure FOp where
  k : Int
  ver : Int
  due : Int
  tr : Int
  now : Int
  idle : Bool
  good : Bool
def callF (f : Fw) (x : FOp) : Fw := if x.k == 1 then sch f x.ver x.due x.tr else if x.k == 2 then step f x.now x.idle x.good else if x.k == 3 then can f else f
def callB (f : Fw) (x : FOp) : Bool := if x.k == 1 then false else if x.k == 2 then (step f x.now x.idle x.good).s != f.s else false
def callE (f : Fw) (x : FOp) : Int := if x.k == 1 then schE f x.ver x.due x.tr else if x.k == 2 then 0 else if x.k == 3 then canE f else 0
end Go.Proofs.Ytokjokbbegcceaa
