/-
  Connectors in plain Lean: what the functions of layer 28 compute.
-/
import Derived.Test.YtajphmclobadfaaFrame
namespace Go.Proofs.Ytajphmclobadfaa
def sessB (s : Int) : Bool := s == 3 || s == 4 || s == 5
def baseI (p r d : Bool) (f : Int) : Int := if f != 0 then 7 else if d then 8 else if p then 2 else if r then 6 else 1
def validI (s : Int) (p r d : Bool) (f : Int) : Int :=
  if f < 0 || 1000 < f then 1 else if sessB s then (if !p || r || f != 0 then 1 else 0) else if s != baseI p r d f then 1 else 0
end Go.Proofs.Ytajphmclobadfaa
