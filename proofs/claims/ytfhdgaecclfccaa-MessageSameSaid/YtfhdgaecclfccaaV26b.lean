/-
  The error of a message. No conditions stand ahead of what is proved.
-/
import Derived.Test.YtfhdgaecclfccaaV26c
set_option maxRecDepth 100000
set_option linter.unusedSimpArgs false
set_option linter.unusedVariables false
namespace Go.Proofs.Ytfhdgaecclfccaa.V26
open Go.Proofs.Ytfhdgaecclfccaa Go.Proofs.Ytfhdgaecclfccaa.Sy Go.Proofs.Ytfhdgaecclfccaa.L7 Go.Proofs.Ytfhdgaecclfccaa.Id Go.Proofs.Ytfhdgaecclfccaa.R26 Go.RowKit Go.WideShapes Go.ChangeShapes Go.ChangeAt

end Go.Proofs.Ytfhdgaecclfccaa.V26
