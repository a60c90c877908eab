/- Proved: for every input the law FnExactConstants of the given program returns true. -/
import Derived.Test.YteglkbifeekbnaaPFnExactConstantsx1
set_option linter.unusedVariables false
set_option linter.unusedSimpArgs false
namespace Go.Proofs.Yteglkbifeekbnaa.Pure
open Go Go.RowKit Go.Proofs.Yteglkbifeekbnaa.PFnExactConstants Go.Proofs.YteglkbifeekbnaaW.PrintWords Go.Proofs.YteglkbifeekbnaaW.PrintLast

theorem FnExactConstants : laws_FnExactConstants.Pure := by
  unfold laws_FnExactConstants.Pure laws_FnExactConstants.f; rfl

end Go.Proofs.Yteglkbifeekbnaa.Pure
