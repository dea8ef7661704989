/- What is wrong with an operation: commit.Right and the reference's Right, walked; the reference's Name. No condition. -/
import Derived.Test.YtecolkngbcgmcaaNm
set_option linter.unusedSimpArgs false
set_option linter.unusedVariables false
namespace Go.Proofs.Ytecolkngbcgmcaa
open Go.RowKit Go.Fw Go.Pl

end Go.Proofs.Ytecolkngbcgmcaa
