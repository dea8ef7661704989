/- What is wrong with a commit: commit.May and the reference's May, walked. No condition. -/
import Derived.Test.YtecolkngbcgmcaaRt
set_option linter.unusedSimpArgs false
set_option linter.unusedVariables false
namespace Go.Proofs.Ytecolkngbcgmcaa
open Go.RowKit Go.Fw Go.Pl

end Go.Proofs.Ytecolkngbcgmcaa
