/- strings.IndexByte's contract, laid by the shelf at this program, in plain words. No condition. -/
import Derived.Shelf.Small.Strs
import Derived.Shelf.Strings.Search1
import Derived.Test.YtkbmlnkoejlgmaaDoorProg
set_option linter.unusedSimpArgs false
set_option linter.unusedVariables false
namespace Go.Proofs.YtkbmlnkoejlgmaaDoor
open Go.Shelf
end Go.Proofs.YtkbmlnkoejlgmaaDoor
