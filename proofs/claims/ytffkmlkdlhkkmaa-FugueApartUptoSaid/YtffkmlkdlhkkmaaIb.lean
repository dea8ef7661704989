/- strings.IndexByte's contract, laid by the shelf at this program, in plain words. No condition. -/
import Derived.Shelf.Small.Strs
import Derived.Shelf.Strings.Search1
import Derived.Test.YtffkmlkdlhkkmaaProg
set_option linter.unusedSimpArgs false
set_option linter.unusedVariables false
namespace Go.Proofs.Ytffkmlkdlhkkmaa
open Go.Shelf
end Go.Proofs.Ytffkmlkdlhkkmaa
