/- Layer 5 (prefix): a whole prefix out of a block. -/
import Derived.Test.YtcloepjeckbmoaaDoorPfx6
import Derived.Test.YtcloepjeckbmoaaDoorArrEq
namespace Go.Proofs.YtcloepjeckbmoaaDoor
open Go.RowKit
set_option linter.unusedVariables false
set_option linter.unusedSimpArgs false

end Go.Proofs.YtcloepjeckbmoaaDoor
