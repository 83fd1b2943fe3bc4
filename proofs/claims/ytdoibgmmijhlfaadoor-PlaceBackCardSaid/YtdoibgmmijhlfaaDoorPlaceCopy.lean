/- Walks over the package place: Copy. -/
import Derived.Test.YtdoibgmmijhlfaaDoorIRow
import Derived.Deep.RegionWith
import Derived.Deep.DrawnRows
import Derived.Laws.ResultCell
namespace Go.Proofs.YtdoibgmmijhlfaaDoor
open Go.ChangeShapes Go.WideShapes Go.ChangeAt Go.RowKit
set_option linter.unusedVariables false
attribute [local go_sem ↓] Go.wp_at_zero Go.wp_at_succ
end Go.Proofs.YtdoibgmmijhlfaaDoor
