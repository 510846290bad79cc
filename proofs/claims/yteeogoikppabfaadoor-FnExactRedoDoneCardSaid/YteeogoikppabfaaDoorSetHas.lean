/- A number looked for in a list: l30Has of the reference. -/
import Derived.Test.YteeogoikppabfaaDoorSetList
namespace Go.Proofs.YteeogoikppabfaaDoor
open Go.RowKit
set_option maxRecDepth 8000
end Go.Proofs.YteeogoikppabfaaDoor
