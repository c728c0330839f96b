/- The cuts at a place: gaps.cuts. -/
import Derived.Test.YtdldbdffaffjoaaGreatGapK1
import Derived.Deep.DeepCutAuto
namespace Go.Proofs.YtdldbdffaffjoaaGreat
open Go.RowKit
set_option maxRecDepth 20000

end Go.Proofs.YtdldbdffaffjoaaGreat
