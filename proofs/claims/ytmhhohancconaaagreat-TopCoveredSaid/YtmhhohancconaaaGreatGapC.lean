/- The cuts at a place: gaps.cuts. -/
import Derived.Test.YtmhhohancconaaaGreatGapK1
import Derived.Deep.DeepCutAuto
namespace Go.Proofs.YtmhhohancconaaaGreat
open Go.RowKit
set_option maxRecDepth 20000

end Go.Proofs.YtmhhohancconaaaGreat
