/- The cuts at a place: gaps.cuts. -/
import Derived.Test.YtmoechhfjmemaaaGreatGapK1
import Derived.Deep.DeepCutAuto
namespace Go.Proofs.YtmoechhfjmemaaaGreat
open Go.RowKit
set_option maxRecDepth 20000

end Go.Proofs.YtmoechhfjmemaaaGreat
