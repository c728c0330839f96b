/- The errors of Nearest and Covers; both as one contract. -/
import Derived.Test.YtofjopdcbmaijaaBoxH
namespace Go.Proofs.Ytofjopdcbmaijaa
open Go.RowKit
set_option maxRecDepth 20000

def coversV (l : List Bx) (b : Bx) : Bool × Int :=
  if l.all validB = true ∧ validB b = true then (if l.length ≤ 40 then (coversB l b, 0) else (false, 4)) else (false, 1)
end Go.Proofs.Ytofjopdcbmaijaa
