/- Contracts of the reference for boxes, fourth part: Contains, All, Grown. -/
import Derived.Test.YtdldbdffaffjoaaRefC
namespace Go.Proofs.Ytdldbdffaffjoaa
open Go.RowKit

def Ord (b : Bx) : Prop := b.lx ≤ b.hx ∧ b.ly ≤ b.hy ∧ b.lz ≤ b.hz
theorem Ord.of_valid {b : Bx} (h : validB b = true) : Ord b := by have := valid_iff.1 h; unfold Ord; omega

end Go.Proofs.Ytdldbdffaffjoaa
