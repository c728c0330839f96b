/- Contracts of the reference for boxes, first part. -/
import Derived.Test.YtdldbdffaffjoaaBoxG
namespace Go.Proofs.Ytdldbdffaffjoaa
open Go.RowKit

def isLen (n : Int) : Bool := decide (-1048576 ≤ n ∧ n ≤ 1048576)
def coordI (x y z k : Int) : Int := if k = 0 then x else if k = 1 then y else z
theorem isLen_iff {n : Int} : isLen n = true ↔ (-1048576 ≤ n ∧ n ≤ 1048576) := by unfold isLen; exact decide_eq_true_iff
theorem isLen_not {n : Int} (h : isLen n = false) : n < -1048576 ∨ 1048576 < n := by
  unfold isLen at h; have := of_decide_eq_false h; omega

end Go.Proofs.Ytdldbdffaffjoaa
