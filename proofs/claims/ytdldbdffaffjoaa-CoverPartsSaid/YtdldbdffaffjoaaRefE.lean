/- The reference's cuts of a box along an axis. -/
import Derived.Test.YtdldbdffaffjoaaPlainB
import Derived.Test.YtdldbdffaffjoaaRefD
namespace Go.Proofs.Ytdldbdffaffjoaa
open Go.RowKit

/-- The next cut, after the first q ends of a box. -/
def stepTo (last nx : Int) (k : Int) (x : Bx) (q : Nat) : Int := if q = 0 then nx else if q = 1 then stepN last nx (x.lo k) else stepN last (stepN last nx (x.lo k)) (x.hi k)
theorem stepTo_two (l : List Bx) (last hi k : Int) (j : Nat) (h : j < l.length) : stepTo last (nextL last hi (endsL (l.take j) k)) k l[j] 2 = nextL last hi (endsL (l.take (j + 1)) k) := by
  rw [endsL_take l k j h, nextL_snoc]; rfl
theorem stepN_pos {last nx n : Int} (h : last < n ∧ n < nx) : stepN last nx n = n := if_pos h
theorem stepN_neg {last nx n : Int} (h : ¬ (last < n ∧ n < nx)) : stepN last nx n = nx := if_neg h
def lenOf : Value → Nat
  | .slice _ n _ => n
  | _ => 0

end Go.Proofs.Ytdldbdffaffjoaa
