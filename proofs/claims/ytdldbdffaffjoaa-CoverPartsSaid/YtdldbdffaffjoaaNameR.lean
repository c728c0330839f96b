/- The reference's IsName. -/
import Derived.Test.YtdldbdffaffjoaaName
namespace Go.Proofs.Ytdldbdffaffjoaa
open Go.RowKit

def inI (n lo hi : Int) : Bool := decide (lo ≤ n) && decide (n ≤ hi)
theorem inI_iff {n lo hi : Int} : inI n lo hi = true ↔ lo ≤ n ∧ n ≤ hi := by unfold inI; simp
theorem inI_false {n lo hi : Int} (h : inI n lo hi = false) : n < lo ∨ hi < n := by
  rcases Int.lt_or_le n lo with h1 | h1
  · exact .inl h1
  · rcases Int.lt_or_le hi n with h2 | h2
    · exact .inr h2
    · rw [inI_iff.2 ⟨h1, h2⟩] at h; cases h

theorem isName_v (s : ByteArray) (r : Bool) (h : nameB s = r) (hs : s.size ≤ 9223372036854775807) (w : World) : Calls Try.prog 43 #[.string s] w (Ret w (.bool r)) := by subst h; exact isName_c s hs w

end Go.Proofs.Ytdldbdffaffjoaa
