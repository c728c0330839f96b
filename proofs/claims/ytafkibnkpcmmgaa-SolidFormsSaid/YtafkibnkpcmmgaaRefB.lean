/- Contracts of the reference for boxes, second part: gaps, squares, what two boxes have in common. -/
import Derived.Test.YtafkibnkpcmmgaaRefA
namespace Go.Proofs.Ytafkibnkpcmmgaa
open Go.RowKit

def squareI (a b : Bx) : Int := max 0 (alongI a b 0) * max 0 (alongI a b 0) + max 0 (alongI a b 1) * max 0 (alongI a b 1) + max 0 (alongI a b 2) * max 0 (alongI a b 2)
theorem along_bound {a b : Bx} (ha : validB a = true) (hb : validB b = true) (k : Int) : alongI a b k ≤ 2097152 := by
  have h1 := valid_iff.1 ha
  have h2 := valid_iff.1 hb
  unfold alongI Bx.lo Bx.hi
  split <;> (try split) <;> omega
theorem pos_sq {a b : Bx} (ha : validB a = true) (hb : validB b = true) (k : Int) : 0 ≤ max 0 (alongI a b k) * max 0 (alongI a b k) ∧ max 0 (alongI a b k) * max 0 (alongI a b k) ≤ 4398046511104 := by
  have h := along_bound ha hb k
  generalize alongI a b k = n at h
  have h0 : 0 ≤ max 0 n := by omega
  have h1 : max 0 n ≤ 2097152 := by omega
  exact ⟨Int.mul_nonneg h0 h0, by have := Int.mul_le_mul h1 h1 h0 (by omega); omega⟩

end Go.Proofs.Ytafkibnkpcmmgaa
