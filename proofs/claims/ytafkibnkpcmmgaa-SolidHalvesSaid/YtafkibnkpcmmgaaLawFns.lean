/- The law's own helpers. -/
import Derived.Test.YtafkibnkpcmmgaaBoxG
namespace Go.Proofs.Ytafkibnkpcmmgaa
open Go.RowKit

def manyB (n : Nat) : Bool := (decide (8 < n) && decide (n ≤ 40)) || decide (45 < n)

theorem grow_drewN {w a : World} {n : Nat} (h : Below w.heap.size w a) : Below w.heap.size w (a.drewN n) := ⟨h.os, h.tape, h.output, h.size, h.block⟩

def InW (n : Int) : Prop := -1048576 ≤ n ∧ n ≤ 1048576
theorem sq_bound {x y : Int} (hx : InW x) (hy : InW y) : 0 ≤ (x - y) * (x - y) ∧ (x - y) * (x - y) ≤ 4398046511104 := by
  unfold InW at hx hy
  constructor
  · rcases Int.le_total 0 (x - y) with h | h
    · exact Int.mul_nonneg h h
    · exact Int.mul_nonneg_of_nonpos_of_nonpos h h
  · have h1 : (2097152 - (x - y)) * (2097152 + (x - y)) ≥ 0 := Int.mul_nonneg (by omega) (by omega)
    have h2 : (2097152 - (x - y)) * (2097152 + (x - y)) = 4398046511104 - (x - y) * (x - y) := by
      generalize x - y = t
      rw [Int.sub_mul, Int.mul_add, Int.mul_add]; omega
    omega
def squareP (x y z x' y' z' : Int) : Int := (x - x') * (x - x') + (y - y') * (y - y') + (z - z') * (z - z')

def atI (lo hi n : Int) : Int := lo + (hi - lo) * n / 65535
theorem at_mul {lo hi n : Int} (h3 : lo ≤ hi) (h4 : 0 ≤ n ∧ n ≤ 65535) : 0 ≤ (hi - lo) * n ∧ (hi - lo) * n ≤ (hi - lo) * 65535 :=
  ⟨Int.mul_nonneg (by omega) h4.1, Int.mul_le_mul_of_nonneg_left h4.2 (by omega)⟩
theorem at_in {lo hi n : Int} (h1 : InW lo) (h2 : InW hi) (h3 : lo ≤ hi) (h4 : 0 ≤ n ∧ n ≤ 65535) : lo ≤ atI lo hi n ∧ atI lo hi n ≤ hi := by
  have := at_mul h3 h4
  unfold InW at h1 h2
  unfold atI
  generalize (hi - lo) * n = t at this
  omega

end Go.Proofs.Ytafkibnkpcmmgaa
