/- LaidD1, LaidD2, LaidD3, LaidD4, LaidD5 in one text. -/
import Derived.Test.YtafkibnkpcmmgaaLaidK0
import Derived.Test.YtafkibnkpcmmgaaExtK
import Derived.RegionTactic
import Derived.Deep.RegionHeld3
namespace Go.Proofs.Ytafkibnkpcmmgaa
open Go.RowKit
set_option maxRecDepth 20000

theorem mul_small {a b m : Int} (ha : -1 ≤ a ∧ a ≤ 1) (hb : -m ≤ b ∧ b ≤ m) : -m ≤ a * b ∧ a * b ≤ m := by
  rcases (show a = -1 ∨ a = 0 ∨ a = 1 by omega) with rfl | rfl | rfl
  · rw [Int.neg_one_mul]; omega
  · rw [Int.zero_mul]; omega
  · rw [Int.one_mul]; omega

theorem unit_small {n : Int} (h : n ≠ 0 ∧ -3 ≤ n ∧ n ≤ 3) : NearP (unitP n) 1 := by
  rcases (show n = 1 ∨ n = 2 ∨ n = 3 ∨ n = -1 ∨ n = -2 ∨ n = -3 by omega) with rfl | rfl | rfl | rfl | rfl | rfl <;> (unfold NearP unitP; simp)

end Go.Proofs.Ytafkibnkpcmmgaa

namespace Go.Proofs.Ytafkibnkpcmmgaa
open Go.RowKit
set_option maxRecDepth 20000

end Go.Proofs.Ytafkibnkpcmmgaa

namespace Go.Proofs.Ytafkibnkpcmmgaa
open Go.RowKit
set_option maxRecDepth 20000

theorem cross_small {tx ty : Int} (h : turnB tx ty = true) : NearP (crossP (unitP tx) (unitP ty)) 1 := by
  obtain ⟨⟨a1, a2, a3⟩, ⟨b1, b2, b3⟩, c1, c2⟩ := turn_iff.1 h
  have hx : tx = 1 ∨ tx = 2 ∨ tx = 3 ∨ tx = -1 ∨ tx = -2 ∨ tx = -3 := by omega
  have hy : ty = 1 ∨ ty = 2 ∨ ty = 3 ∨ ty = -1 ∨ ty = -2 ∨ ty = -3 := by omega
  rcases hx with rfl | rfl | rfl | rfl | rfl | rfl <;> rcases hy with rfl | rfl | rfl | rfl | rfl | rfl <;> (unfold NearP unitP crossP; simp)

end Go.Proofs.Ytafkibnkpcmmgaa

namespace Go.Proofs.Ytafkibnkpcmmgaa
open Go.RowKit
set_option maxRecDepth 20000

end Go.Proofs.Ytafkibnkpcmmgaa

namespace Go.Proofs.Ytafkibnkpcmmgaa
open Go.RowKit
set_option maxRecDepth 20000

end Go.Proofs.Ytafkibnkpcmmgaa

