/- What Check and Row leave, in the form of slices. -/
import Derived.Test.YtofjopdcbmaijaaGapK2
namespace Go.Proofs.Ytofjopdcbmaijaa
open Go.RowKit
set_option maxRecDepth 20000

theorem fds_len {w : World} {L : List ByteArray} {err : Int} {N : Nat} (hN : L.length = N) {e : Ending} {W : World} (h : RetFds w L err e W) :
    ∃ a c, e = .returned (.tuple #[.slice a N c, .int .i64 err]) ∧ N ≤ c ∧ c ≤ 9223372036854775807 ∧ ∃ x, W = ext w x := by
  subst hN
  obtain ⟨v, rfl, hown, x, rfl⟩ := h
  obtain ⟨a, c, rfl, h1, h2, -⟩ := own_shape hown
  exact ⟨a, c, rfl, h1, h2, x, rfl⟩
theorem bxs_len {w : World} {M : List Bx} {err : Int} {e : Ending} {W : World} (h : RetBxs w M err e W) :
    ∃ a c, e = .returned (.tuple #[.slice a M.length c, .int .i64 err]) ∧ M.length ≤ c ∧ c ≤ 9223372036854775807 ∧ (∀ i (h : i < M.length), ∃ b off, a = some ⟨b, off, none⟩ ∧ BoxAt W b (off + i * 6) M[i]) ∧ ∃ x, W = ext w x := by
  obtain ⟨v, rfl, hown, x, rfl⟩ := h
  obtain ⟨a, c, rfl, h1, h2, h3⟩ := (Boxes.of_own hown).shape
  exact ⟨a, c, rfl, h1, h2, h3, x, rfl⟩

end Go.Proofs.Ytofjopdcbmaijaa
