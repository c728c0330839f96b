/- box.Nearest. -/
import Derived.Test.YtofjopdcbmaijaaBoxG
import Derived.Test.YtofjopdcbmaijaaTail
namespace Go.Proofs.Ytofjopdcbmaijaa
open Go.RowKit
set_option maxRecDepth 20000

/-- The coordinates of the nearest points along an axis, by the ends of both boxes. -/
def nearI (al ah bl bh : Int) : Int × Int := if ah < bl then (ah, bl) else if bh < al then (al, bh) else (max al bl, max al bl)
def nearP (a b : Bx) (k : Int) : Int × Int := nearI (a.lo k) (a.hi k) (b.lo k) (b.hi k)
theorem near_tri (al ah bl bh : Int) : (ah < bl ∧ (nearI al ah bl bh).1 = ah ∧ (nearI al ah bl bh).2 = bl) ∨ (bl ≤ ah ∧ bh < al ∧ (nearI al ah bl bh).1 = al ∧ (nearI al ah bl bh).2 = bh) ∨
    (bl ≤ ah ∧ al ≤ bh ∧ (nearI al ah bl bh).1 = max al bl ∧ (nearI al ah bl bh).2 = max al bl) := by
  unfold nearI
  by_cases h1 : ah < bl
  · rw [if_pos h1]; exact .inl ⟨h1, rfl, rfl⟩
  · rw [if_neg h1]
    by_cases h2 : bh < al
    · rw [if_pos h2]; exact .inr (.inl ⟨by omega, h2, rfl, rfl⟩)
    · rw [if_neg h2]; exact .inr (.inr ⟨by omega, by omega, rfl, rfl⟩)

def nearV (a b : Bx) : Value := .tuple #[(.agg #[.int .i64 (nearP a b 0).1, .int .i64 (nearP a b 1).1, .int .i64 (nearP a b 2).1]), (.agg #[.int .i64 (nearP a b 0).2, .int .i64 (nearP a b 1).2, .int .i64 (nearP a b 2).2]), .int .i64 0]

/-- What the two points hold after k axes. -/
def pc (a b : Bx) (k j : Nat) (i : Int) : Int := if j < k then (nearP a b i).1 else 0
def qc (a b : Bx) (k j : Nat) (i : Int) : Int := if j < k then (nearP a b i).2 else 0
theorem ext_refl (w : World) : ∃ x, w = ext w x := ext_of (Below.refl _ _)

end Go.Proofs.Ytofjopdcbmaijaa
