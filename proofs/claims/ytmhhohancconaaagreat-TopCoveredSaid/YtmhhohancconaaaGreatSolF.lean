/- The walk of solid.each: each part of a solid is handed to the function value. -/
import Derived.Test.YtmhhohancconaaaGreatSolK2
import Derived.Test.YtmhhohancconaaaGreatPlainK0
import Derived.IntWalk
namespace Go.Proofs.YtmhhohancconaaaGreat
open Go.RowKit
set_option maxRecDepth 20000

theorem cuts_len {l m : List Bx} (h : l.all thickB = true) (h0 : l ≠ []) (hl : l.length ≤ 20) (hm : m.length ≤ 20) (k : Int) : 1 ≤ (cutsB (l ++ m) (hullX l) k).length ∧ (cutsB (l ++ m) (hullX l) k).length ≤ 82 := by
  have h1 := cutsB_length (l ++ m) (hullX l) k
  rw [List.length_append] at h1
  have h2 := (cutsOf (all := l ++ m) k (Int.le_of_lt (thick_axis (hull_thick h h0) k))).ne
  have := List.length_pos_iff.2 h2
  omega
theorem own_get {W : World} {B : Nat} {C : List Int} {v : Value} (h : W.ownsRow B 3 1 v C.length (C.map (Value.int .i64))) (h0 : 1 ≤ C.length) : ∃ g cap, v = .slice (some ⟨g, 0, none⟩) C.length cap ∧ C.length ≤ cap ∧ cap ≤ 9223372036854775807 := by
  obtain ⟨a, cap, rfl, h1, h2, h3⟩ := own_shape h
  obtain ⟨g, rfl, _, _⟩ := h3 (by omega)
  exact ⟨g, cap, rfl, h1, h2⟩

end Go.Proofs.YtmhhohancconaaaGreat
