/- A slice of points among the arguments, opened. -/
import Derived.Test.YtmoechhfjmemaaaGreatOpenK
import Derived.Test.YtmoechhfjmemaaaGreatBlk
namespace Go.Proofs.YtmoechhfjmemaaaGreat
open Go.ChangeShapes Go.WideShapes Go.ChangeAt Go.RowKit Go.Deep
set_option maxRecDepth 20000

section
variable {H : Type} {enc : TypeId × Value → H} {w : World} {base : Nat} {spare : Nat → Bool} {held : Bool}
def ptRow (p : Pt) : List Value := [.int .i64 p.x, .int .i64 p.y, .int .i64 p.z]
set_option maxRecDepth 100000 in
theorem open_points {r : Reach} {b0 : Nat} {v : Value} {d : DataW H} {p : List MemPlace} (hv : Value.okWide Tryz.prog w r b0 46 v) (h : DataW.Trod enc Tryz.prog w base spare held 46 v d p) :
    ∃ l : List Pt, Pts w v l := by
  obtain ⟨l, a, cap, rfl, h1, h2, h3⟩ := open_slice_of (n := 3) (enc' := ptRow) (by decide) Tryz.underlying46 cells_point (fun fuel cs x hx => by
    obtain ⟨a, b, c, hb, _⟩ := point_cells hx
    exact ⟨⟨a, b, c⟩, hb⟩) hv h
  refine ⟨l, a, cap, rfl, h1, h2, fun i hi => ?_⟩
  obtain ⟨b, off, e, _, hc⟩ := h3 i hi
  exact ⟨b, off, e, hc 0 (by decide), hc 1 (by decide), hc 2 (by decide)⟩
end
end Go.Proofs.YtmoechhfjmemaaaGreat
