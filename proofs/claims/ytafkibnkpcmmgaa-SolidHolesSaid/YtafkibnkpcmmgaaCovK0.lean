/- CovA, RefSz in one text. -/
import Derived.Test.YtafkibnkpcmmgaaBoxK
namespace Go.Proofs.Ytafkibnkpcmmgaa
open Go.RowKit
set_option maxRecDepth 20000

/-- Half of a size, rounded up. -/
def halfI (d : Int) : Int := (d + 1) / 2
/-- A slice value that reads as a list of numbers. -/
def Ints (w : World) (v : Value) (l : List Int) : Prop :=
  ∃ b off cap, v = .slice (some ⟨b, off, none⟩) l.length cap ∧ l.length ≤ cap ∧ cap ≤ 9223372036854775807 ∧ ∀ i (h : i < l.length), w.cell? ⟨b, off + i, none⟩ = some (.int .i64 l[i])
def RetInts (w : World) (l : List Int) (e : Ending) (w' : World) : Prop := ∃ v, e = .returned v ∧ Ints w' v l ∧ ∃ x, w' = ext w x
theorem Ints.ext {w : World} {v : Value} {l : List Int} (h : Ints w v l) (y : World) : Ints (ext w y) v l := by
  obtain ⟨b, off, cap, h1, h2, h3, h4⟩ := h
  exact ⟨b, off, cap, h1, h2, h3, fun i hi => cell_ext_some (h4 i hi) y⟩

theorem find_any_int {p : Int → Bool} {l : List Int} : (decide (0 ≤ (((l.findIdx? p).map (fun i : Nat => (i : Int))).getD (-1)))) = l.any p := by
  cases h : l.findIdx? p with
  | none =>
    have := List.findIdx?_eq_none_iff.1 h
    simp only [Option.map_none, Option.getD_none]
    rw [show (decide ((0 : Int) ≤ -1)) = false from rfl]
    symm; rw [List.any_eq_false]; intro x hx; simp [this x hx]
  | some k =>
    obtain ⟨hk, hp, _⟩ := List.findIdx?_eq_some_iff_getElem.1 h
    simp only [Option.map_some, Option.getD_some]
    rw [show (decide ((0 : Int) ≤ (k : Int))) = true by simp]
    symm; rw [List.any_eq_true]; exact ⟨_, List.getElem_mem hk, hp⟩
def sizesL : List Int := [6, 8, 10, 12, 16, 20, 25, 32, 40]
def sizeB (d : Int) : Bool := sizesL.any fun a => d == a
theorem size_iff {d : Int} : sizeB d = true ↔ d = 6 ∨ d = 8 ∨ d = 10 ∨ d = 12 ∨ d = 16 ∨ d = 20 ∨ d = 25 ∨ d = 32 ∨ d = 40 := by
  unfold sizeB sizesL; simp
def roundR (d : Int) : Int × Int := if sizeB d = true then ((d + 1) / 2, 0) else (0, 1)
end Go.Proofs.Ytafkibnkpcmmgaa

namespace Go.Proofs.Ytafkibnkpcmmgaa
open Go.RowKit
set_option maxRecDepth 20000

end Go.Proofs.Ytafkibnkpcmmgaa

