/- The path of a bar: shape.Path. -/
import Derived.Test.YtafkibnkpcmmgaaLaidK0
import Derived.Test.YtafkibnkpcmmgaaExtK
import Derived.Deep.DeepCutAuto
namespace Go.Proofs.Ytafkibnkpcmmgaa
open Go.RowKit
set_option maxRecDepth 20000

/-- A round's bounds. -/
def NearK (p : Pt) (k : Nat) : Prop := (-(262144 * (k : Int)) ≤ p.x ∧ p.x ≤ 262144 * (k : Int)) ∧ (-(262144 * (k : Int)) ≤ p.y ∧ p.y ≤ 262144 * (k : Int)) ∧ -(262144 * (k : Int)) ≤ p.z ∧ p.z ≤ 262144 * (k : Int)
theorem cell_below' {w w' : World} {a : Addr} {v : Value} (h : w.cell? a = some v) (hb : Below w.heap.size w w') : w'.cell? a = some v := by
  obtain ⟨y, rfl⟩ := ext_of hb
  exact cell_ext_some h y
end Go.Proofs.Ytafkibnkpcmmgaa
