/-
  No cell of these rows narrows 'for every input' (looked for: loops, veiled, ifaces, maps, wideKeys, modest, calm, conditions, laid).
  DERIVED. THE GIVEN ROWS OF THIS SEAT. 4 by the template 'for every input the law returns true; each argument reads behind the call as it read before'; 0 by the template 'total and deterministic' (their statements: YtdldbdffaffjoaaGreatTotals.lean).
  GIVEN WITH THE SEED: the statements are not yours to turn. If you find one false, say at which input.
  Laid BY PROGRAM, IN A SANDBOX (cutbox-rows.mjs): the forced cells as the released guide's own fill.sh prints them over the translation 4440729de17dfd80… (all of the seat's roots in one cut). By AI agents, Wed Nov 11 2026. No macro, syntax, notation, axiom, sorry.
-/
import Derived.Test.YtdldbdffaffjoaaGreatChecked
import GoSem.Claim
import GoSem.ClaimJoined
import GoSem.ClaimMapViews
import Derived.JoinedTies
import Derived.KernelRfl
namespace Go.Proofs.YtdldbdffaffjoaaGreat
/- THE CELL 'sum', in the pinned program and in every row, IS THE sha256 OF THE DUMP (.gsa) THAT YtdldbdffaffjoaaGreatProg.lean LOADS. Nothing in Lean hashes anything: it is a label: what it is worth is what the hold of that sum in a sandbox is worth. -/
noncomputable def Tryz.pinned : Pinned := { name := "ytdldbdffaffjoaagreat", sum := "4440729de17dfd807cf909c836fdf1a1a575d23905f0500a0d5908f4b9a3a31f", checked := Tryz.checked }
namespace Rows
def none {H : Type} : Left H := { results := [], args := [] }

/-- 'stirruplaw18.CoverLegs': WHATEVER THE INPUT: true; the input reads as it did. -/
def coverLegsSpec : ChangeSpec := { name := "coverLegs", fn := fun _ => fun
  | [d1, d2, d3] => { results := [.lit (.bool true)], args := [d1, d2, d3] }
  | _ => none }
def coverLegsRow : OpenClaim := { program := "ytdldbdffaffjoaagreat", sum := "4440729de17dfd807cf909c836fdf1a1a575d23905f0500a0d5908f4b9a3a31f", func := "stirrup/stirruplaw18.CoverLegs", spec := "coverLegs", unfollowed := true, recurses := true, apart := false }
def CoverLegsSaid : Prop := coverLegsRow.holds Tryz.pinned (OpenSpec.ofChange coverLegsSpec)

/-- ITS FALSE NEIGHBOUR: 'it returns false'. Refute it at one input. -/
def coverLegsWrong : ChangeSpec := { name := "coverLegs", fn := fun _ => fun
  | [d1, d2, d3] => { results := [.lit (.bool false)], args := [d1, d2, d3] }
  | _ => none }
def CoverLegsWrongFalsely : Prop := coverLegsRow.holds Tryz.pinned (OpenSpec.ofChange coverLegsWrong)

/-- 'stirruplaw18.CoverBars': WHATEVER THE INPUT: true; the input reads as it did. -/
def coverBarsSpec : ChangeSpec := { name := "coverBars", fn := fun _ => fun
  | [d1, d2, d3, d4] => { results := [.lit (.bool true)], args := [d1, d2, d3, d4] }
  | _ => none }
def coverBarsRow : OpenClaim := { program := "ytdldbdffaffjoaagreat", sum := "4440729de17dfd807cf909c836fdf1a1a575d23905f0500a0d5908f4b9a3a31f", func := "stirrup/stirruplaw18.CoverBars", spec := "coverBars", unfollowed := true, recurses := true, apart := false }
def CoverBarsSaid : Prop := coverBarsRow.holds Tryz.pinned (OpenSpec.ofChange coverBarsSpec)

/-- ITS FALSE NEIGHBOUR: 'it returns false'. Refute it at one input. -/
def coverBarsWrong : ChangeSpec := { name := "coverBars", fn := fun _ => fun
  | [d1, d2, d3, d4] => { results := [.lit (.bool false)], args := [d1, d2, d3, d4] }
  | _ => none }
def CoverBarsWrongFalsely : Prop := coverBarsRow.holds Tryz.pinned (OpenSpec.ofChange coverBarsWrong)

/-- 'stirruplaw18.CoverChecks': WHATEVER THE INPUT: true; the input reads as it did. -/
def coverChecksSpec : ChangeSpec := { name := "coverChecks", fn := fun _ => fun
  | [d1, d2, d3] => { results := [.lit (.bool true)], args := [d1, d2, d3] }
  | _ => none }
def coverChecksRow : OpenClaim := { program := "ytdldbdffaffjoaagreat", sum := "4440729de17dfd807cf909c836fdf1a1a575d23905f0500a0d5908f4b9a3a31f", func := "stirrup/stirruplaw18.CoverChecks", spec := "coverChecks", unfollowed := true, recurses := true, apart := false }
def CoverChecksSaid : Prop := coverChecksRow.holds Tryz.pinned (OpenSpec.ofChange coverChecksSpec)

/-- ITS FALSE NEIGHBOUR: 'it returns false'. Refute it at one input. -/
def coverChecksWrong : ChangeSpec := { name := "coverChecks", fn := fun _ => fun
  | [d1, d2, d3] => { results := [.lit (.bool false)], args := [d1, d2, d3] }
  | _ => none }
def CoverChecksWrongFalsely : Prop := coverChecksRow.holds Tryz.pinned (OpenSpec.ofChange coverChecksWrong)

/-- 'stirruplaw18.CoverLeast': WHATEVER THE INPUT: true; the input reads as it did. -/
def coverLeastSpec : ChangeSpec := { name := "coverLeast", fn := fun _ => fun
  | [d1, d2, d3, d4] => { results := [.lit (.bool true)], args := [d1, d2, d3, d4] }
  | _ => none }
def coverLeastRow : OpenClaim := { program := "ytdldbdffaffjoaagreat", sum := "4440729de17dfd807cf909c836fdf1a1a575d23905f0500a0d5908f4b9a3a31f", func := "stirrup/stirruplaw18.CoverLeast", spec := "coverLeast", unfollowed := true, recurses := true, apart := false }
def CoverLeastSaid : Prop := coverLeastRow.holds Tryz.pinned (OpenSpec.ofChange coverLeastSpec)

/-- ITS FALSE NEIGHBOUR: 'it returns false'. Refute it at one input. -/
def coverLeastWrong : ChangeSpec := { name := "coverLeast", fn := fun _ => fun
  | [d1, d2, d3, d4] => { results := [.lit (.bool false)], args := [d1, d2, d3, d4] }
  | _ => none }
def CoverLeastWrongFalsely : Prop := coverLeastRow.holds Tryz.pinned (OpenSpec.ofChange coverLeastWrong)

/- THE SECOND FORM. 'bulk': how many values and letters a reading holds, each counted each time it is reached (what is shared counts as often as it is met; a slice's spare places count too). A statement '..UptoSaid' is the law's where the arguments, and the package variables that the reading takes, are together of bulk at most 1048576: NARROWER than '..Said'. Prove '..Said' where nothing that the law and all that it calls make is longer than what came in: it says more and counts as full. Else prove '..UptoSaid'. A law counts once. -/
mutual
def uptoBulk {H : Type} : DataW H → Nat
  | .lit (.string bytes) => bytes.length + 1
  | .lit _ => 1
  | .nil => 1
  | .ptr d => uptoBulk d + 1
  | .slice elems spare => uptoBulkAll elems + uptoBulkAll spare + 1
  | .agg parts => uptoBulkAll parts + 1
  | .iface _ d => uptoBulk d + 1
  | .map entries => uptoBulkEntries entries + 1
  | .held _ => 1
def uptoBulkAll {H : Type} : List (DataW H) → Nat
  | [] => 0
  | d :: r => uptoBulk d + uptoBulkAll r
def uptoBulkEntries {H : Type} : List (Lit × DataW H) → Nat
  | [] => 0
  | x :: r => uptoBulkEntry x + uptoBulkEntries r
def uptoBulkEntry {H : Type} : Lit × DataW H → Nat
  | (.string bytes, d) => bytes.length + uptoBulk d + 1
  | (_, d) => uptoBulk d + 1
 end
def uptoSmall : (H : Type) → List (DataW H) → Bool := fun _ ds => decide (uptoBulkAll ds ≤ 1048576)
def OpenSpec.upto (s : _root_.Go.ChangeSpec) : _root_.Go.OpenSpec := { _root_.Go.OpenSpec.ofChange s with cond := some uptoSmall }

/-- 'stirruplaw18.CoverLegs', WHERE WHAT IT READS IS OF BULK AT MOST 1048576: true; the input reads as it did. -/
def coverLegsUptoRow : OpenClaim := { program := "ytdldbdffaffjoaagreat", sum := "4440729de17dfd807cf909c836fdf1a1a575d23905f0500a0d5908f4b9a3a31f", func := "stirrup/stirruplaw18.CoverLegs", spec := "coverLegs", unfollowed := true, recurses := true, apart := false, narrowed := true }
def CoverLegsUptoSaid : Prop := coverLegsUptoRow.holds Tryz.pinned (OpenSpec.upto coverLegsSpec)

/-- 'stirruplaw18.CoverBars', WHERE WHAT IT READS IS OF BULK AT MOST 1048576: true; the input reads as it did. -/
def coverBarsUptoRow : OpenClaim := { program := "ytdldbdffaffjoaagreat", sum := "4440729de17dfd807cf909c836fdf1a1a575d23905f0500a0d5908f4b9a3a31f", func := "stirrup/stirruplaw18.CoverBars", spec := "coverBars", unfollowed := true, recurses := true, apart := false, narrowed := true }
def CoverBarsUptoSaid : Prop := coverBarsUptoRow.holds Tryz.pinned (OpenSpec.upto coverBarsSpec)

/-- 'stirruplaw18.CoverChecks', WHERE WHAT IT READS IS OF BULK AT MOST 1048576: true; the input reads as it did. -/
def coverChecksUptoRow : OpenClaim := { program := "ytdldbdffaffjoaagreat", sum := "4440729de17dfd807cf909c836fdf1a1a575d23905f0500a0d5908f4b9a3a31f", func := "stirrup/stirruplaw18.CoverChecks", spec := "coverChecks", unfollowed := true, recurses := true, apart := false, narrowed := true }
def CoverChecksUptoSaid : Prop := coverChecksUptoRow.holds Tryz.pinned (OpenSpec.upto coverChecksSpec)

/-- 'stirruplaw18.CoverLeast', WHERE WHAT IT READS IS OF BULK AT MOST 1048576: true; the input reads as it did. -/
def coverLeastUptoRow : OpenClaim := { program := "ytdldbdffaffjoaagreat", sum := "4440729de17dfd807cf909c836fdf1a1a575d23905f0500a0d5908f4b9a3a31f", func := "stirrup/stirruplaw18.CoverLeast", spec := "coverLeast", unfollowed := true, recurses := true, apart := false, narrowed := true }
def CoverLeastUptoSaid : Prop := coverLeastUptoRow.holds Tryz.pinned (OpenSpec.upto coverLeastSpec)

end Rows
end Go.Proofs.YtdldbdffaffjoaaGreat
