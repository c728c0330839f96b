/-
  No cell of these rows narrows 'for every input' (looked for: loops, veiled, ifaces, maps, wideKeys, modest, calm, conditions, laid).
  DERIVED. THE GIVEN ROWS OF THIS SEAT. 6 by the template 'for every input the law returns true; each argument reads behind the call as it read before'; 0 by the template 'total and deterministic' (their statements: YtafkibnkpcmmgaaTotals.lean).
  GIVEN WITH THE SEED: the statements are not yours to turn. If you find one false, say at which input.
  Laid BY PROGRAM, IN A SANDBOX (cutbox-rows.mjs): the forced cells as the released guide's own fill.sh prints them over the translation 9a89d59da93a11fc… (all of the seat's roots in one cut). By AI agents, Wed Nov 11 2026. No macro, syntax, notation, axiom, sorry.
-/
import Derived.Test.YtafkibnkpcmmgaaChecked
import GoSem.Claim
import GoSem.ClaimJoined
import GoSem.ClaimMapViews
import Derived.JoinedTies
import Derived.KernelRfl
namespace Go.Proofs.Ytafkibnkpcmmgaa
/- THE CELL 'sum', in the pinned program and in every row, IS THE sha256 OF THE DUMP (.gsa) THAT YtafkibnkpcmmgaaProg.lean LOADS. Nothing in Lean hashes anything: it is a label: what it is worth is what the hold of that sum in a sandbox is worth. -/
noncomputable def Try.pinned : Pinned := { name := "ytafkibnkpcmmgaa", sum := "9a89d59da93a11fcab53d53626af9ee622ffc6941fadb9fbf8a7b4ec83a0a11d", checked := Try.checked }
namespace Rows
def none {H : Type} : Left H := { results := [], args := [] }

/-- 'stirruplaw17.SolidHalves': WHATEVER THE INPUT: true; the input reads as it did. -/
def solidHalvesSpec : ChangeSpec := { name := "solidHalves", fn := fun _ => fun
  | [d1, d2, d3, d4, d5, d6] => { results := [.lit (.bool true)], args := [d1, d2, d3, d4, d5, d6] }
  | _ => none }
def solidHalvesRow : OpenClaim := { program := "ytafkibnkpcmmgaa", sum := "9a89d59da93a11fcab53d53626af9ee622ffc6941fadb9fbf8a7b4ec83a0a11d", func := "stirrup/stirruplaw17.SolidHalves", spec := "solidHalves", unfollowed := true, recurses := true, apart := false }
def SolidHalvesSaid : Prop := solidHalvesRow.holds Try.pinned (OpenSpec.ofChange solidHalvesSpec)

/-- ITS FALSE NEIGHBOUR: 'it returns false'. Refute it at one input. -/
def solidHalvesWrong : ChangeSpec := { name := "solidHalves", fn := fun _ => fun
  | [d1, d2, d3, d4, d5, d6] => { results := [.lit (.bool false)], args := [d1, d2, d3, d4, d5, d6] }
  | _ => none }
def SolidHalvesWrongFalsely : Prop := solidHalvesRow.holds Try.pinned (OpenSpec.ofChange solidHalvesWrong)

/-- 'stirruplaw17.SolidSlices': WHATEVER THE INPUT: true; the input reads as it did. -/
def solidSlicesSpec : ChangeSpec := { name := "solidSlices", fn := fun _ => fun
  | [d] => { results := [.lit (.bool true)], args := [d] }
  | _ => none }
def solidSlicesRow : OpenClaim := { program := "ytafkibnkpcmmgaa", sum := "9a89d59da93a11fcab53d53626af9ee622ffc6941fadb9fbf8a7b4ec83a0a11d", func := "stirrup/stirruplaw17.SolidSlices", spec := "solidSlices", unfollowed := true, recurses := true, apart := false }
def SolidSlicesSaid : Prop := solidSlicesRow.holds Try.pinned (OpenSpec.ofChange solidSlicesSpec)

/-- ITS FALSE NEIGHBOUR: 'it returns false'. Refute it at one input. -/
def solidSlicesWrong : ChangeSpec := { name := "solidSlices", fn := fun _ => fun
  | [d] => { results := [.lit (.bool false)], args := [d] }
  | _ => none }
def SolidSlicesWrongFalsely : Prop := solidSlicesRow.holds Try.pinned (OpenSpec.ofChange solidSlicesWrong)

/-- 'stirruplaw17.SolidHoles': WHATEVER THE INPUT: true; the input reads as it did. -/
def solidHolesSpec : ChangeSpec := { name := "solidHoles", fn := fun _ => fun
  | [d1, d2, d3, d4, d5] => { results := [.lit (.bool true)], args := [d1, d2, d3, d4, d5] }
  | _ => none }
def solidHolesRow : OpenClaim := { program := "ytafkibnkpcmmgaa", sum := "9a89d59da93a11fcab53d53626af9ee622ffc6941fadb9fbf8a7b4ec83a0a11d", func := "stirrup/stirruplaw17.SolidHoles", spec := "solidHoles", unfollowed := true, recurses := true, apart := false }
def SolidHolesSaid : Prop := solidHolesRow.holds Try.pinned (OpenSpec.ofChange solidHolesSpec)

/-- ITS FALSE NEIGHBOUR: 'it returns false'. Refute it at one input. -/
def solidHolesWrong : ChangeSpec := { name := "solidHoles", fn := fun _ => fun
  | [d1, d2, d3, d4, d5] => { results := [.lit (.bool false)], args := [d1, d2, d3, d4, d5] }
  | _ => none }
def SolidHolesWrongFalsely : Prop := solidHolesRow.holds Try.pinned (OpenSpec.ofChange solidHolesWrong)

/-- 'stirruplaw17.SolidForms': WHATEVER THE INPUT: true; the input reads as it did. -/
def solidFormsSpec : ChangeSpec := { name := "solidForms", fn := fun _ => fun
  | [d1, d2, d3] => { results := [.lit (.bool true)], args := [d1, d2, d3] }
  | _ => none }
def solidFormsRow : OpenClaim := { program := "ytafkibnkpcmmgaa", sum := "9a89d59da93a11fcab53d53626af9ee622ffc6941fadb9fbf8a7b4ec83a0a11d", func := "stirrup/stirruplaw17.SolidForms", spec := "solidForms", unfollowed := true, recurses := true, apart := false }
def SolidFormsSaid : Prop := solidFormsRow.holds Try.pinned (OpenSpec.ofChange solidFormsSpec)

/-- ITS FALSE NEIGHBOUR: 'it returns false'. Refute it at one input. -/
def solidFormsWrong : ChangeSpec := { name := "solidForms", fn := fun _ => fun
  | [d1, d2, d3] => { results := [.lit (.bool false)], args := [d1, d2, d3] }
  | _ => none }
def SolidFormsWrongFalsely : Prop := solidFormsRow.holds Try.pinned (OpenSpec.ofChange solidFormsWrong)

/-- 'stirruplaw17.SolidMeasures': WHATEVER THE INPUT: true; the input reads as it did. -/
def solidMeasuresSpec : ChangeSpec := { name := "solidMeasures", fn := fun _ => fun
  | [d1, d2] => { results := [.lit (.bool true)], args := [d1, d2] }
  | _ => none }
def solidMeasuresRow : OpenClaim := { program := "ytafkibnkpcmmgaa", sum := "9a89d59da93a11fcab53d53626af9ee622ffc6941fadb9fbf8a7b4ec83a0a11d", func := "stirrup/stirruplaw17.SolidMeasures", spec := "solidMeasures", unfollowed := true, recurses := true, apart := false }
def SolidMeasuresSaid : Prop := solidMeasuresRow.holds Try.pinned (OpenSpec.ofChange solidMeasuresSpec)

/-- ITS FALSE NEIGHBOUR: 'it returns false'. Refute it at one input. -/
def solidMeasuresWrong : ChangeSpec := { name := "solidMeasures", fn := fun _ => fun
  | [d1, d2] => { results := [.lit (.bool false)], args := [d1, d2] }
  | _ => none }
def SolidMeasuresWrongFalsely : Prop := solidMeasuresRow.holds Try.pinned (OpenSpec.ofChange solidMeasuresWrong)

/-- 'stirruplaw17.SolidCells': WHATEVER THE INPUT: true; the input reads as it did. -/
def solidCellsSpec : ChangeSpec := { name := "solidCells", fn := fun _ => fun
  | [d1, d2] => { results := [.lit (.bool true)], args := [d1, d2] }
  | _ => none }
def solidCellsRow : OpenClaim := { program := "ytafkibnkpcmmgaa", sum := "9a89d59da93a11fcab53d53626af9ee622ffc6941fadb9fbf8a7b4ec83a0a11d", func := "stirrup/stirruplaw17.SolidCells", spec := "solidCells", unfollowed := true, recurses := true, apart := false }
def SolidCellsSaid : Prop := solidCellsRow.holds Try.pinned (OpenSpec.ofChange solidCellsSpec)

/-- ITS FALSE NEIGHBOUR: 'it returns false'. Refute it at one input. -/
def solidCellsWrong : ChangeSpec := { name := "solidCells", fn := fun _ => fun
  | [d1, d2] => { results := [.lit (.bool false)], args := [d1, d2] }
  | _ => none }
def SolidCellsWrongFalsely : Prop := solidCellsRow.holds Try.pinned (OpenSpec.ofChange solidCellsWrong)

/- THE SECOND FORM. 'bulk': how many values and letters a reading holds, each counted each time it is reached (what is shared counts as often as it is met; a slice's spare places count too). A statement '..UptoSaid' is the law's where the arguments, and the package variables that the reading takes, are together of bulk at most 1048576: NARROWER than '..Said'. Prove '..Said' where nothing that the law and all that it calls make is longer than what came in: it says more and counts as full. Else prove '..UptoSaid'. A law counts once. -/
mutual
def uptoBulk {H : Type} : DataW H → Nat
  | .lit (.string bytes) => bytes.length + 1
  | .lit _ => 1
  | .nil => 1
  | .ptr d => uptoBulk d + 1
  | .slice elems spare => uptoBulkAll elems + uptoBulkAll spare + 1
  | .agg parts => uptoBulkAll parts + 1
  | .iface _ d => uptoBulk d + 1
  | .map entries => uptoBulkEntries entries + 1
  | .held _ => 1
def uptoBulkAll {H : Type} : List (DataW H) → Nat
  | [] => 0
  | d :: r => uptoBulk d + uptoBulkAll r
def uptoBulkEntries {H : Type} : List (Lit × DataW H) → Nat
  | [] => 0
  | x :: r => uptoBulkEntry x + uptoBulkEntries r
def uptoBulkEntry {H : Type} : Lit × DataW H → Nat
  | (.string bytes, d) => bytes.length + uptoBulk d + 1
  | (_, d) => uptoBulk d + 1
 end
def uptoSmall : (H : Type) → List (DataW H) → Bool := fun _ ds => decide (uptoBulkAll ds ≤ 1048576)
def OpenSpec.upto (s : _root_.Go.ChangeSpec) : _root_.Go.OpenSpec := { _root_.Go.OpenSpec.ofChange s with cond := some uptoSmall }

/-- 'stirruplaw17.SolidHalves', WHERE WHAT IT READS IS OF BULK AT MOST 1048576: true; the input reads as it did. -/
def solidHalvesUptoRow : OpenClaim := { program := "ytafkibnkpcmmgaa", sum := "9a89d59da93a11fcab53d53626af9ee622ffc6941fadb9fbf8a7b4ec83a0a11d", func := "stirrup/stirruplaw17.SolidHalves", spec := "solidHalves", unfollowed := true, recurses := true, apart := false, narrowed := true }
def SolidHalvesUptoSaid : Prop := solidHalvesUptoRow.holds Try.pinned (OpenSpec.upto solidHalvesSpec)

/-- 'stirruplaw17.SolidSlices', WHERE WHAT IT READS IS OF BULK AT MOST 1048576: true; the input reads as it did. -/
def solidSlicesUptoRow : OpenClaim := { program := "ytafkibnkpcmmgaa", sum := "9a89d59da93a11fcab53d53626af9ee622ffc6941fadb9fbf8a7b4ec83a0a11d", func := "stirrup/stirruplaw17.SolidSlices", spec := "solidSlices", unfollowed := true, recurses := true, apart := false, narrowed := true }
def SolidSlicesUptoSaid : Prop := solidSlicesUptoRow.holds Try.pinned (OpenSpec.upto solidSlicesSpec)

/-- 'stirruplaw17.SolidHoles', WHERE WHAT IT READS IS OF BULK AT MOST 1048576: true; the input reads as it did. -/
def solidHolesUptoRow : OpenClaim := { program := "ytafkibnkpcmmgaa", sum := "9a89d59da93a11fcab53d53626af9ee622ffc6941fadb9fbf8a7b4ec83a0a11d", func := "stirrup/stirruplaw17.SolidHoles", spec := "solidHoles", unfollowed := true, recurses := true, apart := false, narrowed := true }
def SolidHolesUptoSaid : Prop := solidHolesUptoRow.holds Try.pinned (OpenSpec.upto solidHolesSpec)

/-- 'stirruplaw17.SolidForms', WHERE WHAT IT READS IS OF BULK AT MOST 1048576: true; the input reads as it did. -/
def solidFormsUptoRow : OpenClaim := { program := "ytafkibnkpcmmgaa", sum := "9a89d59da93a11fcab53d53626af9ee622ffc6941fadb9fbf8a7b4ec83a0a11d", func := "stirrup/stirruplaw17.SolidForms", spec := "solidForms", unfollowed := true, recurses := true, apart := false, narrowed := true }
def SolidFormsUptoSaid : Prop := solidFormsUptoRow.holds Try.pinned (OpenSpec.upto solidFormsSpec)

/-- 'stirruplaw17.SolidMeasures', WHERE WHAT IT READS IS OF BULK AT MOST 1048576: true; the input reads as it did. -/
def solidMeasuresUptoRow : OpenClaim := { program := "ytafkibnkpcmmgaa", sum := "9a89d59da93a11fcab53d53626af9ee622ffc6941fadb9fbf8a7b4ec83a0a11d", func := "stirrup/stirruplaw17.SolidMeasures", spec := "solidMeasures", unfollowed := true, recurses := true, apart := false, narrowed := true }
def SolidMeasuresUptoSaid : Prop := solidMeasuresUptoRow.holds Try.pinned (OpenSpec.upto solidMeasuresSpec)

/-- 'stirruplaw17.SolidCells', WHERE WHAT IT READS IS OF BULK AT MOST 1048576: true; the input reads as it did. -/
def solidCellsUptoRow : OpenClaim := { program := "ytafkibnkpcmmgaa", sum := "9a89d59da93a11fcab53d53626af9ee622ffc6941fadb9fbf8a7b4ec83a0a11d", func := "stirrup/stirruplaw17.SolidCells", spec := "solidCells", unfollowed := true, recurses := true, apart := false, narrowed := true }
def SolidCellsUptoSaid : Prop := solidCellsUptoRow.holds Try.pinned (OpenSpec.upto solidCellsSpec)

end Rows
end Go.Proofs.Ytafkibnkpcmmgaa
