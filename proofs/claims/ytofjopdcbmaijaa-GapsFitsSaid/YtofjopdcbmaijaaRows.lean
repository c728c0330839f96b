/-
  No cell of these rows narrows 'for every input' (looked for: loops, veiled, ifaces, maps, wideKeys, modest, calm, conditions, laid).
  DERIVED. THE GIVEN ROWS OF THIS SEAT. 4 by the template 'for every input the law returns true; each argument reads behind the call as it read before'; 0 by the template 'total and deterministic' (their statements: YtofjopdcbmaijaaTotals.lean).
  GIVEN WITH THE SEED: the statements are not yours to turn. If you find one false, say at which input.
  Laid BY PROGRAM, IN A SANDBOX (cutbox-rows.mjs): the forced cells as the released guide's own fill.sh prints them over the translation b5717eb3b07e977e… (all of the seat's roots in one cut). By AI agents, Wed Nov 11 2026. No macro, syntax, notation, axiom, sorry.
-/
import Derived.Test.YtofjopdcbmaijaaChecked
import GoSem.Claim
import GoSem.ClaimJoined
import GoSem.ClaimMapViews
import Derived.JoinedTies
import Derived.KernelRfl
namespace Go.Proofs.Ytofjopdcbmaijaa
/- THE CELL 'sum', in the pinned program and in every row, IS THE sha256 OF THE DUMP (.gsa) THAT YtofjopdcbmaijaaProg.lean LOADS. Nothing in Lean hashes anything: it is a label: what it is worth is what the hold of that sum in a sandbox is worth. -/
noncomputable def Try.pinned : Pinned := { name := "ytofjopdcbmaijaa", sum := "b5717eb3b07e977ee6e3f32d277ffa49f02321179172a90abaeb2f4cee0de924", checked := Try.checked }
namespace Rows
def none {H : Type} : Left H := { results := [], args := [] }

/-- 'stirruplaw21.GapsForms': WHATEVER THE INPUT: true; the input reads as it did. -/
def gapsFormsSpec : ChangeSpec := { name := "gapsForms", fn := fun _ => fun
  | [d1, d2, d3, d4] => { results := [.lit (.bool true)], args := [d1, d2, d3, d4] }
  | _ => none }
def gapsFormsRow : OpenClaim := { program := "ytofjopdcbmaijaa", sum := "b5717eb3b07e977ee6e3f32d277ffa49f02321179172a90abaeb2f4cee0de924", func := "stirrup/stirruplaw21.GapsForms", spec := "gapsForms", unfollowed := true, recurses := true, apart := false }
def GapsFormsSaid : Prop := gapsFormsRow.holds Try.pinned (OpenSpec.ofChange gapsFormsSpec)

/-- ITS FALSE NEIGHBOUR: 'it returns false'. Refute it at one input. -/
def gapsFormsWrong : ChangeSpec := { name := "gapsForms", fn := fun _ => fun
  | [d1, d2, d3, d4] => { results := [.lit (.bool false)], args := [d1, d2, d3, d4] }
  | _ => none }
def GapsFormsWrongFalsely : Prop := gapsFormsRow.holds Try.pinned (OpenSpec.ofChange gapsFormsWrong)

/-- 'stirruplaw21.GapsFits': WHATEVER THE INPUT: true; the input reads as it did. -/
def gapsFitsSpec : ChangeSpec := { name := "gapsFits", fn := fun _ => fun
  | [d1, d2, d3, d4] => { results := [.lit (.bool true)], args := [d1, d2, d3, d4] }
  | _ => none }
def gapsFitsRow : OpenClaim := { program := "ytofjopdcbmaijaa", sum := "b5717eb3b07e977ee6e3f32d277ffa49f02321179172a90abaeb2f4cee0de924", func := "stirrup/stirruplaw21.GapsFits", spec := "gapsFits", unfollowed := true, recurses := true, apart := false }
def GapsFitsSaid : Prop := gapsFitsRow.holds Try.pinned (OpenSpec.ofChange gapsFitsSpec)

/-- ITS FALSE NEIGHBOUR: 'it returns false'. Refute it at one input. -/
def gapsFitsWrong : ChangeSpec := { name := "gapsFits", fn := fun _ => fun
  | [d1, d2, d3, d4] => { results := [.lit (.bool false)], args := [d1, d2, d3, d4] }
  | _ => none }
def GapsFitsWrongFalsely : Prop := gapsFitsRow.holds Try.pinned (OpenSpec.ofChange gapsFitsWrong)

/-- 'stirruplaw21.GapsNear': WHATEVER THE INPUT: true; the input reads as it did. -/
def gapsNearSpec : ChangeSpec := { name := "gapsNear", fn := fun _ => fun
  | [d1, d2, d3, d4, d5] => { results := [.lit (.bool true)], args := [d1, d2, d3, d4, d5] }
  | _ => none }
def gapsNearRow : OpenClaim := { program := "ytofjopdcbmaijaa", sum := "b5717eb3b07e977ee6e3f32d277ffa49f02321179172a90abaeb2f4cee0de924", func := "stirrup/stirruplaw21.GapsNear", spec := "gapsNear", unfollowed := true, recurses := true, apart := false }
def GapsNearSaid : Prop := gapsNearRow.holds Try.pinned (OpenSpec.ofChange gapsNearSpec)

/-- ITS FALSE NEIGHBOUR: 'it returns false'. Refute it at one input. -/
def gapsNearWrong : ChangeSpec := { name := "gapsNear", fn := fun _ => fun
  | [d1, d2, d3, d4, d5] => { results := [.lit (.bool false)], args := [d1, d2, d3, d4, d5] }
  | _ => none }
def GapsNearWrongFalsely : Prop := gapsNearRow.holds Try.pinned (OpenSpec.ofChange gapsNearWrong)

/-- 'stirruplaw21.GapsMoved': WHATEVER THE INPUT: true; the input reads as it did. -/
def gapsMovedSpec : ChangeSpec := { name := "gapsMoved", fn := fun _ => fun
  | [d1, d2, d3, d4] => { results := [.lit (.bool true)], args := [d1, d2, d3, d4] }
  | _ => none }
def gapsMovedRow : OpenClaim := { program := "ytofjopdcbmaijaa", sum := "b5717eb3b07e977ee6e3f32d277ffa49f02321179172a90abaeb2f4cee0de924", func := "stirrup/stirruplaw21.GapsMoved", spec := "gapsMoved", unfollowed := true, recurses := true, apart := false }
def GapsMovedSaid : Prop := gapsMovedRow.holds Try.pinned (OpenSpec.ofChange gapsMovedSpec)

/-- ITS FALSE NEIGHBOUR: 'it returns false'. Refute it at one input. -/
def gapsMovedWrong : ChangeSpec := { name := "gapsMoved", fn := fun _ => fun
  | [d1, d2, d3, d4] => { results := [.lit (.bool false)], args := [d1, d2, d3, d4] }
  | _ => none }
def GapsMovedWrongFalsely : Prop := gapsMovedRow.holds Try.pinned (OpenSpec.ofChange gapsMovedWrong)

/- THE SECOND FORM. 'bulk': how many values and letters a reading holds, each counted each time it is reached (what is shared counts as often as it is met; a slice's spare places count too). A statement '..UptoSaid' is the law's where the arguments, and the package variables that the reading takes, are together of bulk at most 1048576: NARROWER than '..Said'. Prove '..Said' where nothing that the law and all that it calls make is longer than what came in: it says more and counts as full. Else prove '..UptoSaid'. A law counts once. -/
mutual
def uptoBulk {H : Type} : DataW H → Nat
  | .lit (.string bytes) => bytes.length + 1
  | .lit _ => 1
  | .nil => 1
  | .ptr d => uptoBulk d + 1
  | .slice elems spare => uptoBulkAll elems + uptoBulkAll spare + 1
  | .agg parts => uptoBulkAll parts + 1
  | .iface _ d => uptoBulk d + 1
  | .map entries => uptoBulkEntries entries + 1
  | .held _ => 1
def uptoBulkAll {H : Type} : List (DataW H) → Nat
  | [] => 0
  | d :: r => uptoBulk d + uptoBulkAll r
def uptoBulkEntries {H : Type} : List (Lit × DataW H) → Nat
  | [] => 0
  | x :: r => uptoBulkEntry x + uptoBulkEntries r
def uptoBulkEntry {H : Type} : Lit × DataW H → Nat
  | (.string bytes, d) => bytes.length + uptoBulk d + 1
  | (_, d) => uptoBulk d + 1
 end
def uptoSmall : (H : Type) → List (DataW H) → Bool := fun _ ds => decide (uptoBulkAll ds ≤ 1048576)
def OpenSpec.upto (s : _root_.Go.ChangeSpec) : _root_.Go.OpenSpec := { _root_.Go.OpenSpec.ofChange s with cond := some uptoSmall }

/-- 'stirruplaw21.GapsForms', WHERE WHAT IT READS IS OF BULK AT MOST 1048576: true; the input reads as it did. -/
def gapsFormsUptoRow : OpenClaim := { program := "ytofjopdcbmaijaa", sum := "b5717eb3b07e977ee6e3f32d277ffa49f02321179172a90abaeb2f4cee0de924", func := "stirrup/stirruplaw21.GapsForms", spec := "gapsForms", unfollowed := true, recurses := true, apart := false, narrowed := true }
def GapsFormsUptoSaid : Prop := gapsFormsUptoRow.holds Try.pinned (OpenSpec.upto gapsFormsSpec)

/-- 'stirruplaw21.GapsFits', WHERE WHAT IT READS IS OF BULK AT MOST 1048576: true; the input reads as it did. -/
def gapsFitsUptoRow : OpenClaim := { program := "ytofjopdcbmaijaa", sum := "b5717eb3b07e977ee6e3f32d277ffa49f02321179172a90abaeb2f4cee0de924", func := "stirrup/stirruplaw21.GapsFits", spec := "gapsFits", unfollowed := true, recurses := true, apart := false, narrowed := true }
def GapsFitsUptoSaid : Prop := gapsFitsUptoRow.holds Try.pinned (OpenSpec.upto gapsFitsSpec)

/-- 'stirruplaw21.GapsNear', WHERE WHAT IT READS IS OF BULK AT MOST 1048576: true; the input reads as it did. -/
def gapsNearUptoRow : OpenClaim := { program := "ytofjopdcbmaijaa", sum := "b5717eb3b07e977ee6e3f32d277ffa49f02321179172a90abaeb2f4cee0de924", func := "stirrup/stirruplaw21.GapsNear", spec := "gapsNear", unfollowed := true, recurses := true, apart := false, narrowed := true }
def GapsNearUptoSaid : Prop := gapsNearUptoRow.holds Try.pinned (OpenSpec.upto gapsNearSpec)

/-- 'stirruplaw21.GapsMoved', WHERE WHAT IT READS IS OF BULK AT MOST 1048576: true; the input reads as it did. -/
def gapsMovedUptoRow : OpenClaim := { program := "ytofjopdcbmaijaa", sum := "b5717eb3b07e977ee6e3f32d277ffa49f02321179172a90abaeb2f4cee0de924", func := "stirrup/stirruplaw21.GapsMoved", spec := "gapsMoved", unfollowed := true, recurses := true, apart := false, narrowed := true }
def GapsMovedUptoSaid : Prop := gapsMovedUptoRow.holds Try.pinned (OpenSpec.upto gapsMovedSpec)

end Rows
end Go.Proofs.Ytofjopdcbmaijaa
