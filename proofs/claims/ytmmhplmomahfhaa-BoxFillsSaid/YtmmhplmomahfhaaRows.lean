/-
  No cell of these rows narrows 'for every input' (looked for: loops, veiled, ifaces, maps, wideKeys, modest, calm, conditions, laid).
  DERIVED. THE GIVEN ROWS OF THIS SEAT. 7 by the template 'for every input the law returns true; each argument reads behind the call as it read before'; 0 by the template 'total and deterministic' (their statements: YtmmhplmomahfhaaTotals.lean).
  GIVEN WITH THE SEED: the statements are not yours to turn. If you find one false, say at which input.
  Laid BY PROGRAM, IN A SANDBOX (cutbox-rows.mjs): the forced cells as the released guide's own fill.sh prints them over the translation a21e02a2af0e53b2… (all of the seat's roots in one cut). By AI agents, Wed Nov 11 2026. No macro, syntax, notation, axiom, sorry.
-/
import Derived.Test.YtmmhplmomahfhaaChecked
import GoSem.Claim
import GoSem.ClaimJoined
import GoSem.ClaimMapViews
import Derived.JoinedTies
import Derived.KernelRfl
namespace Go.Proofs.Ytmmhplmomahfhaa
/- THE CELL 'sum', in the pinned program and in every row, IS THE sha256 OF THE DUMP (.gsa) THAT YtmmhplmomahfhaaProg.lean LOADS. Nothing in Lean hashes anything: it is a label: what it is worth is what the hold of that sum in a sandbox is worth. -/
noncomputable def Try.pinned : Pinned := { name := "ytmmhplmomahfhaa", sum := "a21e02a2af0e53b29253a17d9de406878fba1b14f29253c4235eb29a0d3a9ad7", checked := Try.checked }
namespace Rows
def none {H : Type} : Left H := { results := [], args := [] }

/-- 'stirruplaw09.BoxDistances': WHATEVER THE INPUT: true; the input reads as it did. -/
def boxDistancesSpec : ChangeSpec := { name := "boxDistances", fn := fun _ => fun
  | [d1, d2] => { results := [.lit (.bool true)], args := [d1, d2] }
  | _ => none }
def boxDistancesRow : OpenClaim := { program := "ytmmhplmomahfhaa", sum := "a21e02a2af0e53b29253a17d9de406878fba1b14f29253c4235eb29a0d3a9ad7", func := "stirrup/stirruplaw09.BoxDistances", spec := "boxDistances", unfollowed := true, recurses := true, apart := false }
def BoxDistancesSaid : Prop := boxDistancesRow.holds Try.pinned (OpenSpec.ofChange boxDistancesSpec)

/-- ITS FALSE NEIGHBOUR: 'it returns false'. Refute it at one input. -/
def boxDistancesWrong : ChangeSpec := { name := "boxDistances", fn := fun _ => fun
  | [d1, d2] => { results := [.lit (.bool false)], args := [d1, d2] }
  | _ => none }
def BoxDistancesWrongFalsely : Prop := boxDistancesRow.holds Try.pinned (OpenSpec.ofChange boxDistancesWrong)

/-- 'stirruplaw09.BoxCovers': WHATEVER THE INPUT: true; the input reads as it did. -/
def boxCoversSpec : ChangeSpec := { name := "boxCovers", fn := fun _ => fun
  | [d1, d2] => { results := [.lit (.bool true)], args := [d1, d2] }
  | _ => none }
def boxCoversRow : OpenClaim := { program := "ytmmhplmomahfhaa", sum := "a21e02a2af0e53b29253a17d9de406878fba1b14f29253c4235eb29a0d3a9ad7", func := "stirrup/stirruplaw09.BoxCovers", spec := "boxCovers", unfollowed := true, recurses := true, apart := false }
def BoxCoversSaid : Prop := boxCoversRow.holds Try.pinned (OpenSpec.ofChange boxCoversSpec)

/-- ITS FALSE NEIGHBOUR: 'it returns false'. Refute it at one input. -/
def boxCoversWrong : ChangeSpec := { name := "boxCovers", fn := fun _ => fun
  | [d1, d2] => { results := [.lit (.bool false)], args := [d1, d2] }
  | _ => none }
def BoxCoversWrongFalsely : Prop := boxCoversRow.holds Try.pinned (OpenSpec.ofChange boxCoversWrong)

/-- 'stirruplaw09.BoxNearest': WHATEVER THE INPUT: true; the input reads as it did. -/
def boxNearestSpec : ChangeSpec := { name := "boxNearest", fn := fun _ => fun
  | [d1, d2, d3, d4, d5] => { results := [.lit (.bool true)], args := [d1, d2, d3, d4, d5] }
  | _ => none }
def boxNearestRow : OpenClaim := { program := "ytmmhplmomahfhaa", sum := "a21e02a2af0e53b29253a17d9de406878fba1b14f29253c4235eb29a0d3a9ad7", func := "stirrup/stirruplaw09.BoxNearest", spec := "boxNearest", unfollowed := true, recurses := true, apart := false }
def BoxNearestSaid : Prop := boxNearestRow.holds Try.pinned (OpenSpec.ofChange boxNearestSpec)

/-- ITS FALSE NEIGHBOUR: 'it returns false'. Refute it at one input. -/
def boxNearestWrong : ChangeSpec := { name := "boxNearest", fn := fun _ => fun
  | [d1, d2, d3, d4, d5] => { results := [.lit (.bool false)], args := [d1, d2, d3, d4, d5] }
  | _ => none }
def BoxNearestWrongFalsely : Prop := boxNearestRow.holds Try.pinned (OpenSpec.ofChange boxNearestWrong)

/-- 'stirruplaw09.BoxFills': WHATEVER THE INPUT: true; the input reads as it did. -/
def boxFillsSpec : ChangeSpec := { name := "boxFills", fn := fun _ => fun
  | [d1, d2, d3, d4, d5] => { results := [.lit (.bool true)], args := [d1, d2, d3, d4, d5] }
  | _ => none }
def boxFillsRow : OpenClaim := { program := "ytmmhplmomahfhaa", sum := "a21e02a2af0e53b29253a17d9de406878fba1b14f29253c4235eb29a0d3a9ad7", func := "stirrup/stirruplaw09.BoxFills", spec := "boxFills", unfollowed := true, recurses := true, apart := false }
def BoxFillsSaid : Prop := boxFillsRow.holds Try.pinned (OpenSpec.ofChange boxFillsSpec)

/-- ITS FALSE NEIGHBOUR: 'it returns false'. Refute it at one input. -/
def boxFillsWrong : ChangeSpec := { name := "boxFills", fn := fun _ => fun
  | [d1, d2, d3, d4, d5] => { results := [.lit (.bool false)], args := [d1, d2, d3, d4, d5] }
  | _ => none }
def BoxFillsWrongFalsely : Prop := boxFillsRow.holds Try.pinned (OpenSpec.ofChange boxFillsWrong)

/-- 'stirruplaw09.BoxGrown': WHATEVER THE INPUT: true; the input reads as it did. -/
def boxGrownSpec : ChangeSpec := { name := "boxGrown", fn := fun _ => fun
  | [d1, d2, d3, d4] => { results := [.lit (.bool true)], args := [d1, d2, d3, d4] }
  | _ => none }
def boxGrownRow : OpenClaim := { program := "ytmmhplmomahfhaa", sum := "a21e02a2af0e53b29253a17d9de406878fba1b14f29253c4235eb29a0d3a9ad7", func := "stirrup/stirruplaw09.BoxGrown", spec := "boxGrown", unfollowed := true, recurses := true, apart := false }
def BoxGrownSaid : Prop := boxGrownRow.holds Try.pinned (OpenSpec.ofChange boxGrownSpec)

/-- ITS FALSE NEIGHBOUR: 'it returns false'. Refute it at one input. -/
def boxGrownWrong : ChangeSpec := { name := "boxGrown", fn := fun _ => fun
  | [d1, d2, d3, d4] => { results := [.lit (.bool false)], args := [d1, d2, d3, d4] }
  | _ => none }
def BoxGrownWrongFalsely : Prop := boxGrownRow.holds Try.pinned (OpenSpec.ofChange boxGrownWrong)

/-- 'stirruplaw09.BoxMeets': WHATEVER THE INPUT: true; the input reads as it did. -/
def boxMeetsSpec : ChangeSpec := { name := "boxMeets", fn := fun _ => fun
  | [d1, d2] => { results := [.lit (.bool true)], args := [d1, d2] }
  | _ => none }
def boxMeetsRow : OpenClaim := { program := "ytmmhplmomahfhaa", sum := "a21e02a2af0e53b29253a17d9de406878fba1b14f29253c4235eb29a0d3a9ad7", func := "stirrup/stirruplaw09.BoxMeets", spec := "boxMeets", unfollowed := true, recurses := true, apart := false }
def BoxMeetsSaid : Prop := boxMeetsRow.holds Try.pinned (OpenSpec.ofChange boxMeetsSpec)

/-- ITS FALSE NEIGHBOUR: 'it returns false'. Refute it at one input. -/
def boxMeetsWrong : ChangeSpec := { name := "boxMeets", fn := fun _ => fun
  | [d1, d2] => { results := [.lit (.bool false)], args := [d1, d2] }
  | _ => none }
def BoxMeetsWrongFalsely : Prop := boxMeetsRow.holds Try.pinned (OpenSpec.ofChange boxMeetsWrong)

/-- 'stirruplaw09.BoxForms': WHATEVER THE INPUT: true; the input reads as it did. -/
def boxFormsSpec : ChangeSpec := { name := "boxForms", fn := fun _ => fun
  | [d1, d2, d3, d4] => { results := [.lit (.bool true)], args := [d1, d2, d3, d4] }
  | _ => none }
def boxFormsRow : OpenClaim := { program := "ytmmhplmomahfhaa", sum := "a21e02a2af0e53b29253a17d9de406878fba1b14f29253c4235eb29a0d3a9ad7", func := "stirrup/stirruplaw09.BoxForms", spec := "boxForms", unfollowed := true, recurses := true, apart := false }
def BoxFormsSaid : Prop := boxFormsRow.holds Try.pinned (OpenSpec.ofChange boxFormsSpec)

/-- ITS FALSE NEIGHBOUR: 'it returns false'. Refute it at one input. -/
def boxFormsWrong : ChangeSpec := { name := "boxForms", fn := fun _ => fun
  | [d1, d2, d3, d4] => { results := [.lit (.bool false)], args := [d1, d2, d3, d4] }
  | _ => none }
def BoxFormsWrongFalsely : Prop := boxFormsRow.holds Try.pinned (OpenSpec.ofChange boxFormsWrong)

/- THE SECOND FORM. 'bulk': how many values and letters a reading holds, each counted each time it is reached (what is shared counts as often as it is met; a slice's spare places count too). A statement '..UptoSaid' is the law's where the arguments, and the package variables that the reading takes, are together of bulk at most 1048576: NARROWER than '..Said'. Prove '..Said' where nothing that the law and all that it calls make is longer than what came in: it says more and counts as full. Else prove '..UptoSaid'. A law counts once. -/
mutual
def uptoBulk {H : Type} : DataW H → Nat
  | .lit (.string bytes) => bytes.length + 1
  | .lit _ => 1
  | .nil => 1
  | .ptr d => uptoBulk d + 1
  | .slice elems spare => uptoBulkAll elems + uptoBulkAll spare + 1
  | .agg parts => uptoBulkAll parts + 1
  | .iface _ d => uptoBulk d + 1
  | .map entries => uptoBulkEntries entries + 1
  | .held _ => 1
def uptoBulkAll {H : Type} : List (DataW H) → Nat
  | [] => 0
  | d :: r => uptoBulk d + uptoBulkAll r
def uptoBulkEntries {H : Type} : List (Lit × DataW H) → Nat
  | [] => 0
  | x :: r => uptoBulkEntry x + uptoBulkEntries r
def uptoBulkEntry {H : Type} : Lit × DataW H → Nat
  | (.string bytes, d) => bytes.length + uptoBulk d + 1
  | (_, d) => uptoBulk d + 1
 end
def uptoSmall : (H : Type) → List (DataW H) → Bool := fun _ ds => decide (uptoBulkAll ds ≤ 1048576)
def OpenSpec.upto (s : _root_.Go.ChangeSpec) : _root_.Go.OpenSpec := { _root_.Go.OpenSpec.ofChange s with cond := some uptoSmall }

/-- 'stirruplaw09.BoxDistances', WHERE WHAT IT READS IS OF BULK AT MOST 1048576: true; the input reads as it did. -/
def boxDistancesUptoRow : OpenClaim := { program := "ytmmhplmomahfhaa", sum := "a21e02a2af0e53b29253a17d9de406878fba1b14f29253c4235eb29a0d3a9ad7", func := "stirrup/stirruplaw09.BoxDistances", spec := "boxDistances", unfollowed := true, recurses := true, apart := false, narrowed := true }
def BoxDistancesUptoSaid : Prop := boxDistancesUptoRow.holds Try.pinned (OpenSpec.upto boxDistancesSpec)

/-- 'stirruplaw09.BoxCovers', WHERE WHAT IT READS IS OF BULK AT MOST 1048576: true; the input reads as it did. -/
def boxCoversUptoRow : OpenClaim := { program := "ytmmhplmomahfhaa", sum := "a21e02a2af0e53b29253a17d9de406878fba1b14f29253c4235eb29a0d3a9ad7", func := "stirrup/stirruplaw09.BoxCovers", spec := "boxCovers", unfollowed := true, recurses := true, apart := false, narrowed := true }
def BoxCoversUptoSaid : Prop := boxCoversUptoRow.holds Try.pinned (OpenSpec.upto boxCoversSpec)

/-- 'stirruplaw09.BoxNearest', WHERE WHAT IT READS IS OF BULK AT MOST 1048576: true; the input reads as it did. -/
def boxNearestUptoRow : OpenClaim := { program := "ytmmhplmomahfhaa", sum := "a21e02a2af0e53b29253a17d9de406878fba1b14f29253c4235eb29a0d3a9ad7", func := "stirrup/stirruplaw09.BoxNearest", spec := "boxNearest", unfollowed := true, recurses := true, apart := false, narrowed := true }
def BoxNearestUptoSaid : Prop := boxNearestUptoRow.holds Try.pinned (OpenSpec.upto boxNearestSpec)

/-- 'stirruplaw09.BoxFills', WHERE WHAT IT READS IS OF BULK AT MOST 1048576: true; the input reads as it did. -/
def boxFillsUptoRow : OpenClaim := { program := "ytmmhplmomahfhaa", sum := "a21e02a2af0e53b29253a17d9de406878fba1b14f29253c4235eb29a0d3a9ad7", func := "stirrup/stirruplaw09.BoxFills", spec := "boxFills", unfollowed := true, recurses := true, apart := false, narrowed := true }
def BoxFillsUptoSaid : Prop := boxFillsUptoRow.holds Try.pinned (OpenSpec.upto boxFillsSpec)

/-- 'stirruplaw09.BoxGrown', WHERE WHAT IT READS IS OF BULK AT MOST 1048576: true; the input reads as it did. -/
def boxGrownUptoRow : OpenClaim := { program := "ytmmhplmomahfhaa", sum := "a21e02a2af0e53b29253a17d9de406878fba1b14f29253c4235eb29a0d3a9ad7", func := "stirrup/stirruplaw09.BoxGrown", spec := "boxGrown", unfollowed := true, recurses := true, apart := false, narrowed := true }
def BoxGrownUptoSaid : Prop := boxGrownUptoRow.holds Try.pinned (OpenSpec.upto boxGrownSpec)

/-- 'stirruplaw09.BoxMeets', WHERE WHAT IT READS IS OF BULK AT MOST 1048576: true; the input reads as it did. -/
def boxMeetsUptoRow : OpenClaim := { program := "ytmmhplmomahfhaa", sum := "a21e02a2af0e53b29253a17d9de406878fba1b14f29253c4235eb29a0d3a9ad7", func := "stirrup/stirruplaw09.BoxMeets", spec := "boxMeets", unfollowed := true, recurses := true, apart := false, narrowed := true }
def BoxMeetsUptoSaid : Prop := boxMeetsUptoRow.holds Try.pinned (OpenSpec.upto boxMeetsSpec)

/-- 'stirruplaw09.BoxForms', WHERE WHAT IT READS IS OF BULK AT MOST 1048576: true; the input reads as it did. -/
def boxFormsUptoRow : OpenClaim := { program := "ytmmhplmomahfhaa", sum := "a21e02a2af0e53b29253a17d9de406878fba1b14f29253c4235eb29a0d3a9ad7", func := "stirrup/stirruplaw09.BoxForms", spec := "boxForms", unfollowed := true, recurses := true, apart := false, narrowed := true }
def BoxFormsUptoSaid : Prop := boxFormsUptoRow.holds Try.pinned (OpenSpec.upto boxFormsSpec)

end Rows
end Go.Proofs.Ytmmhplmomahfhaa
