/-
  No cell of these rows narrows 'for every input' (looked for: loops, veiled, ifaces, maps, wideKeys, modest, calm, conditions, laid).
  DERIVED. THE GIVEN ROWS OF THIS SEAT. 8 by the template 'for every input the law returns true; each argument reads behind the call as it read before'; 0 by the template 'total and deterministic' (their statements: YtolcpkpfndnkbaaTotals.lean).
  GIVEN WITH THE SEED: the statements are not yours to turn. If you find one false, say at which input.
  Laid BY PROGRAM, IN A SANDBOX (cutbox-rows.mjs): the forced cells as the released guide's own fill.sh prints them over the translation 2ec48dc73cb20a60… (all of the seat's roots in one cut). By AI agents, Wed Nov 11 2026. No macro, syntax, notation, axiom, sorry.
-/
import Derived.Test.YtolcpkpfndnkbaaChecked
import GoSem.Claim
import GoSem.ClaimJoined
import GoSem.ClaimMapViews
import Derived.JoinedTies
import Derived.KernelRfl
namespace Go.Proofs.Ytolcpkpfndnkbaa
/- THE CELL 'sum', in the pinned program and in every row, IS THE sha256 OF THE DUMP (.gsa) THAT YtolcpkpfndnkbaaProg.lean LOADS. Nothing in Lean hashes anything: it is a label: what it is worth is what the hold of that sum in a sandbox is worth. -/
noncomputable def Try.pinned : Pinned := { name := "ytolcpkpfndnkbaa", sum := "2ec48dc73cb20a60d7be8d5608c4312d6b68cbeb3ab7ec3f2f52aff08331da5d", checked := Try.checked }
namespace Rows
def none {H : Type} : Left H := { results := [], args := [] }

/-- 'stirruplaw29.FabricRows': WHATEVER THE INPUT: true; the input reads as it did. -/
def fabricRowsSpec : ChangeSpec := { name := "fabricRows", fn := fun _ => fun
  | [d1, d2, d3] => { results := [.lit (.bool true)], args := [d1, d2, d3] }
  | _ => none }
def fabricRowsRow : OpenClaim := { program := "ytolcpkpfndnkbaa", sum := "2ec48dc73cb20a60d7be8d5608c4312d6b68cbeb3ab7ec3f2f52aff08331da5d", func := "stirrup/stirruplaw29.FabricRows", spec := "fabricRows", unfollowed := true, recurses := true, apart := false }
def FabricRowsSaid : Prop := fabricRowsRow.holds Try.pinned (OpenSpec.ofChange fabricRowsSpec)

/-- ITS FALSE NEIGHBOUR: 'it returns false'. Refute it at one input. -/
def fabricRowsWrong : ChangeSpec := { name := "fabricRows", fn := fun _ => fun
  | [d1, d2, d3] => { results := [.lit (.bool false)], args := [d1, d2, d3] }
  | _ => none }
def FabricRowsWrongFalsely : Prop := fabricRowsRow.holds Try.pinned (OpenSpec.ofChange fabricRowsWrong)

/-- 'stirruplaw29.FabricChecks': WHATEVER THE INPUT: true; the input reads as it did. -/
def fabricChecksSpec : ChangeSpec := { name := "fabricChecks", fn := fun _ => fun
  | [d1, d2, d3, d4, d5] => { results := [.lit (.bool true)], args := [d1, d2, d3, d4, d5] }
  | _ => none }
def fabricChecksRow : OpenClaim := { program := "ytolcpkpfndnkbaa", sum := "2ec48dc73cb20a60d7be8d5608c4312d6b68cbeb3ab7ec3f2f52aff08331da5d", func := "stirrup/stirruplaw29.FabricChecks", spec := "fabricChecks", unfollowed := true, recurses := true, apart := false }
def FabricChecksSaid : Prop := fabricChecksRow.holds Try.pinned (OpenSpec.ofChange fabricChecksSpec)

/-- ITS FALSE NEIGHBOUR: 'it returns false'. Refute it at one input. -/
def fabricChecksWrong : ChangeSpec := { name := "fabricChecks", fn := fun _ => fun
  | [d1, d2, d3, d4, d5] => { results := [.lit (.bool false)], args := [d1, d2, d3, d4, d5] }
  | _ => none }
def FabricChecksWrongFalsely : Prop := fabricChecksRow.holds Try.pinned (OpenSpec.ofChange fabricChecksWrong)

/-- 'stirruplaw29.FabricReaches': WHATEVER THE INPUT: true; the input reads as it did. -/
def fabricReachesSpec : ChangeSpec := { name := "fabricReaches", fn := fun _ => fun
  | [d1, d2, d3] => { results := [.lit (.bool true)], args := [d1, d2, d3] }
  | _ => none }
def fabricReachesRow : OpenClaim := { program := "ytolcpkpfndnkbaa", sum := "2ec48dc73cb20a60d7be8d5608c4312d6b68cbeb3ab7ec3f2f52aff08331da5d", func := "stirrup/stirruplaw29.FabricReaches", spec := "fabricReaches", unfollowed := true, recurses := true, apart := false }
def FabricReachesSaid : Prop := fabricReachesRow.holds Try.pinned (OpenSpec.ofChange fabricReachesSpec)

/-- ITS FALSE NEIGHBOUR: 'it returns false'. Refute it at one input. -/
def fabricReachesWrong : ChangeSpec := { name := "fabricReaches", fn := fun _ => fun
  | [d1, d2, d3] => { results := [.lit (.bool false)], args := [d1, d2, d3] }
  | _ => none }
def FabricReachesWrongFalsely : Prop := fabricReachesRow.holds Try.pinned (OpenSpec.ofChange fabricReachesWrong)

/-- 'stirruplaw29.FabricCovers': WHATEVER THE INPUT: true; the input reads as it did. -/
def fabricCoversSpec : ChangeSpec := { name := "fabricCovers", fn := fun _ => fun
  | [d1, d2, d3, d4] => { results := [.lit (.bool true)], args := [d1, d2, d3, d4] }
  | _ => none }
def fabricCoversRow : OpenClaim := { program := "ytolcpkpfndnkbaa", sum := "2ec48dc73cb20a60d7be8d5608c4312d6b68cbeb3ab7ec3f2f52aff08331da5d", func := "stirrup/stirruplaw29.FabricCovers", spec := "fabricCovers", unfollowed := true, recurses := true, apart := false }
def FabricCoversSaid : Prop := fabricCoversRow.holds Try.pinned (OpenSpec.ofChange fabricCoversSpec)

/-- ITS FALSE NEIGHBOUR: 'it returns false'. Refute it at one input. -/
def fabricCoversWrong : ChangeSpec := { name := "fabricCovers", fn := fun _ => fun
  | [d1, d2, d3, d4] => { results := [.lit (.bool false)], args := [d1, d2, d3, d4] }
  | _ => none }
def FabricCoversWrongFalsely : Prop := fabricCoversRow.holds Try.pinned (OpenSpec.ofChange fabricCoversWrong)

/-- 'stirruplaw29.FabricMore': WHATEVER THE INPUT: true; the input reads as it did. -/
def fabricMoreSpec : ChangeSpec := { name := "fabricMore", fn := fun _ => fun
  | [d1, d2, d3, d4, d5, d6] => { results := [.lit (.bool true)], args := [d1, d2, d3, d4, d5, d6] }
  | _ => none }
def fabricMoreRow : OpenClaim := { program := "ytolcpkpfndnkbaa", sum := "2ec48dc73cb20a60d7be8d5608c4312d6b68cbeb3ab7ec3f2f52aff08331da5d", func := "stirrup/stirruplaw29.FabricMore", spec := "fabricMore", unfollowed := true, recurses := true, apart := false }
def FabricMoreSaid : Prop := fabricMoreRow.holds Try.pinned (OpenSpec.ofChange fabricMoreSpec)

/-- ITS FALSE NEIGHBOUR: 'it returns false'. Refute it at one input. -/
def fabricMoreWrong : ChangeSpec := { name := "fabricMore", fn := fun _ => fun
  | [d1, d2, d3, d4, d5, d6] => { results := [.lit (.bool false)], args := [d1, d2, d3, d4, d5, d6] }
  | _ => none }
def FabricMoreWrongFalsely : Prop := fabricMoreRow.holds Try.pinned (OpenSpec.ofChange fabricMoreWrong)

/-- 'stirruplaw29.FabricChooses': WHATEVER THE INPUT: true; the input reads as it did. -/
def fabricChoosesSpec : ChangeSpec := { name := "fabricChooses", fn := fun _ => fun
  | [d1, d2, d3] => { results := [.lit (.bool true)], args := [d1, d2, d3] }
  | _ => none }
def fabricChoosesRow : OpenClaim := { program := "ytolcpkpfndnkbaa", sum := "2ec48dc73cb20a60d7be8d5608c4312d6b68cbeb3ab7ec3f2f52aff08331da5d", func := "stirrup/stirruplaw29.FabricChooses", spec := "fabricChooses", unfollowed := true, recurses := true, apart := false }
def FabricChoosesSaid : Prop := fabricChoosesRow.holds Try.pinned (OpenSpec.ofChange fabricChoosesSpec)

/-- ITS FALSE NEIGHBOUR: 'it returns false'. Refute it at one input. -/
def fabricChoosesWrong : ChangeSpec := { name := "fabricChooses", fn := fun _ => fun
  | [d1, d2, d3] => { results := [.lit (.bool false)], args := [d1, d2, d3] }
  | _ => none }
def FabricChoosesWrongFalsely : Prop := fabricChoosesRow.holds Try.pinned (OpenSpec.ofChange fabricChoosesWrong)

/-- 'stirruplaw29.FabricSuffices': WHATEVER THE INPUT: true; the input reads as it did. -/
def fabricSufficesSpec : ChangeSpec := { name := "fabricSuffices", fn := fun _ => fun
  | [d1, d2, d3, d4, d5, d6] => { results := [.lit (.bool true)], args := [d1, d2, d3, d4, d5, d6] }
  | _ => none }
def fabricSufficesRow : OpenClaim := { program := "ytolcpkpfndnkbaa", sum := "2ec48dc73cb20a60d7be8d5608c4312d6b68cbeb3ab7ec3f2f52aff08331da5d", func := "stirrup/stirruplaw29.FabricSuffices", spec := "fabricSuffices", unfollowed := true, recurses := true, apart := false }
def FabricSufficesSaid : Prop := fabricSufficesRow.holds Try.pinned (OpenSpec.ofChange fabricSufficesSpec)

/-- ITS FALSE NEIGHBOUR: 'it returns false'. Refute it at one input. -/
def fabricSufficesWrong : ChangeSpec := { name := "fabricSuffices", fn := fun _ => fun
  | [d1, d2, d3, d4, d5, d6] => { results := [.lit (.bool false)], args := [d1, d2, d3, d4, d5, d6] }
  | _ => none }
def FabricSufficesWrongFalsely : Prop := fabricSufficesRow.holds Try.pinned (OpenSpec.ofChange fabricSufficesWrong)

/-- 'stirruplaw29.FabricLightest': WHATEVER THE INPUT: true; the input reads as it did. -/
def fabricLightestSpec : ChangeSpec := { name := "fabricLightest", fn := fun _ => fun
  | [d1, d2, d3, d4] => { results := [.lit (.bool true)], args := [d1, d2, d3, d4] }
  | _ => none }
def fabricLightestRow : OpenClaim := { program := "ytolcpkpfndnkbaa", sum := "2ec48dc73cb20a60d7be8d5608c4312d6b68cbeb3ab7ec3f2f52aff08331da5d", func := "stirrup/stirruplaw29.FabricLightest", spec := "fabricLightest", unfollowed := true, recurses := true, apart := false }
def FabricLightestSaid : Prop := fabricLightestRow.holds Try.pinned (OpenSpec.ofChange fabricLightestSpec)

/-- ITS FALSE NEIGHBOUR: 'it returns false'. Refute it at one input. -/
def fabricLightestWrong : ChangeSpec := { name := "fabricLightest", fn := fun _ => fun
  | [d1, d2, d3, d4] => { results := [.lit (.bool false)], args := [d1, d2, d3, d4] }
  | _ => none }
def FabricLightestWrongFalsely : Prop := fabricLightestRow.holds Try.pinned (OpenSpec.ofChange fabricLightestWrong)

/- THE SECOND FORM. 'bulk': how many values and letters a reading holds, each counted each time it is reached (what is shared counts as often as it is met; a slice's spare places count too). A statement '..UptoSaid' is the law's where the arguments, and the package variables that the reading takes, are together of bulk at most 1048576: NARROWER than '..Said'. Prove '..Said' where nothing that the law and all that it calls make is longer than what came in: it says more and counts as full. Else prove '..UptoSaid'. A law counts once. -/
mutual
def uptoBulk {H : Type} : DataW H → Nat
  | .lit (.string bytes) => bytes.length + 1
  | .lit _ => 1
  | .nil => 1
  | .ptr d => uptoBulk d + 1
  | .slice elems spare => uptoBulkAll elems + uptoBulkAll spare + 1
  | .agg parts => uptoBulkAll parts + 1
  | .iface _ d => uptoBulk d + 1
  | .map entries => uptoBulkEntries entries + 1
  | .held _ => 1
def uptoBulkAll {H : Type} : List (DataW H) → Nat
  | [] => 0
  | d :: r => uptoBulk d + uptoBulkAll r
def uptoBulkEntries {H : Type} : List (Lit × DataW H) → Nat
  | [] => 0
  | x :: r => uptoBulkEntry x + uptoBulkEntries r
def uptoBulkEntry {H : Type} : Lit × DataW H → Nat
  | (.string bytes, d) => bytes.length + uptoBulk d + 1
  | (_, d) => uptoBulk d + 1
 end
def uptoSmall : (H : Type) → List (DataW H) → Bool := fun _ ds => decide (uptoBulkAll ds ≤ 1048576)
def OpenSpec.upto (s : _root_.Go.ChangeSpec) : _root_.Go.OpenSpec := { _root_.Go.OpenSpec.ofChange s with cond := some uptoSmall }

/-- 'stirruplaw29.FabricRows', WHERE WHAT IT READS IS OF BULK AT MOST 1048576: true; the input reads as it did. -/
def fabricRowsUptoRow : OpenClaim := { program := "ytolcpkpfndnkbaa", sum := "2ec48dc73cb20a60d7be8d5608c4312d6b68cbeb3ab7ec3f2f52aff08331da5d", func := "stirrup/stirruplaw29.FabricRows", spec := "fabricRows", unfollowed := true, recurses := true, apart := false, narrowed := true }
def FabricRowsUptoSaid : Prop := fabricRowsUptoRow.holds Try.pinned (OpenSpec.upto fabricRowsSpec)

/-- 'stirruplaw29.FabricChecks', WHERE WHAT IT READS IS OF BULK AT MOST 1048576: true; the input reads as it did. -/
def fabricChecksUptoRow : OpenClaim := { program := "ytolcpkpfndnkbaa", sum := "2ec48dc73cb20a60d7be8d5608c4312d6b68cbeb3ab7ec3f2f52aff08331da5d", func := "stirrup/stirruplaw29.FabricChecks", spec := "fabricChecks", unfollowed := true, recurses := true, apart := false, narrowed := true }
def FabricChecksUptoSaid : Prop := fabricChecksUptoRow.holds Try.pinned (OpenSpec.upto fabricChecksSpec)

/-- 'stirruplaw29.FabricReaches', WHERE WHAT IT READS IS OF BULK AT MOST 1048576: true; the input reads as it did. -/
def fabricReachesUptoRow : OpenClaim := { program := "ytolcpkpfndnkbaa", sum := "2ec48dc73cb20a60d7be8d5608c4312d6b68cbeb3ab7ec3f2f52aff08331da5d", func := "stirrup/stirruplaw29.FabricReaches", spec := "fabricReaches", unfollowed := true, recurses := true, apart := false, narrowed := true }
def FabricReachesUptoSaid : Prop := fabricReachesUptoRow.holds Try.pinned (OpenSpec.upto fabricReachesSpec)

/-- 'stirruplaw29.FabricCovers', WHERE WHAT IT READS IS OF BULK AT MOST 1048576: true; the input reads as it did. -/
def fabricCoversUptoRow : OpenClaim := { program := "ytolcpkpfndnkbaa", sum := "2ec48dc73cb20a60d7be8d5608c4312d6b68cbeb3ab7ec3f2f52aff08331da5d", func := "stirrup/stirruplaw29.FabricCovers", spec := "fabricCovers", unfollowed := true, recurses := true, apart := false, narrowed := true }
def FabricCoversUptoSaid : Prop := fabricCoversUptoRow.holds Try.pinned (OpenSpec.upto fabricCoversSpec)

/-- 'stirruplaw29.FabricMore', WHERE WHAT IT READS IS OF BULK AT MOST 1048576: true; the input reads as it did. -/
def fabricMoreUptoRow : OpenClaim := { program := "ytolcpkpfndnkbaa", sum := "2ec48dc73cb20a60d7be8d5608c4312d6b68cbeb3ab7ec3f2f52aff08331da5d", func := "stirrup/stirruplaw29.FabricMore", spec := "fabricMore", unfollowed := true, recurses := true, apart := false, narrowed := true }
def FabricMoreUptoSaid : Prop := fabricMoreUptoRow.holds Try.pinned (OpenSpec.upto fabricMoreSpec)

/-- 'stirruplaw29.FabricChooses', WHERE WHAT IT READS IS OF BULK AT MOST 1048576: true; the input reads as it did. -/
def fabricChoosesUptoRow : OpenClaim := { program := "ytolcpkpfndnkbaa", sum := "2ec48dc73cb20a60d7be8d5608c4312d6b68cbeb3ab7ec3f2f52aff08331da5d", func := "stirrup/stirruplaw29.FabricChooses", spec := "fabricChooses", unfollowed := true, recurses := true, apart := false, narrowed := true }
def FabricChoosesUptoSaid : Prop := fabricChoosesUptoRow.holds Try.pinned (OpenSpec.upto fabricChoosesSpec)

/-- 'stirruplaw29.FabricSuffices', WHERE WHAT IT READS IS OF BULK AT MOST 1048576: true; the input reads as it did. -/
def fabricSufficesUptoRow : OpenClaim := { program := "ytolcpkpfndnkbaa", sum := "2ec48dc73cb20a60d7be8d5608c4312d6b68cbeb3ab7ec3f2f52aff08331da5d", func := "stirrup/stirruplaw29.FabricSuffices", spec := "fabricSuffices", unfollowed := true, recurses := true, apart := false, narrowed := true }
def FabricSufficesUptoSaid : Prop := fabricSufficesUptoRow.holds Try.pinned (OpenSpec.upto fabricSufficesSpec)

/-- 'stirruplaw29.FabricLightest', WHERE WHAT IT READS IS OF BULK AT MOST 1048576: true; the input reads as it did. -/
def fabricLightestUptoRow : OpenClaim := { program := "ytolcpkpfndnkbaa", sum := "2ec48dc73cb20a60d7be8d5608c4312d6b68cbeb3ab7ec3f2f52aff08331da5d", func := "stirrup/stirruplaw29.FabricLightest", spec := "fabricLightest", unfollowed := true, recurses := true, apart := false, narrowed := true }
def FabricLightestUptoSaid : Prop := fabricLightestUptoRow.holds Try.pinned (OpenSpec.upto fabricLightestSpec)

end Rows
end Go.Proofs.Ytolcpkpfndnkbaa
