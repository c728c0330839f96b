/-
  No cell of these rows narrows 'for every input' (looked for: loops, veiled, ifaces, maps, wideKeys, modest, calm, conditions, laid).
  DERIVED. THE GIVEN ROWS OF THIS SEAT. 3 by the template 'for every input the law returns true; each argument reads behind the call as it read before'; 0 by the template 'total and deterministic' (their statements: YtofjopdcbmaijaaGreatTotals.lean).
  GIVEN WITH THE SEED: the statements are not yours to turn. If you find one false, say at which input.
  Laid BY PROGRAM, IN A SANDBOX (cutbox-rows.mjs): the forced cells as the released guide's own fill.sh prints them over the translation 42721bd1a800e085… (all of the seat's roots in one cut). By AI agents, Wed Nov 11 2026. No macro, syntax, notation, axiom, sorry.
-/
import Derived.Test.YtofjopdcbmaijaaGreatChecked
import GoSem.Claim
import GoSem.ClaimJoined
import GoSem.ClaimMapViews
import Derived.JoinedTies
import Derived.KernelRfl
namespace Go.Proofs.YtofjopdcbmaijaaGreat
/- THE CELL 'sum', in the pinned program and in every row, IS THE sha256 OF THE DUMP (.gsa) THAT YtofjopdcbmaijaaGreatProg.lean LOADS. Nothing in Lean hashes anything: it is a label: what it is worth is what the hold of that sum in a sandbox is worth. -/
noncomputable def Tryz.pinned : Pinned := { name := "ytofjopdcbmaijaagreat", sum := "42721bd1a800e085d49bc4829cfb4c450823f20829e64cbcd1d12e24a7fbc5b4", checked := Tryz.checked }
namespace Rows
def none {H : Type} : Left H := { results := [], args := [] }

/-- 'stirruplaw21.GapsRows': WHATEVER THE INPUT: true; the input reads as it did. -/
def gapsRowsSpec : ChangeSpec := { name := "gapsRows", fn := fun _ => fun
  | [d1, d2, d3] => { results := [.lit (.bool true)], args := [d1, d2, d3] }
  | _ => none }
def gapsRowsRow : OpenClaim := { program := "ytofjopdcbmaijaagreat", sum := "42721bd1a800e085d49bc4829cfb4c450823f20829e64cbcd1d12e24a7fbc5b4", func := "stirrup/stirruplaw21.GapsRows", spec := "gapsRows", unfollowed := true, recurses := true, apart := false }
def GapsRowsSaid : Prop := gapsRowsRow.holds Tryz.pinned (OpenSpec.ofChange gapsRowsSpec)

/-- ITS FALSE NEIGHBOUR: 'it returns false'. Refute it at one input. -/
def gapsRowsWrong : ChangeSpec := { name := "gapsRows", fn := fun _ => fun
  | [d1, d2, d3] => { results := [.lit (.bool false)], args := [d1, d2, d3] }
  | _ => none }
def GapsRowsWrongFalsely : Prop := gapsRowsRow.holds Tryz.pinned (OpenSpec.ofChange gapsRowsWrong)

/-- 'stirruplaw21.GapsChecks': WHATEVER THE INPUT: true; the input reads as it did. -/
def gapsChecksSpec : ChangeSpec := { name := "gapsChecks", fn := fun _ => fun
  | [d1, d2, d3, d4, d5] => { results := [.lit (.bool true)], args := [d1, d2, d3, d4, d5] }
  | _ => none }
def gapsChecksRow : OpenClaim := { program := "ytofjopdcbmaijaagreat", sum := "42721bd1a800e085d49bc4829cfb4c450823f20829e64cbcd1d12e24a7fbc5b4", func := "stirrup/stirruplaw21.GapsChecks", spec := "gapsChecks", unfollowed := true, recurses := true, apart := false }
def GapsChecksSaid : Prop := gapsChecksRow.holds Tryz.pinned (OpenSpec.ofChange gapsChecksSpec)

/-- ITS FALSE NEIGHBOUR: 'it returns false'. Refute it at one input. -/
def gapsChecksWrong : ChangeSpec := { name := "gapsChecks", fn := fun _ => fun
  | [d1, d2, d3, d4, d5] => { results := [.lit (.bool false)], args := [d1, d2, d3, d4, d5] }
  | _ => none }
def GapsChecksWrongFalsely : Prop := gapsChecksRow.holds Tryz.pinned (OpenSpec.ofChange gapsChecksWrong)

/-- 'stirruplaw21.GapsShares': WHATEVER THE INPUT: true; the input reads as it did. -/
def gapsSharesSpec : ChangeSpec := { name := "gapsShares", fn := fun _ => fun
  | [d1, d2, d3, d4, d5] => { results := [.lit (.bool true)], args := [d1, d2, d3, d4, d5] }
  | _ => none }
def gapsSharesRow : OpenClaim := { program := "ytofjopdcbmaijaagreat", sum := "42721bd1a800e085d49bc4829cfb4c450823f20829e64cbcd1d12e24a7fbc5b4", func := "stirrup/stirruplaw21.GapsShares", spec := "gapsShares", inPlace := ["math/bits.Add64", "math/bits.Sub64"], unfollowed := true, recurses := true, named := ["math/bits.divideError", "math/bits.overflowError"], apart := false }
def GapsSharesSaid : Prop := gapsSharesRow.holds Tryz.pinned (OpenSpec.ofChange gapsSharesSpec)

/-- ITS FALSE NEIGHBOUR: 'it returns false'. Refute it at one input. -/
def gapsSharesWrong : ChangeSpec := { name := "gapsShares", fn := fun _ => fun
  | [d1, d2, d3, d4, d5] => { results := [.lit (.bool false)], args := [d1, d2, d3, d4, d5] }
  | _ => none }
def GapsSharesWrongFalsely : Prop := gapsSharesRow.holds Tryz.pinned (OpenSpec.ofChange gapsSharesWrong)

/- THE SECOND FORM. 'bulk': how many values and letters a reading holds, each counted each time it is reached (what is shared counts as often as it is met; a slice's spare places count too). A statement '..UptoSaid' is the law's where the arguments, and the package variables that the reading takes, are together of bulk at most 1048576: NARROWER than '..Said'. Prove '..Said' where nothing that the law and all that it calls make is longer than what came in: it says more and counts as full. Else prove '..UptoSaid'. A law counts once. -/
mutual
def uptoBulk {H : Type} : DataW H → Nat
  | .lit (.string bytes) => bytes.length + 1
  | .lit _ => 1
  | .nil => 1
  | .ptr d => uptoBulk d + 1
  | .slice elems spare => uptoBulkAll elems + uptoBulkAll spare + 1
  | .agg parts => uptoBulkAll parts + 1
  | .iface _ d => uptoBulk d + 1
  | .map entries => uptoBulkEntries entries + 1
  | .held _ => 1
def uptoBulkAll {H : Type} : List (DataW H) → Nat
  | [] => 0
  | d :: r => uptoBulk d + uptoBulkAll r
def uptoBulkEntries {H : Type} : List (Lit × DataW H) → Nat
  | [] => 0
  | x :: r => uptoBulkEntry x + uptoBulkEntries r
def uptoBulkEntry {H : Type} : Lit × DataW H → Nat
  | (.string bytes, d) => bytes.length + uptoBulk d + 1
  | (_, d) => uptoBulk d + 1
 end
def uptoSmall : (H : Type) → List (DataW H) → Bool := fun _ ds => decide (uptoBulkAll ds ≤ 1048576)
def OpenSpec.upto (s : _root_.Go.ChangeSpec) : _root_.Go.OpenSpec := { _root_.Go.OpenSpec.ofChange s with cond := some uptoSmall }

/-- 'stirruplaw21.GapsRows', WHERE WHAT IT READS IS OF BULK AT MOST 1048576: true; the input reads as it did. -/
def gapsRowsUptoRow : OpenClaim := { program := "ytofjopdcbmaijaagreat", sum := "42721bd1a800e085d49bc4829cfb4c450823f20829e64cbcd1d12e24a7fbc5b4", func := "stirrup/stirruplaw21.GapsRows", spec := "gapsRows", unfollowed := true, recurses := true, apart := false, narrowed := true }
def GapsRowsUptoSaid : Prop := gapsRowsUptoRow.holds Tryz.pinned (OpenSpec.upto gapsRowsSpec)

/-- 'stirruplaw21.GapsChecks', WHERE WHAT IT READS IS OF BULK AT MOST 1048576: true; the input reads as it did. -/
def gapsChecksUptoRow : OpenClaim := { program := "ytofjopdcbmaijaagreat", sum := "42721bd1a800e085d49bc4829cfb4c450823f20829e64cbcd1d12e24a7fbc5b4", func := "stirrup/stirruplaw21.GapsChecks", spec := "gapsChecks", unfollowed := true, recurses := true, apart := false, narrowed := true }
def GapsChecksUptoSaid : Prop := gapsChecksUptoRow.holds Tryz.pinned (OpenSpec.upto gapsChecksSpec)

/-- 'stirruplaw21.GapsShares', WHERE WHAT IT READS IS OF BULK AT MOST 1048576: true; the input reads as it did. -/
def gapsSharesUptoRow : OpenClaim := { program := "ytofjopdcbmaijaagreat", sum := "42721bd1a800e085d49bc4829cfb4c450823f20829e64cbcd1d12e24a7fbc5b4", func := "stirrup/stirruplaw21.GapsShares", spec := "gapsShares", inPlace := ["math/bits.Add64", "math/bits.Sub64"], unfollowed := true, recurses := true, named := ["math/bits.divideError", "math/bits.overflowError"], apart := false, narrowed := true }
def GapsSharesUptoSaid : Prop := gapsSharesUptoRow.holds Tryz.pinned (OpenSpec.upto gapsSharesSpec)

end Rows
end Go.Proofs.YtofjopdcbmaijaaGreat
