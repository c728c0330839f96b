/-
  No cell of these rows narrows 'for every input' (looked for: loops, veiled, ifaces, maps, wideKeys, modest, calm, conditions, laid).
  DERIVED. THE GIVEN ROWS OF THIS SEAT. 8 by the template 'for every input the law returns true; each argument reads behind the call as it read before'; 0 by the template 'total and deterministic' (their statements: YtmoechhfjmemaaaGreatTotals.lean).
  GIVEN WITH THE SEED: the statements are not yours to turn. If you find one false, say at which input.
  Laid BY PROGRAM, IN A SANDBOX (cutbox-rows.mjs): the forced cells as the released guide's own fill.sh prints them over the translation 3bfcea8e9ec38ce2… (all of the seat's roots in one cut). By AI agents, Wed Nov 11 2026. No macro, syntax, notation, axiom, sorry.
-/
import Derived.Test.YtmoechhfjmemaaaGreatChecked
import GoSem.Claim
import GoSem.ClaimJoined
import GoSem.ClaimMapViews
import Derived.JoinedTies
import Derived.KernelRfl
namespace Go.Proofs.YtmoechhfjmemaaaGreat
/- THE CELL 'sum', in the pinned program and in every row, IS THE sha256 OF THE DUMP (.gsa) THAT YtmoechhfjmemaaaGreatProg.lean LOADS. Nothing in Lean hashes anything: it is a label: what it is worth is what the hold of that sum in a sandbox is worth. -/
noncomputable def Tryz.pinned : Pinned := { name := "ytmoechhfjmemaaagreat", sum := "3bfcea8e9ec38ce223a59c1184537947c1d8dd56b3440f53d023da3146feb0a1", checked := Tryz.checked }
namespace Rows
def none {H : Type} : Left H := { results := [], args := [] }

/-- 'stirruplaw22.PokerFree': WHATEVER THE INPUT: true; the input reads as it did. -/
def pokerFreeSpec : ChangeSpec := { name := "pokerFree", fn := fun _ => fun
  | [d1, d2, d3, d4] => { results := [.lit (.bool true)], args := [d1, d2, d3, d4] }
  | _ => none }
def pokerFreeRow : OpenClaim := { program := "ytmoechhfjmemaaagreat", sum := "3bfcea8e9ec38ce223a59c1184537947c1d8dd56b3440f53d023da3146feb0a1", func := "stirrup/stirruplaw22.PokerFree", spec := "pokerFree", unfollowed := true, recurses := true, apart := false }
def PokerFreeSaid : Prop := pokerFreeRow.holds Tryz.pinned (OpenSpec.ofChange pokerFreeSpec)

/-- ITS FALSE NEIGHBOUR: 'it returns false'. Refute it at one input. -/
def pokerFreeWrong : ChangeSpec := { name := "pokerFree", fn := fun _ => fun
  | [d1, d2, d3, d4] => { results := [.lit (.bool false)], args := [d1, d2, d3, d4] }
  | _ => none }
def PokerFreeWrongFalsely : Prop := pokerFreeRow.holds Tryz.pinned (OpenSpec.ofChange pokerFreeWrong)

/-- 'stirruplaw22.PokerReaches': WHATEVER THE INPUT: true; the input reads as it did. -/
def pokerReachesSpec : ChangeSpec := { name := "pokerReaches", fn := fun _ => fun
  | [d1, d2, d3] => { results := [.lit (.bool true)], args := [d1, d2, d3] }
  | _ => none }
def pokerReachesRow : OpenClaim := { program := "ytmoechhfjmemaaagreat", sum := "3bfcea8e9ec38ce223a59c1184537947c1d8dd56b3440f53d023da3146feb0a1", func := "stirrup/stirruplaw22.PokerReaches", spec := "pokerReaches", unfollowed := true, recurses := true, apart := false }
def PokerReachesSaid : Prop := pokerReachesRow.holds Tryz.pinned (OpenSpec.ofChange pokerReachesSpec)

/-- ITS FALSE NEIGHBOUR: 'it returns false'. Refute it at one input. -/
def pokerReachesWrong : ChangeSpec := { name := "pokerReaches", fn := fun _ => fun
  | [d1, d2, d3] => { results := [.lit (.bool false)], args := [d1, d2, d3] }
  | _ => none }
def PokerReachesWrongFalsely : Prop := pokerReachesRow.holds Tryz.pinned (OpenSpec.ofChange pokerReachesWrong)

/-- 'stirruplaw22.PokerHigher': WHATEVER THE INPUT: true; the input reads as it did. -/
def pokerHigherSpec : ChangeSpec := { name := "pokerHigher", fn := fun _ => fun
  | [d1, d2, d3, d4, d5, d6] => { results := [.lit (.bool true)], args := [d1, d2, d3, d4, d5, d6] }
  | _ => none }
def pokerHigherRow : OpenClaim := { program := "ytmoechhfjmemaaagreat", sum := "3bfcea8e9ec38ce223a59c1184537947c1d8dd56b3440f53d023da3146feb0a1", func := "stirrup/stirruplaw22.PokerHigher", spec := "pokerHigher", unfollowed := true, recurses := true, apart := false }
def PokerHigherSaid : Prop := pokerHigherRow.holds Tryz.pinned (OpenSpec.ofChange pokerHigherSpec)

/-- ITS FALSE NEIGHBOUR: 'it returns false'. Refute it at one input. -/
def pokerHigherWrong : ChangeSpec := { name := "pokerHigher", fn := fun _ => fun
  | [d1, d2, d3, d4, d5, d6] => { results := [.lit (.bool false)], args := [d1, d2, d3, d4, d5, d6] }
  | _ => none }
def PokerHigherWrongFalsely : Prop := pokerHigherRow.holds Tryz.pinned (OpenSpec.ofChange pokerHigherWrong)

/-- 'stirruplaw22.PokerLowest': WHATEVER THE INPUT: true; the input reads as it did. -/
def pokerLowestSpec : ChangeSpec := { name := "pokerLowest", fn := fun _ => fun
  | [d1, d2, d3, d4] => { results := [.lit (.bool true)], args := [d1, d2, d3, d4] }
  | _ => none }
def pokerLowestRow : OpenClaim := { program := "ytmoechhfjmemaaagreat", sum := "3bfcea8e9ec38ce223a59c1184537947c1d8dd56b3440f53d023da3146feb0a1", func := "stirrup/stirruplaw22.PokerLowest", spec := "pokerLowest", unfollowed := true, recurses := true, apart := false }
def PokerLowestSaid : Prop := pokerLowestRow.holds Tryz.pinned (OpenSpec.ofChange pokerLowestSpec)

/-- ITS FALSE NEIGHBOUR: 'it returns false'. Refute it at one input. -/
def pokerLowestWrong : ChangeSpec := { name := "pokerLowest", fn := fun _ => fun
  | [d1, d2, d3, d4] => { results := [.lit (.bool false)], args := [d1, d2, d3, d4] }
  | _ => none }
def PokerLowestWrongFalsely : Prop := pokerLowestRow.holds Tryz.pinned (OpenSpec.ofChange pokerLowestWrong)

/-- 'stirruplaw22.PokerPlaces': WHATEVER THE INPUT: true; the input reads as it did. -/
def pokerPlacesSpec : ChangeSpec := { name := "pokerPlaces", fn := fun _ => fun
  | [d1, d2, d3, d4] => { results := [.lit (.bool true)], args := [d1, d2, d3, d4] }
  | _ => none }
def pokerPlacesRow : OpenClaim := { program := "ytmoechhfjmemaaagreat", sum := "3bfcea8e9ec38ce223a59c1184537947c1d8dd56b3440f53d023da3146feb0a1", func := "stirrup/stirruplaw22.PokerPlaces", spec := "pokerPlaces", unfollowed := true, recurses := true, apart := false }
def PokerPlacesSaid : Prop := pokerPlacesRow.holds Tryz.pinned (OpenSpec.ofChange pokerPlacesSpec)

/-- ITS FALSE NEIGHBOUR: 'it returns false'. Refute it at one input. -/
def pokerPlacesWrong : ChangeSpec := { name := "pokerPlaces", fn := fun _ => fun
  | [d1, d2, d3, d4] => { results := [.lit (.bool false)], args := [d1, d2, d3, d4] }
  | _ => none }
def PokerPlacesWrongFalsely : Prop := pokerPlacesRow.holds Tryz.pinned (OpenSpec.ofChange pokerPlacesWrong)

/-- 'stirruplaw22.PokerDry': WHATEVER THE INPUT: true; the input reads as it did. -/
def pokerDrySpec : ChangeSpec := { name := "pokerDry", fn := fun _ => fun
  | [d1, d2, d3, d4, d5] => { results := [.lit (.bool true)], args := [d1, d2, d3, d4, d5] }
  | _ => none }
def pokerDryRow : OpenClaim := { program := "ytmoechhfjmemaaagreat", sum := "3bfcea8e9ec38ce223a59c1184537947c1d8dd56b3440f53d023da3146feb0a1", func := "stirrup/stirruplaw22.PokerDry", spec := "pokerDry", unfollowed := true, recurses := true, apart := false }
def PokerDrySaid : Prop := pokerDryRow.holds Tryz.pinned (OpenSpec.ofChange pokerDrySpec)

/-- ITS FALSE NEIGHBOUR: 'it returns false'. Refute it at one input. -/
def pokerDryWrong : ChangeSpec := { name := "pokerDry", fn := fun _ => fun
  | [d1, d2, d3, d4, d5] => { results := [.lit (.bool false)], args := [d1, d2, d3, d4, d5] }
  | _ => none }
def PokerDryWrongFalsely : Prop := pokerDryRow.holds Tryz.pinned (OpenSpec.ofChange pokerDryWrong)

/-- 'stirruplaw22.PokerLess': WHATEVER THE INPUT: true; the input reads as it did. -/
def pokerLessSpec : ChangeSpec := { name := "pokerLess", fn := fun _ => fun
  | [d1, d2, d3, d4, d5, d6, d7] => { results := [.lit (.bool true)], args := [d1, d2, d3, d4, d5, d6, d7] }
  | _ => none }
def pokerLessRow : OpenClaim := { program := "ytmoechhfjmemaaagreat", sum := "3bfcea8e9ec38ce223a59c1184537947c1d8dd56b3440f53d023da3146feb0a1", func := "stirrup/stirruplaw22.PokerLess", spec := "pokerLess", unfollowed := true, recurses := true, apart := false }
def PokerLessSaid : Prop := pokerLessRow.holds Tryz.pinned (OpenSpec.ofChange pokerLessSpec)

/-- ITS FALSE NEIGHBOUR: 'it returns false'. Refute it at one input. -/
def pokerLessWrong : ChangeSpec := { name := "pokerLess", fn := fun _ => fun
  | [d1, d2, d3, d4, d5, d6, d7] => { results := [.lit (.bool false)], args := [d1, d2, d3, d4, d5, d6, d7] }
  | _ => none }
def PokerLessWrongFalsely : Prop := pokerLessRow.holds Tryz.pinned (OpenSpec.ofChange pokerLessWrong)

/-- 'stirruplaw22.PokerTells': WHATEVER THE INPUT: true; the input reads as it did. -/
def pokerTellsSpec : ChangeSpec := { name := "pokerTells", fn := fun _ => fun
  | [d1, d2, d3, d4, d5, d6, d7, d8] => { results := [.lit (.bool true)], args := [d1, d2, d3, d4, d5, d6, d7, d8] }
  | _ => none }
def pokerTellsRow : OpenClaim := { program := "ytmoechhfjmemaaagreat", sum := "3bfcea8e9ec38ce223a59c1184537947c1d8dd56b3440f53d023da3146feb0a1", func := "stirrup/stirruplaw22.PokerTells", spec := "pokerTells", unfollowed := true, recurses := true, apart := false }
def PokerTellsSaid : Prop := pokerTellsRow.holds Tryz.pinned (OpenSpec.ofChange pokerTellsSpec)

/-- ITS FALSE NEIGHBOUR: 'it returns false'. Refute it at one input. -/
def pokerTellsWrong : ChangeSpec := { name := "pokerTells", fn := fun _ => fun
  | [d1, d2, d3, d4, d5, d6, d7, d8] => { results := [.lit (.bool false)], args := [d1, d2, d3, d4, d5, d6, d7, d8] }
  | _ => none }
def PokerTellsWrongFalsely : Prop := pokerTellsRow.holds Tryz.pinned (OpenSpec.ofChange pokerTellsWrong)

/- THE SECOND FORM. 'bulk': how many values and letters a reading holds, each counted each time it is reached (what is shared counts as often as it is met; a slice's spare places count too). A statement '..UptoSaid' is the law's where the arguments, and the package variables that the reading takes, are together of bulk at most 1048576: NARROWER than '..Said'. Prove '..Said' where nothing that the law and all that it calls make is longer than what came in: it says more and counts as full. Else prove '..UptoSaid'. A law counts once. -/
mutual
def uptoBulk {H : Type} : DataW H → Nat
  | .lit (.string bytes) => bytes.length + 1
  | .lit _ => 1
  | .nil => 1
  | .ptr d => uptoBulk d + 1
  | .slice elems spare => uptoBulkAll elems + uptoBulkAll spare + 1
  | .agg parts => uptoBulkAll parts + 1
  | .iface _ d => uptoBulk d + 1
  | .map entries => uptoBulkEntries entries + 1
  | .held _ => 1
def uptoBulkAll {H : Type} : List (DataW H) → Nat
  | [] => 0
  | d :: r => uptoBulk d + uptoBulkAll r
def uptoBulkEntries {H : Type} : List (Lit × DataW H) → Nat
  | [] => 0
  | x :: r => uptoBulkEntry x + uptoBulkEntries r
def uptoBulkEntry {H : Type} : Lit × DataW H → Nat
  | (.string bytes, d) => bytes.length + uptoBulk d + 1
  | (_, d) => uptoBulk d + 1
 end
def uptoSmall : (H : Type) → List (DataW H) → Bool := fun _ ds => decide (uptoBulkAll ds ≤ 1048576)
def OpenSpec.upto (s : _root_.Go.ChangeSpec) : _root_.Go.OpenSpec := { _root_.Go.OpenSpec.ofChange s with cond := some uptoSmall }

/-- 'stirruplaw22.PokerFree', WHERE WHAT IT READS IS OF BULK AT MOST 1048576: true; the input reads as it did. -/
def pokerFreeUptoRow : OpenClaim := { program := "ytmoechhfjmemaaagreat", sum := "3bfcea8e9ec38ce223a59c1184537947c1d8dd56b3440f53d023da3146feb0a1", func := "stirrup/stirruplaw22.PokerFree", spec := "pokerFree", unfollowed := true, recurses := true, apart := false, narrowed := true }
def PokerFreeUptoSaid : Prop := pokerFreeUptoRow.holds Tryz.pinned (OpenSpec.upto pokerFreeSpec)

/-- 'stirruplaw22.PokerReaches', WHERE WHAT IT READS IS OF BULK AT MOST 1048576: true; the input reads as it did. -/
def pokerReachesUptoRow : OpenClaim := { program := "ytmoechhfjmemaaagreat", sum := "3bfcea8e9ec38ce223a59c1184537947c1d8dd56b3440f53d023da3146feb0a1", func := "stirrup/stirruplaw22.PokerReaches", spec := "pokerReaches", unfollowed := true, recurses := true, apart := false, narrowed := true }
def PokerReachesUptoSaid : Prop := pokerReachesUptoRow.holds Tryz.pinned (OpenSpec.upto pokerReachesSpec)

/-- 'stirruplaw22.PokerHigher', WHERE WHAT IT READS IS OF BULK AT MOST 1048576: true; the input reads as it did. -/
def pokerHigherUptoRow : OpenClaim := { program := "ytmoechhfjmemaaagreat", sum := "3bfcea8e9ec38ce223a59c1184537947c1d8dd56b3440f53d023da3146feb0a1", func := "stirrup/stirruplaw22.PokerHigher", spec := "pokerHigher", unfollowed := true, recurses := true, apart := false, narrowed := true }
def PokerHigherUptoSaid : Prop := pokerHigherUptoRow.holds Tryz.pinned (OpenSpec.upto pokerHigherSpec)

/-- 'stirruplaw22.PokerLowest', WHERE WHAT IT READS IS OF BULK AT MOST 1048576: true; the input reads as it did. -/
def pokerLowestUptoRow : OpenClaim := { program := "ytmoechhfjmemaaagreat", sum := "3bfcea8e9ec38ce223a59c1184537947c1d8dd56b3440f53d023da3146feb0a1", func := "stirrup/stirruplaw22.PokerLowest", spec := "pokerLowest", unfollowed := true, recurses := true, apart := false, narrowed := true }
def PokerLowestUptoSaid : Prop := pokerLowestUptoRow.holds Tryz.pinned (OpenSpec.upto pokerLowestSpec)

/-- 'stirruplaw22.PokerPlaces', WHERE WHAT IT READS IS OF BULK AT MOST 1048576: true; the input reads as it did. -/
def pokerPlacesUptoRow : OpenClaim := { program := "ytmoechhfjmemaaagreat", sum := "3bfcea8e9ec38ce223a59c1184537947c1d8dd56b3440f53d023da3146feb0a1", func := "stirrup/stirruplaw22.PokerPlaces", spec := "pokerPlaces", unfollowed := true, recurses := true, apart := false, narrowed := true }
def PokerPlacesUptoSaid : Prop := pokerPlacesUptoRow.holds Tryz.pinned (OpenSpec.upto pokerPlacesSpec)

/-- 'stirruplaw22.PokerDry', WHERE WHAT IT READS IS OF BULK AT MOST 1048576: true; the input reads as it did. -/
def pokerDryUptoRow : OpenClaim := { program := "ytmoechhfjmemaaagreat", sum := "3bfcea8e9ec38ce223a59c1184537947c1d8dd56b3440f53d023da3146feb0a1", func := "stirrup/stirruplaw22.PokerDry", spec := "pokerDry", unfollowed := true, recurses := true, apart := false, narrowed := true }
def PokerDryUptoSaid : Prop := pokerDryUptoRow.holds Tryz.pinned (OpenSpec.upto pokerDrySpec)

/-- 'stirruplaw22.PokerLess', WHERE WHAT IT READS IS OF BULK AT MOST 1048576: true; the input reads as it did. -/
def pokerLessUptoRow : OpenClaim := { program := "ytmoechhfjmemaaagreat", sum := "3bfcea8e9ec38ce223a59c1184537947c1d8dd56b3440f53d023da3146feb0a1", func := "stirrup/stirruplaw22.PokerLess", spec := "pokerLess", unfollowed := true, recurses := true, apart := false, narrowed := true }
def PokerLessUptoSaid : Prop := pokerLessUptoRow.holds Tryz.pinned (OpenSpec.upto pokerLessSpec)

/-- 'stirruplaw22.PokerTells', WHERE WHAT IT READS IS OF BULK AT MOST 1048576: true; the input reads as it did. -/
def pokerTellsUptoRow : OpenClaim := { program := "ytmoechhfjmemaaagreat", sum := "3bfcea8e9ec38ce223a59c1184537947c1d8dd56b3440f53d023da3146feb0a1", func := "stirrup/stirruplaw22.PokerTells", spec := "pokerTells", unfollowed := true, recurses := true, apart := false, narrowed := true }
def PokerTellsUptoSaid : Prop := pokerTellsUptoRow.holds Tryz.pinned (OpenSpec.upto pokerTellsSpec)

end Rows
end Go.Proofs.YtmoechhfjmemaaaGreat
