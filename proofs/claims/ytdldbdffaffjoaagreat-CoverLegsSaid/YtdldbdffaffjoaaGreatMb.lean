/- Members. -/
import Derived.Test.YtdldbdffaffjoaaGreatBoxG
namespace Go.Proofs.YtdldbdffaffjoaaGreat
open Go.RowKit
set_option maxRecDepth 20000

structure Mb where
  name : ByteArray
  l : List Bx
  m : List Bx
  u : Value
  t : Value
  cover : Int
  agg : Int
  poker : Int

/-- A member's name and boxes are there. -/
structure MbAt (w : World) (x : Mb) : Prop where
  name : x.name.size ≤ 9223372036854775807
  boxes : Boxes w x.u x.l
  holes : Boxes w x.t x.m
theorem MbAt.below {w w' : World} {x : Mb} (h : MbAt w x) (hb : Below w.heap.size w w') : MbAt w' x := ⟨h.name, h.boxes.below hb, h.holes.below hb⟩

end Go.Proofs.YtdldbdffaffjoaaGreat
