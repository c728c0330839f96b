/- The hull of boxes. -/
import Derived.Test.YtdldbdffaffjoaaRefK
import Derived.Test.YtdldbdffaffjoaaBoxK2
namespace Go.Proofs.Ytdldbdffaffjoaa
open Go.RowKit
set_option maxRecDepth 20000

def joinX (a b : Bx) : Bx := ⟨min a.lx b.lx, min a.ly b.ly, min a.lz b.lz, max a.hx b.hx, max a.hy b.hy, max a.hz b.hz⟩
def hullTo (a : Bx) (l : List Bx) (i : Nat) : Bx := (l.take i).foldl joinX a
def hullX : List Bx → Bx
  | [] => zeroX
  | a :: r => (a :: r).foldl joinX a
theorem hullTo_succ (a : Bx) (l : List Bx) (i : Nat) (h : i < l.length) : hullTo a l (i + 1) = joinX (hullTo a l i) l[i] := by
  unfold hullTo; rw [List.take_succ_eq_append_getElem h, List.foldl_append]; rfl
theorem hullTo_one (l : List Bx) (h : 0 < l.length) : hullTo l[0] l 1 = l[0] := by
  rw [hullTo_succ _ _ _ h]
  show joinX l[0] l[0] = l[0]
  unfold joinX
  simp
theorem hullTo_all (l : List Bx) (h : 0 < l.length) : hullTo l[0] l l.length = hullX l := by
  unfold hullTo
  rw [List.take_length]
  cases l with
  | nil => simp at h
  | cons a r => rfl

def hullR (l : List Bx) : Bx × Int := if l.all validB = true then (if 0 < l.length then (hullX l, 0) else (zeroX, 14)) else (zeroX, 1)
end Go.Proofs.Ytdldbdffaffjoaa
