/- Contracts of package box, fourth part: Grown, Meet, Square. -/
import Derived.Test.YtolcpkpfndnkbaaBoxC
namespace Go.Proofs.Ytolcpkpfndnkbaa
open Go.RowKit

def zeroX : Bx := ⟨0, 0, 0, 0, 0, 0⟩
def grownX (b : Bx) (n : Int) : Bx := ⟨b.lx - n, b.ly - n, b.lz - n, b.hx + n, b.hy + n, b.hz + n⟩
def grownR (b : Bx) (n : Int) : Bx × Int :=
  if validB b = false then (zeroX, 1) else if n < 0 ∨ 1048576 < n then (zeroX, 2) else if validB (grownX b n) = false then (zeroX, 2) else (grownX b n, 0)

def meetX (a b : Bx) : Bx := ⟨max a.lx b.lx, max a.ly b.ly, max a.lz b.lz, min a.hx b.hx, min a.hy b.hy, min a.hz b.hz⟩

def meetR (a b : Bx) : Bx × Int :=
  if validB a = true ∧ validB b = true then (if validB (meetX a b) = true then (meetX a b, 0) else (zeroX, 12)) else (zeroX, 1)
end Go.Proofs.Ytolcpkpfndnkbaa
