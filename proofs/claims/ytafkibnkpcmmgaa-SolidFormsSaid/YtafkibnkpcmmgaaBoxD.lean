/- Contracts of package box, fourth part: Grown, Meet, Square. -/
import Derived.Test.YtafkibnkpcmmgaaBoxC
namespace Go.Proofs.Ytafkibnkpcmmgaa
open Go.RowKit

def zeroX : Bx := ⟨0, 0, 0, 0, 0, 0⟩
def grownX (b : Bx) (n : Int) : Bx := ⟨b.lx - n, b.ly - n, b.lz - n, b.hx + n, b.hy + n, b.hz + n⟩
def grownR (b : Bx) (n : Int) : Bx × Int :=
  if validB b = false then (zeroX, 1) else if n < 0 ∨ 1048576 < n then (zeroX, 2) else if validB (grownX b n) = false then (zeroX, 2) else (grownX b n, 0)

def meetX (a b : Bx) : Bx := ⟨max a.lx b.lx, max a.ly b.ly, max a.lz b.lz, min a.hx b.hx, min a.hy b.hy, min a.hz b.hz⟩

def meetR (a b : Bx) : Bx × Int :=
  if validB a = true ∧ validB b = true then (if validB (meetX a b) = true then (meetX a b, 0) else (zeroX, 12)) else (zeroX, 1)
theorem Contains_c (a b : Bx) (w : World) :
    Calls Try.prog 42 #[(.agg #[.int .i64 a.lx, .int .i64 a.ly, .int .i64 a.lz, .int .i64 a.hx, .int .i64 a.hy, .int .i64 a.hz]), (.agg #[.int .i64 b.lx, .int .i64 b.ly, .int .i64 b.lz, .int .i64 b.hx, .int .i64 b.hy, .int .i64 b.hz])] w (Ret w (.tuple #[.bool (validB a && validB b && containsB a b), .int .i64 (if validB a = true ∧ validB b = true then 0 else 1)])) := by
  by_cases h : validB a = true ∧ validB b = true
  · simpa [h] using Contains_ok a b h.1 h.2 w
  · have e : (validB a && validB b) = false := by
      cases ha : validB a <;> cases hb : validB b <;> simp_all
    simpa [h, e] using Contains_err a b h w

theorem Gap_c (a b : Bx) (w : World) :
    Calls Try.prog 26 #[(.agg #[.int .i64 a.lx, .int .i64 a.ly, .int .i64 a.lz, .int .i64 a.hx, .int .i64 a.hy, .int .i64 a.hz]), (.agg #[.int .i64 b.lx, .int .i64 b.ly, .int .i64 b.lz, .int .i64 b.hx, .int .i64 b.hy, .int .i64 b.hz])] w (Ret w (.tuple #[.int .i64 (if validB a = true ∧ validB b = true then gapI a b else 0), .int .i64 (if validB a = true ∧ validB b = true then 0 else 1)])) := by
  by_cases h : validB a = true ∧ validB b = true
  · simpa [h] using Gap_ok a b h.1 h.2 w
  · simpa [h] using Gap_err a b h w

end Go.Proofs.Ytafkibnkpcmmgaa
