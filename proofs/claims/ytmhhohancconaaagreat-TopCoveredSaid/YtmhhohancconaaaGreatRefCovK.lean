/- RefCov, RefCov2, RefCov3 in one text. -/
import Derived.Test.YtmhhohancconaaaGreatCovK
import Derived.Test.YtmhhohancconaaaGreatSolK4
import Derived.Test.YtmhhohancconaaaGreatExtK
import Derived.Test.YtmhhohancconaaaGreatCovK0
import Derived.Test.YtmhhohancconaaaGreatPlainK1
namespace Go.Proofs.YtmhhohancconaaaGreat
open Go.RowKit
set_option maxRecDepth 20000

/-- A box that is made longer by six numbers, in the order of -X, X, -Y, Y, -Z, Z (they stand in the places of a box). -/
def madeX (b y : Bx) : Bx := ⟨b.lx - y.lx, b.ly - y.lz, b.lz - y.hy, b.hx + y.ly, b.hy + y.hx, b.hz + y.hz⟩
def timesX (y : Bx) (c : Int) : Bx := ⟨y.lx * c, y.ly * c, y.lz * c, y.hx * c, y.hy * c, y.hz * c⟩
/-- All six numbers lie in a range. -/
def RangeX (b : Bx) (n m : Int) : Prop := (n ≤ b.lx ∧ b.lx ≤ m) ∧ (n ≤ b.ly ∧ b.ly ≤ m) ∧ (n ≤ b.lz ∧ b.lz ≤ m) ∧ (n ≤ b.hx ∧ b.hx ≤ m) ∧ (n ≤ b.hy ∧ b.hy ≤ m) ∧ n ≤ b.hz ∧ b.hz ≤ m
theorem made_zero (b y : Bx) : madeX b (timesX y 0) = b := by simp only [madeX, timesX, Int.mul_zero, Int.sub_zero, Int.add_zero]
theorem RangeX.times {y : Bx} (h : RangeX y 0 1) {c : Int} (h0 : 0 ≤ c) : RangeX (timesX y c) 0 c := by
  obtain ⟨h1, h2, h3, h4, h5, h6⟩ := h
  have key : ∀ a : Int, (0 ≤ a ∧ a ≤ 1) → 0 ≤ a * c ∧ a * c ≤ c := by
    intro a ha
    rcases (show a = 0 ∨ a = 1 by omega) with rfl | rfl
    · rw [Int.zero_mul]; omega
    · rw [Int.one_mul]; omega
  exact ⟨key _ h1, key _ h2, key _ h3, key _ h4, key _ h5, key _ h6⟩

def onesX (n : Int) : Bx := ⟨n, n, n, n, n, n⟩
end Go.Proofs.YtmhhohancconaaaGreat

namespace Go.Proofs.YtmhhohancconaaaGreat
open Go.RowKit
set_option maxRecDepth 20000

theorem BoxAt.shape {w : World} {b off : Nat} {x : Bx} (h : BoxAt w b off x) : w.cell? ⟨b, off, none⟩ = some (.int .i64 x.lx) ∧ w.cell? ⟨b, off + 1, none⟩ = some (.int .i64 x.ly) ∧ w.cell? ⟨b, off + 2, none⟩ = some (.int .i64 x.lz) ∧
  w.cell? ⟨b, off + 3, none⟩ = some (.int .i64 x.hx) ∧ w.cell? ⟨b, off + 4, none⟩ = some (.int .i64 x.hy) ∧ w.cell? ⟨b, off + 5, none⟩ = some (.int .i64 x.hz) := h

end Go.Proofs.YtmhhohancconaaaGreat

namespace Go.Proofs.YtmhhohancconaaaGreat
open Go.RowKit
set_option maxRecDepth 20000

theorem made_ones (b : Bx) (c : Int) : madeX b (timesX (onesX 1) c) = grownX b c := by simp only [madeX, timesX, onesX, grownX, Int.one_mul]
theorem core_range {d : Int} {leg : Bx} (h : validB leg = true) (hd : sizeB d = true) : RangeX (coreX d leg) (-1500000) 1500000 := by
  have h1 := halfD_in hd
  have h2 := valid_iff.1 h
  unfold RangeX coreX; simp only [grownX]; omega

def unitX (i : Nat) : Bx := ⟨if i = 0 then 1 else 0, if i = 1 then 1 else 0, if i = 2 then 1 else 0, if i = 3 then 1 else 0, if i = 4 then 1 else 0, if i = 5 then 1 else 0⟩
theorem made_unit (b : Bx) (i : Nat) (hi : i < 6) (c : Int) : madeX b (timesX (unitX i) c) = sideX b i c := by
  rcases (show i = 0 ∨ i = 1 ∨ i = 2 ∨ i = 3 ∨ i = 4 ∨ i = 5 by omega) with rfl | rfl | rfl | rfl | rfl | rfl
  all_goals simp [madeX, timesX, unitX, sideX]
end Go.Proofs.YtmhhohancconaaaGreat

