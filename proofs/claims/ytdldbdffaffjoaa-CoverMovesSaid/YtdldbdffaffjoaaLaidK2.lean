/- LaidE, LaidF, LaidG in one text. -/
import Derived.Test.YtdldbdffaffjoaaLaidK1
import Derived.Test.YtdldbdffaffjoaaLaidC
namespace Go.Proofs.Ytdldbdffaffjoaa
open Go.RowKit
set_option maxRecDepth 20000

theorem near_take_succ {l : List Pt} {m : Int} {k : Nat} (h : k < l.length) (h1 : ∀ j (_ : j < k) (h' : j < l.length), nearB l[j] m = true) (h2 : nearB l[k] m = true) : ∀ j (_ : j < k + 1) (h' : j < l.length), nearB l[j] m = true := by
  intro j hj h'
  rcases Nat.lt_or_ge j k with q | q
  · exact h1 j q h'
  · obtain rfl : j = k := by omega
    exact h2
theorem all_near_true {l : List Pt} {m : Int} (h : ∀ j (hj : j < l.length), nearB l[j] m = true) : (l.all fun p => nearB p m) = true := by
  rw [List.all_eq_true]
  intro p hp
  obtain ⟨j, hj, rfl⟩ := List.getElem_of_mem hp
  exact h j hj
theorem all_near_false {l : List Pt} {m : Int} {k : Nat} (hk : k < l.length) (h : nearB l[k] m = false) : (l.all fun p => nearB p m) = false := by
  rw [List.all_eq_false]
  exact ⟨_, List.getElem_mem hk, by rw [h]; exact Bool.false_ne_true⟩

end Go.Proofs.Ytdldbdffaffjoaa

namespace Go.Proofs.Ytdldbdffaffjoaa
open Go.RowKit
set_option maxRecDepth 20000

/-- What holds before each round of frame.Path. -/
structure FPathJ (w : World) (tx ty : Int) (l : List Pt) (g3 g4 base k : Nat) (v : Value) (wr : World) : Prop where
  below : Below w.heap.size w wr
  turn : Blk wr g3 #[.int .i64 tx, .int .i64 ty] 75
  at0 : Blk wr g4 #[.int .i64 0, .int .i64 0, .int .i64 0] 28
  row : wr.ownsRow base 28 3 v k (ptCells ((l.take k).map (imgP tx ty)))
theorem FPathJ.step {w : World} {tx ty : Int} {l : List Pt} {g3 g4 base k : Nat} {v : Value} {wr : World} (h : FPathJ w tx ty l g3 g4 base k v wr) (h3 : g3 < base) (h4 : g4 < base) (hb : w.heap.size ≤ base) (o : Obj) (y : World) (o2 : Obj)
    (hk : k < l.length) (p : Pt) (hp : l[k] = p) {v' : Value} {w' : World} (hown : w'.ownsRow base 28 3 v' (k + 1) (ptCells ((l.take k).map (imgP tx ty)) ++ ptCells [imgP tx ty p])) (hg : ((ext (wr.alloc o) y).alloc o2).grownBy w' v.ownBlock) : FPathJ w tx ty l g3 g4 base (k + 1) v' w' := by
  have s1 : w.heap.size ≤ wr.heap.size := h.below.size
  have hrow : ∀ k, v.ownBlock = some k → w.heap.size ≤ k := fun k e => by have := (h.row.lt k e).1; omega
  have r4 : some g4 ≠ v.ownBlock := own_base_ne h.row h4
  have r3 : some g3 ≠ v.ownBlock := own_base_ne h.row h3
  subst hp
  refine ⟨?_, (((h.turn.alloc o).ext y).alloc o2).grown hg r3, (((h.at0.alloc o).ext y).alloc o2).grown hg r4, ?_⟩
  · have h1 : Below w.heap.size w ((ext (wr.alloc o) y).alloc o2) := (grow_alloc _ (grow_ext _ (h.below.alloc s1 _)))
    exact h1.grown hg (by simp only [World.size_alloc, size_ext]; omega) hrow
  · rw [List.take_succ_eq_append_getElem hk, List.map_append, ptCells_append]; exact hown

/-- The path of a run, before it is moved. -/
def turnedL (b : Br) (r : Rn) : List Pt := (pathL b).map (imgP r.tx r.ty)
theorem path_len (b : Br) : 1 ≤ (pathL b).length ∧ (pathL b).length ≤ 7 := by
  unfold pathL
  rw [ptsK_length]
  have := (legs_way b.code).1
  omega

end Go.Proofs.Ytdldbdffaffjoaa

namespace Go.Proofs.Ytdldbdffaffjoaa
open Go.RowKit
set_option maxRecDepth 20000

theorem mul_range {k s m b : Int} (hk : 0 ≤ k ∧ k ≤ m) (hs : -b ≤ s ∧ s ≤ b) : -(m * b) ≤ k * s ∧ k * s ≤ m * b := by
  have hb : 0 ≤ b := by omega
  have h1 : k * s ≤ k * b := Int.mul_le_mul_of_nonneg_left hs.2 hk.1
  have h2 : k * b ≤ m * b := Int.mul_le_mul_of_nonneg_right hk.2 hb
  have h3 : k * (-b) ≤ k * s := Int.mul_le_mul_of_nonneg_left hs.1 hk.1
  rw [Int.mul_neg] at h3
  omega
def plusP (p s : Pt) (k : Int) : Pt := ⟨p.x + k * s.x, p.y + k * s.y, p.z + k * s.z⟩

end Go.Proofs.Ytdldbdffaffjoaa

