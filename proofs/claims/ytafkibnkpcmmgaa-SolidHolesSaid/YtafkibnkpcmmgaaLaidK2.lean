/- LaidE, LaidF, LaidG in one text. -/
import Derived.Test.YtafkibnkpcmmgaaLaidK1
import Derived.Test.YtafkibnkpcmmgaaLaidC
namespace Go.Proofs.Ytafkibnkpcmmgaa
open Go.RowKit
set_option maxRecDepth 20000

theorem near_take_succ {l : List Pt} {m : Int} {k : Nat} (h : k < l.length) (h1 : ∀ j (_ : j < k) (h' : j < l.length), nearB l[j] m = true) (h2 : nearB l[k] m = true) : ∀ j (_ : j < k + 1) (h' : j < l.length), nearB l[j] m = true := by
  intro j hj h'
  rcases Nat.lt_or_ge j k with q | q
  · exact h1 j q h'
  · obtain rfl : j = k := by omega
    exact h2
theorem all_near_true {l : List Pt} {m : Int} (h : ∀ j (hj : j < l.length), nearB l[j] m = true) : (l.all fun p => nearB p m) = true := by
  rw [List.all_eq_true]
  intro p hp
  obtain ⟨j, hj, rfl⟩ := List.getElem_of_mem hp
  exact h j hj
theorem all_near_false {l : List Pt} {m : Int} {k : Nat} (hk : k < l.length) (h : nearB l[k] m = false) : (l.all fun p => nearB p m) = false := by
  rw [List.all_eq_false]
  exact ⟨_, List.getElem_mem hk, by rw [h]; exact Bool.false_ne_true⟩

end Go.Proofs.Ytafkibnkpcmmgaa

namespace Go.Proofs.Ytafkibnkpcmmgaa
open Go.RowKit
set_option maxRecDepth 20000

/-- The path of a run, before it is moved. -/
def turnedL (b : Br) (r : Rn) : List Pt := (pathL b).map (imgP r.tx r.ty)
theorem path_len (b : Br) : 1 ≤ (pathL b).length ∧ (pathL b).length ≤ 7 := by
  unfold pathL
  rw [ptsK_length]
  have := (legs_way b.code).1
  omega

end Go.Proofs.Ytafkibnkpcmmgaa

namespace Go.Proofs.Ytafkibnkpcmmgaa
open Go.RowKit
set_option maxRecDepth 20000

theorem mul_range {k s m b : Int} (hk : 0 ≤ k ∧ k ≤ m) (hs : -b ≤ s ∧ s ≤ b) : -(m * b) ≤ k * s ∧ k * s ≤ m * b := by
  have hb : 0 ≤ b := by omega
  have h1 : k * s ≤ k * b := Int.mul_le_mul_of_nonneg_left hs.2 hk.1
  have h2 : k * b ≤ m * b := Int.mul_le_mul_of_nonneg_right hk.2 hb
  have h3 : k * (-b) ≤ k * s := Int.mul_le_mul_of_nonneg_left hs.1 hk.1
  rw [Int.mul_neg] at h3
  omega
def plusP (p s : Pt) (k : Int) : Pt := ⟨p.x + k * s.x, p.y + k * s.y, p.z + k * s.z⟩

end Go.Proofs.Ytafkibnkpcmmgaa

