/- Sums of areas of cuts. -/
import Derived.Test.YtofjopdcbmaijaaGreatGapK2
import Derived.Test.YtofjopdcbmaijaaGreatGapK4
namespace Go.Proofs.YtofjopdcbmaijaaGreat
open Go.RowKit
set_option maxRecDepth 20000

/-- The sum of the areas of cuts. -/
def steelT (L : List Ct) (n : Nat) : Int := (L.take n).foldl (fun s c => s + areaI c.size) 0
def steelI (L : List Ct) : Int := L.foldl (fun s c => s + areaI c.size) 0
theorem steelT_succ {L : List Ct} {n : Nat} (h : n < L.length) : steelT L (n + 1) = steelT L n + areaI L[n].size := by
  unfold steelT
  rw [List.take_succ_eq_append_getElem h, List.foldl_append]; rfl
theorem steelT_all (L : List Ct) : steelT L L.length = steelI L := by unfold steelT steelI; rw [List.take_length]
theorem steelT_range {L : List Ct} (hs : ∀ c ∈ L, sizeB c.size = true) (n : Nat) (h : n ≤ L.length) : 0 ≤ steelT L n ∧ steelT L n ≤ 130000 * (n : Int) := by
  induction n with
  | zero => simp [steelT]
  | succ n ih =>
    rw [steelT_succ (by omega)]
    have h1 := ih (by omega)
    have h2 := areaI_range (hs _ (List.getElem_mem (show n < L.length by omega)))
    omega

end Go.Proofs.YtofjopdcbmaijaaGreat
