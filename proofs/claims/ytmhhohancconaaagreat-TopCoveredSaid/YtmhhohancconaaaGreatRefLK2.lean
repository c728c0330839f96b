/- RefL5, RefL6, RefL7 in one text. -/
import Derived.Test.YtmhhohancconaaaGreatRefLK1
import Derived.Test.YtmhhohancconaaaGreatLaidK2
import Derived.Test.YtmhhohancconaaaGreatLaidK4
import Derived.Deep.DeepCutAuto
import Derived.Deep.RegionHeld3
namespace Go.Proofs.YtmhhohancconaaaGreat
open Go.RowKit
set_option maxRecDepth 20000

theorem nearB_in (p : Pt) : nearB p 1048576 = (inI p.x (-1048576) 1048576 && (inI p.y (-1048576) 1048576 && inI p.z (-1048576) 1048576)) := rfl

def addPt (a b : Pt) : Pt := ⟨a.x + b.x, a.y + b.y, a.z + b.z⟩
def mulPt (n : Int) (p : Pt) : Pt := ⟨n * p.x, n * p.y, n * p.z⟩
theorem mul_small' {a b m : Int} (ha : -1 ≤ a ∧ a ≤ 1) (hb : -m ≤ b ∧ b ≤ m) : -m ≤ b * a ∧ b * a ≤ m := by rw [Int.mul_comm]; exact mul_small ha hb
theorem mulPt_near {n m : Int} {p : Pt} (hn : -m ≤ n ∧ n ≤ m) (hp : NearP p 1) : NearP (mulPt n p) m := ⟨mul_small' hp.1 hn, mul_small' hp.2.1 hn, mul_small' hp.2.2 hn⟩
theorem img_sum (tx ty : Int) (p : Pt) : imgP tx ty p = addPt (mulPt p.x (unitP tx)) (addPt (mulPt p.y (unitP ty)) (mulPt p.z (crossP (unitP tx) (unitP ty)))) := by
  unfold imgP addPt mulPt
  simp only [Int.mul_comm, Int.add_assoc]

end Go.Proofs.YtmhhohancconaaaGreat

namespace Go.Proofs.YtmhhohancconaaaGreat
open Go.RowKit
set_option maxRecDepth 20000

def timesPt (p : Pt) (k : Int) : Pt := ⟨p.x * k, p.y * k, p.z * k⟩
theorem timesPt_near {p : Pt} {k : Int} (hp : NearP p 2097152) (hk : 0 ≤ k ∧ k ≤ 2000) : NearP (timesPt p k) 4194304000 := by
  obtain ⟨p1, p2, p3⟩ := hp
  have m1 := mul_range hk p1
  have m2 := mul_range hk p2
  have m3 := mul_range hk p3
  unfold NearP timesPt
  simp only [Int.mul_comm _ k]
  omega
/-- Where the k-th bar of a run stands. -/
def atR (r : Rn) (k : Int) : Pt := if 0 < k then addPt ⟨r.ax, r.ay, r.az⟩ (timesPt ⟨r.sx, r.sy, r.sz⟩ k) else ⟨r.ax, r.ay, r.az⟩
theorem laidL_at (b : Br) (r : Rn) {k : Int} (hk : 0 ≤ k) : laidL b r k = (pathL b).map fun p => addPt (atR r k) (imgP r.tx r.ty p) := by
  unfold laidL
  apply List.map_congr_left
  intro p _
  unfold laidP atR
  split
  · unfold addPt timesPt
    simp only [Int.mul_comm k]
    congr 1 <;> omega
  · obtain rfl : k = 0 := by omega
    unfold addPt
    simp only [Int.zero_mul, Int.add_zero]
    congr 1 <;> omega
theorem own_pts2 {W : World} {M : Nat} {e : TypeId} {v : Value} {n : Nat} {l : List Pt} {p : Pt} (h : W.ownsRow M e 3 v (n + 1) (ptCells l ++ ptCells [p])) (hn : n = l.length) : W.ownsRow M e 3 v (l ++ [p]).length (ptCells (l ++ [p])) := own_pts h hn

end Go.Proofs.YtmhhohancconaaaGreat

namespace Go.Proofs.YtmhhohancconaaaGreat
open Go.RowKit
set_option maxRecDepth 20000

end Go.Proofs.YtmhhohancconaaaGreat

