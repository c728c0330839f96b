/- Turns of space, and the points of laid bars: plain laws. -/
import Derived.Test.YtofjopdcbmaijaaLaidC0
namespace Go.Proofs.Ytofjopdcbmaijaa
open Go.RowKit
set_option maxRecDepth 20000

def unitP (n : Int) : Pt := if n = 1 then ⟨1, 0, 0⟩ else if n = 2 then ⟨0, 1, 0⟩ else if n = 3 then ⟨0, 0, 1⟩ else if n = -1 then ⟨-1, 0, 0⟩ else if n = -2 then ⟨0, -1, 0⟩ else ⟨0, 0, -1⟩
def crossP (a b : Pt) : Pt := ⟨a.y * b.z - a.z * b.y, a.z * b.x - a.x * b.z, a.x * b.y - a.y * b.x⟩
def imgP (tx ty : Int) (p : Pt) : Pt :=
  ⟨(unitP tx).x * p.x + (unitP ty).x * p.y + (crossP (unitP tx) (unitP ty)).x * p.z, (unitP tx).y * p.x + (unitP ty).y * p.y + (crossP (unitP tx) (unitP ty)).y * p.z, (unitP tx).z * p.x + (unitP ty).z * p.y + (crossP (unitP tx) (unitP ty)).z * p.z⟩
def turnB (tx ty : Int) : Bool := (decide (tx ≠ 0) && (decide (-3 ≤ tx) && decide (tx ≤ 3))) && ((decide (ty ≠ 0) && (decide (-3 ≤ ty) && decide (ty ≤ 3))) && (decide (tx ≠ ty) && decide (tx ≠ -ty)))
theorem turn_iff {tx ty : Int} : turnB tx ty = true ↔ (tx ≠ 0 ∧ -3 ≤ tx ∧ tx ≤ 3) ∧ (ty ≠ 0 ∧ -3 ≤ ty ∧ ty ≤ 3) ∧ tx ≠ ty ∧ tx ≠ -ty := by
  unfold turnB; simp only [Bool.and_eq_true, decide_eq_true_iff]
def NearP (p : Pt) (m : Int) : Prop := (-m ≤ p.x ∧ p.x ≤ m) ∧ (-m ≤ p.y ∧ p.y ≤ m) ∧ -m ≤ p.z ∧ p.z ≤ m
def nearB (p : Pt) (m : Int) : Bool := (decide (-m ≤ p.x) && decide (p.x ≤ m)) && ((decide (-m ≤ p.y) && decide (p.y ≤ m)) && (decide (-m ≤ p.z) && decide (p.z ≤ m)))
theorem near_iff {p : Pt} {m : Int} : nearB p m = true ↔ NearP p m := by
  unfold nearB NearP; simp only [Bool.and_eq_true, decide_eq_true_iff]
theorem img_near {tx ty : Int} (h : turnB tx ty = true) {p : Pt} {m : Int} (hp : NearP p m) : NearP (imgP tx ty p) m := by
  obtain ⟨⟨a1, a2, a3⟩, ⟨b1, b2, b3⟩, c1, c2⟩ := turn_iff.1 h
  unfold NearP at hp ⊢
  have hx : tx = 1 ∨ tx = 2 ∨ tx = 3 ∨ tx = -1 ∨ tx = -2 ∨ tx = -3 := by omega
  have hy : ty = 1 ∨ ty = 2 ∨ ty = 3 ∨ ty = -1 ∨ ty = -2 ∨ ty = -3 := by omega
  rcases hx with rfl | rfl | rfl | rfl | rfl | rfl <;> rcases hy with rfl | rfl | rfl | rfl | rfl | rfl <;> first | omega | (simp [imgP, unitP, crossP]; omega)

theorem restB_cons {r n : Int} {l : List Int} : restB r (n :: l) = true ↔ 1 ≤ n ∧ n ≤ r ∧ restB (r - n) l = true := by
  simp only [restB, Bool.and_eq_true, decide_eq_true_iff, and_assoc]
theorem path_near {b : Br} (h : shapeB b = true) : ∀ p ∈ pathL b, NearP p 1048576 := by
  obtain ⟨h1, _, _, _, h5, h6⟩ := shape_facts h
  obtain ⟨mark, size, count, code, dims, dv⟩ := b
  simp only at h1 h5 h6
  unfold pathL ptsK NearP
  simp only
  clear h
  rcases legs_cases code with rfl | rfl | rfl | rfl | rfl | rfl | rfl | rfl | ⟨_, he⟩
  · match dims, h5 with
    | [a], _ =>
      simp only [restB_cons] at h6
      simp [legsC, atK, addP, List.range_succ]; omega
  · match dims, h5 with
    | [a, b], _ =>
      simp only [restB_cons] at h6
      simp [legsC, atK, addP, List.range_succ]; omega
  · match dims, h5 with
    | [a, b, c], _ =>
      simp only [restB_cons] at h6
      simp [legsC, atK, addP, List.range_succ]; omega
  · match dims, h5 with
    | [a, b, c], _ =>
      simp only [restB_cons] at h6
      simp [legsC, atK, addP, List.range_succ]; omega
  · match dims, h5 with
    | [a, b, c], _ =>
      simp only [restB_cons] at h6
      simp [legsC, atK, addP, List.range_succ]; omega
  · match dims, h5 with
    | [a, b, c, d, e], _ =>
      simp only [restB_cons] at h6
      simp [legsC, atK, addP, List.range_succ]; omega
  · match dims, h5 with
    | [a, b, c], _ =>
      simp only [restB_cons] at h6
      simp [legsC, atK, addP, List.range_succ]; omega
  · match dims, h5 with
    | [a, b, c], _ =>
      simp only [restB_cons] at h6
      simp [legsC, atK, addP, List.range_succ]; omega
  · unfold dimsR at h1
    rw [he] at h1
    exact absurd h1 (by decide)

/-- A point of the k-th bar of a run. -/
def laidP (r : Rn) (k : Int) (p : Pt) : Pt := ⟨(imgP r.tx r.ty p).x + r.ax + k * r.sx, (imgP r.tx r.ty p).y + r.ay + k * r.sy, (imgP r.tx r.ty p).z + r.az + k * r.sz⟩
def laidL (b : Br) (r : Rn) (k : Int) : List Pt := (pathL b).map (laidP r k)
/-- A run is right, with the bar of its mark. -/
def rightR (b : Br) (r : Rn) : Bool :=
  turnB r.tx r.ty && (decide (1 ≤ r.count) && (decide (r.count ≤ 1000) && (nearB ⟨r.ax, r.ay, r.az⟩ 1048576 && ((decide (r.count ≤ 1) || (!(decide (r.sx = 0) && (decide (r.sy = 0) && decide (r.sz = 0))) && nearB ⟨r.sx, r.sy, r.sz⟩ 2097152)) &&
    ((laidL b r 0).all (fun p => nearB p 1048576) && (laidL b r (r.count - 1)).all (fun p => nearB p 1048576))))))
def noBar : Br := ⟨⟨#[]⟩, 0, 0, 0, [], .slice none 0 0⟩
def barOf (bars : List Br) (m : ByteArray) : Br := bars.getD (findI bars m).toNat noBar
def runB (bars : List Br) (r : Rn) : Bool := decide (0 ≤ findI bars r.mark) && rightR (barOf bars r.mark) r
def schedB (bars : List Br) : Bool := decide (bars.length ≤ 60) && (List.range bars.length).all fun i => shapeB (bars.getD i noBar) && decide (findI bars (bars.getD i noBar).mark = i)
def countS : List Rn → Int
  | [] => 0
  | r :: l => r.count + countS l
def laidB (bars : List Br) (runs : List Rn) : Bool := schedB bars && (decide (runs.length ≤ 60) && (runs.all (runB bars) && decide (countS runs ≤ 2000)))

end Go.Proofs.Ytofjopdcbmaijaa
