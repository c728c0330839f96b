/- The spans of a box along an axis, cut at the ends of other boxes: box.parts. -/
import Derived.Test.YtofjopdcbmaijaaOwn
import Derived.Deep.RegionLaw
namespace Go.Proofs.Ytofjopdcbmaijaa
open Go.RowKit
set_option maxRecDepth 20000

/-- The ends of a box that lie strictly within a span. -/
def inner (lo hi : Int) (k : Int) (x : Bx) : List Int := (if lo < x.lo k ∧ x.lo k < hi then [x.lo k] else []) ++ (if lo < x.hi k ∧ x.hi k < hi then [x.hi k] else [])
def atL (l : List Bx) (lo hi : Int) (k : Int) : List Int := lo :: hi :: l.flatMap (inner lo hi k)
/-- Neighbours in a list. -/
def pairsL : List Int → List (Int × Int)
  | a :: b :: r => (a, b) :: pairsL (b :: r)
  | _ => []
def partsL (l : List Bx) (b : Bx) (k : Int) : List (Int × Int) :=
  if b.lo k = b.hi k then [(b.lo k, b.hi k)] else pairsL (Lib.compact (sorted (atL l (b.lo k) (b.hi k) k)))
def pairCells (l : List (Int × Int)) : List Value := l.flatMap fun p => [.int .i64 p.1, .int .i64 p.2]

theorem info_int : (Try.prog.info? 3).map (fun i => (i.zero, i.size, i.bytes)) = some (some (.int .i64 0), 1, 8) := by kernel_rfl

theorem Boxes.shape {w : World} {v : Value} {l : List Bx} (h : Boxes w v l) : ∃ a cap, v = .slice a l.length cap ∧ l.length ≤ cap ∧ cap ≤ 9223372036854775807 ∧
    ∀ i (h : i < l.length), ∃ b off, a = some ⟨b, off, none⟩ ∧ BoxAt w b (off + i * 6) l[i] := h

theorem atL_take (l : List Bx) (lo hi k : Int) (j : Nat) (h : j < l.length) : atL (l.take (j + 1)) lo hi k = atL (l.take j) lo hi k ++ inner lo hi k l[j] := by
  unfold atL
  rw [List.take_succ_eq_append_getElem h, List.flatMap_append]
  simp
theorem inner_length (lo hi k : Int) (x : Bx) : (inner lo hi k x).length ≤ 2 := by
  unfold inner; split <;> split <;> simp
theorem atL_length (l : List Bx) (lo hi k : Int) : (atL l lo hi k).length ≤ 2 + 2 * l.length := by
  unfold atL
  have : (l.flatMap (inner lo hi k)).length ≤ 2 * l.length := by
    induction l with
    | nil => simp
    | cons a l ih => have := inner_length lo hi k a; simp only [List.flatMap_cons, List.length_append, List.length_cons]; omega
  simp only [List.length_cons]; omega

/-- What the first q of the two ends of a box add. -/
def innerTo (lo hi : Int) (k : Int) (x : Bx) (q : Nat) : List Int := if q = 0 then [] else if q = 1 then (if lo < x.lo k ∧ x.lo k < hi then [x.lo k] else []) else inner lo hi k x
theorem innerTo_length (lo hi k : Int) (x : Bx) (q : Nat) : (innerTo lo hi k x q).length ≤ 2 := by
  unfold innerTo; have := inner_length lo hi k x; split <;> (try split) <;> (try split) <;> simp_all

theorem pairsL_snoc (C : List Int) (q : Nat) (h1 : 1 ≤ q) (h2 : q < C.length) : pairsL (C.take (q + 1)) = pairsL (C.take q) ++ [(C[q - 1]'(by omega), C[q])] := by
  induction C generalizing q with
  | nil => simp at h2
  | cons a C ih =>
    obtain ⟨p, rfl⟩ : ∃ p, q = p + 1 := ⟨q - 1, by omega⟩
    match C, p, h2 with
    | [], p, h2 => simp at h2
    | b :: r, 0, _ => simp [pairsL]
    | b :: r, p + 1, h2 =>
      have := ih (p + 1) (by omega) (by simpa using h2)
      simp only [List.take_succ_cons, pairsL] at this ⊢
      rw [this]
      simp
theorem pairsL_one (C : List Int) (q : Nat) (h : q ≤ 1) : pairsL (C.take q) = [] := by
  match q, C with
  | 0, _ => simp [pairsL]
  | 1, [] => simp [pairsL]
  | 1, a :: r => simp [pairsL]
  | q + 2, _ => omega
theorem pairsL_length (C : List Int) : (pairsL C).length ≤ C.length := by
  induction C with
  | nil => simp [pairsL]
  | cons a C ih => cases C with
    | nil => simp [pairsL]
    | cons b r => simp only [pairsL, List.length_cons] at ih ⊢; omega
end Go.Proofs.Ytofjopdcbmaijaa
