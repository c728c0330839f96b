/- BoxF, BoxG, BoxH, BoxI in one text. -/
import Derived.Test.YtofjopdcbmaijaaGreatOwn
import Derived.Deep.RegionLaw
import Derived.Test.YtofjopdcbmaijaaGreatTail
namespace Go.Proofs.YtofjopdcbmaijaaGreat
open Go.RowKit
set_option maxRecDepth 20000

/-- The ends of a box that lie strictly within a span. -/
def inner (lo hi : Int) (k : Int) (x : Bx) : List Int := (if lo < x.lo k ∧ x.lo k < hi then [x.lo k] else []) ++ (if lo < x.hi k ∧ x.hi k < hi then [x.hi k] else [])
def atL (l : List Bx) (lo hi : Int) (k : Int) : List Int := lo :: hi :: l.flatMap (inner lo hi k)
/-- Neighbours in a list. -/
def pairsL : List Int → List (Int × Int)
  | a :: b :: r => (a, b) :: pairsL (b :: r)
  | _ => []
def partsL (l : List Bx) (b : Bx) (k : Int) : List (Int × Int) :=
  if b.lo k = b.hi k then [(b.lo k, b.hi k)] else pairsL (Lib.compact (sorted (atL l (b.lo k) (b.hi k) k)))
def pairCells (l : List (Int × Int)) : List Value := l.flatMap fun p => [.int .i64 p.1, .int .i64 p.2]

theorem info_int : (Tryz.prog.info? 3).map (fun i => (i.zero, i.size, i.bytes)) = some (some (.int .i64 0), 1, 8) := by kernel_rfl

theorem Boxes.shape {w : World} {v : Value} {l : List Bx} (h : Boxes w v l) : ∃ a cap, v = .slice a l.length cap ∧ l.length ≤ cap ∧ cap ≤ 9223372036854775807 ∧
    ∀ i (h : i < l.length), ∃ b off, a = some ⟨b, off, none⟩ ∧ BoxAt w b (off + i * 6) l[i] := h

theorem atL_take (l : List Bx) (lo hi k : Int) (j : Nat) (h : j < l.length) : atL (l.take (j + 1)) lo hi k = atL (l.take j) lo hi k ++ inner lo hi k l[j] := by
  unfold atL
  rw [List.take_succ_eq_append_getElem h, List.flatMap_append]
  simp
theorem inner_length (lo hi k : Int) (x : Bx) : (inner lo hi k x).length ≤ 2 := by
  unfold inner; split <;> split <;> simp
theorem atL_length (l : List Bx) (lo hi k : Int) : (atL l lo hi k).length ≤ 2 + 2 * l.length := by
  unfold atL
  have : (l.flatMap (inner lo hi k)).length ≤ 2 * l.length := by
    induction l with
    | nil => simp
    | cons a l ih => have := inner_length lo hi k a; simp only [List.flatMap_cons, List.length_append, List.length_cons]; omega
  simp only [List.length_cons]; omega

/-- What the first q of the two ends of a box add. -/
def innerTo (lo hi : Int) (k : Int) (x : Bx) (q : Nat) : List Int := if q = 0 then [] else if q = 1 then (if lo < x.lo k ∧ x.lo k < hi then [x.lo k] else []) else inner lo hi k x
theorem innerTo_length (lo hi k : Int) (x : Bx) (q : Nat) : (innerTo lo hi k x q).length ≤ 2 := by
  unfold innerTo; have := inner_length lo hi k x; split <;> (try split) <;> (try split) <;> simp_all

theorem pairsL_snoc (C : List Int) (q : Nat) (h1 : 1 ≤ q) (h2 : q < C.length) : pairsL (C.take (q + 1)) = pairsL (C.take q) ++ [(C[q - 1]'(by omega), C[q])] := by
  induction C generalizing q with
  | nil => simp at h2
  | cons a C ih =>
    obtain ⟨p, rfl⟩ : ∃ p, q = p + 1 := ⟨q - 1, by omega⟩
    match C, p, h2 with
    | [], p, h2 => simp at h2
    | b :: r, 0, _ => simp [pairsL]
    | b :: r, p + 1, h2 =>
      have := ih (p + 1) (by omega) (by simpa using h2)
      simp only [List.take_succ_cons, pairsL] at this ⊢
      rw [this]
      simp
theorem pairsL_one (C : List Int) (q : Nat) (h : q ≤ 1) : pairsL (C.take q) = [] := by
  match q, C with
  | 0, _ => simp [pairsL]
  | 1, [] => simp [pairsL]
  | 1, a :: r => simp [pairsL]
  | q + 2, _ => omega
theorem pairsL_length (C : List Int) : (pairsL C).length ≤ C.length := by
  induction C with
  | nil => simp [pairsL]
  | cons a C ih => cases C with
    | nil => simp [pairsL]
    | cons b r => simp only [pairsL, List.length_cons] at ih ⊢; omega
end Go.Proofs.YtofjopdcbmaijaaGreat

namespace Go.Proofs.YtofjopdcbmaijaaGreat
open Go.RowKit
set_option maxRecDepth 20000

theorem Boxes.below {w w' : World} {v : Value} {l : List Bx} (h : Boxes w v l) (hb : Below w.heap.size w w') : Boxes w' v l := by
  obtain ⟨x, rfl⟩ := ext_of hb; exact h.ext x

/-- A slice value that reads as a list of pairs. -/
def Pairs (w : World) (v : Value) (l : List (Int × Int)) : Prop :=
  ∃ a cap, v = .slice a l.length cap ∧ l.length ≤ cap ∧ cap ≤ 9223372036854775807 ∧
    ∀ i (h : i < l.length), ∃ g, a = some ⟨g, 0, none⟩ ∧ w.cell? ⟨g, i * 2, none⟩ = some (.int .i64 l[i].1) ∧ w.cell? ⟨g, i * 2 + 1, none⟩ = some (.int .i64 l[i].2)
theorem Pairs.ext {w : World} {v : Value} {l : List (Int × Int)} (h : Pairs w v l) (y : World) : Pairs (ext w y) v l := by
  obtain ⟨a, cap, h1, h2, h3, h4⟩ := h
  exact ⟨a, cap, h1, h2, h3, fun i hi => let ⟨g, e, c1, c2⟩ := h4 i hi; ⟨g, e, cell_ext_some c1 y, cell_ext_some c2 y⟩⟩
theorem Pairs.below {w w' : World} {v : Value} {l : List (Int × Int)} (h : Pairs w v l) (hb : Below w.heap.size w w') : Pairs w' v l := by
  obtain ⟨x, rfl⟩ := ext_of hb; exact h.ext x
theorem pairCells_get (l : List (Int × Int)) (i : Nat) (h : i < l.length) : (pairCells l)[i * 2]? = some (.int .i64 l[i].1) ∧ (pairCells l)[i * 2 + 1]? = some (.int .i64 l[i].2) := by
  induction l generalizing i with
  | nil => simp at h
  | cons a l ih =>
    cases i with
    | zero => simp [pairCells]
    | succ i =>
      have := ih i (by simpa using h)
      have e1 : (i + 1) * 2 = i * 2 + 1 + 1 := by omega
      simp only [pairCells, List.flatMap_cons, List.cons_append, List.nil_append, List.getElem_cons_succ] at this ⊢
      rw [e1, List.getElem?_cons_succ, List.getElem?_cons_succ, show i * 2 + 1 + 1 + 1 = (i * 2 + 1) + 1 + 1 from rfl, List.getElem?_cons_succ, List.getElem?_cons_succ]
      exact this
theorem Pairs.of_own {w : World} {base : Nat} {e : TypeId} {v : Value} {l : List (Int × Int)} (h : w.ownsRow base e 2 v l.length (pairCells l)) : Pairs w v l := by
  obtain ⟨a, cap, rfl, h1, h2, h3⟩ := own_shape h
  unfold maxLen at h2
  refine ⟨a, cap, rfl, h1, by omega, fun i hi => ?_⟩
  obtain ⟨g, rfl, _, hc⟩ := h3 (by omega)
  obtain ⟨p1, p2⟩ := pairCells_get l i hi
  exact ⟨g, rfl, by rw [hc _ (by omega), p1], by rw [hc _ (by omega), p2]⟩

def cellX (x y z : Int × Int) : Bx := ⟨x.1, y.1, z.1, x.2, y.2, z.2⟩
def okZ (l : List Bx) (x y z : Int × Int) : Bool := l.any fun a => containsB a (cellX x y z)
def okY (l : List Bx) (b : Bx) (x y : Int × Int) : Bool := (partsL l b 2).all (okZ l x y)
def okX (l : List Bx) (b : Bx) (x : Int × Int) : Bool := (partsL l b 1).all (okY l b x)
/-- Boxes cover a box, cell by cell. -/
def coversB (l : List Bx) (b : Bx) : Bool := (partsL l b 0).all (okX l b)

theorem all_false_of {α : Type} {p : α → Bool} {l : List α} {i : Nat} (h : i < l.length) (hp : p l[i] = false) : l.all p = false := by
  rw [List.all_eq_false]; exact ⟨l[i], List.getElem_mem h, by simp [hp]⟩
theorem all_take_succ {α : Type} {p : α → Bool} {l : List α} {i : Nat} (h : i < l.length) (hp : p l[i] = true) (ht : (l.take i).all p = true) : (l.take (i + 1)).all p = true := by
  rw [List.take_succ_eq_append_getElem h, List.all_append, ht]; simp [hp]

end Go.Proofs.YtofjopdcbmaijaaGreat

namespace Go.Proofs.YtofjopdcbmaijaaGreat
open Go.RowKit
set_option maxRecDepth 20000

/-- The coordinates of the nearest points along an axis, by the ends of both boxes. -/
def nearI (al ah bl bh : Int) : Int × Int := if ah < bl then (ah, bl) else if bh < al then (al, bh) else (max al bl, max al bl)
def nearP (a b : Bx) (k : Int) : Int × Int := nearI (a.lo k) (a.hi k) (b.lo k) (b.hi k)
theorem near_tri (al ah bl bh : Int) : (ah < bl ∧ (nearI al ah bl bh).1 = ah ∧ (nearI al ah bl bh).2 = bl) ∨ (bl ≤ ah ∧ bh < al ∧ (nearI al ah bl bh).1 = al ∧ (nearI al ah bl bh).2 = bh) ∨
    (bl ≤ ah ∧ al ≤ bh ∧ (nearI al ah bl bh).1 = max al bl ∧ (nearI al ah bl bh).2 = max al bl) := by
  unfold nearI
  by_cases h1 : ah < bl
  · rw [if_pos h1]; exact .inl ⟨h1, rfl, rfl⟩
  · rw [if_neg h1]
    by_cases h2 : bh < al
    · rw [if_pos h2]; exact .inr (.inl ⟨by omega, h2, rfl, rfl⟩)
    · rw [if_neg h2]; exact .inr (.inr ⟨by omega, by omega, rfl, rfl⟩)

def nearV (a b : Bx) : Value := .tuple #[(.agg #[.int .i64 (nearP a b 0).1, .int .i64 (nearP a b 1).1, .int .i64 (nearP a b 2).1]), (.agg #[.int .i64 (nearP a b 0).2, .int .i64 (nearP a b 1).2, .int .i64 (nearP a b 2).2]), .int .i64 0]

/-- What the two points hold after k axes. -/
def pc (a b : Bx) (k j : Nat) (i : Int) : Int := if j < k then (nearP a b i).1 else 0
def qc (a b : Bx) (k j : Nat) (i : Int) : Int := if j < k then (nearP a b i).2 else 0
theorem ext_refl (w : World) : ∃ x, w = ext w x := ext_of (Below.refl _ _)

end Go.Proofs.YtofjopdcbmaijaaGreat

namespace Go.Proofs.YtofjopdcbmaijaaGreat
open Go.RowKit
set_option maxRecDepth 20000

def coversV (l : List Bx) (b : Bx) : Bool × Int :=
  if l.all validB = true ∧ validB b = true then (if l.length ≤ 40 then (coversB l b, 0) else (false, 4)) else (false, 1)
end Go.Proofs.YtofjopdcbmaijaaGreat

