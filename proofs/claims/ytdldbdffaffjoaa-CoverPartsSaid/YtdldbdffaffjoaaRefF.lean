/- The reference's parts of a box. -/
import Derived.Test.YtdldbdffaffjoaaRefE
import Derived.Test.YtdldbdffaffjoaaAwake0
import Derived.Test.YtdldbdffaffjoaaTail
import Derived.Deep.RegionHeld3
namespace Go.Proofs.Ytdldbdffaffjoaa
open Go.RowKit

def rowY (P2 : List (Int × Int)) (x y : Int × Int) : List Bx := P2.map (cellX x y)
def rowX (P1 P2 : List (Int × Int)) (x : Int × Int) : List Bx := P1.flatMap (rowY P2 x)
def rowA (P0 P1 P2 : List (Int × Int)) : List Bx := P0.flatMap (rowX P1 P2)

theorem flat_take {α β : Type} (f : α → List β) (P : List α) (i : Nat) (h : i < P.length) : (P.take (i + 1)).flatMap f = (P.take i).flatMap f ++ f P[i] := by
  rw [List.take_succ_eq_append_getElem h, List.flatMap_append]; simp
theorem flat_len {α β : Type} (f : α → List β) (c : Nat) (P : List α) (h : ∀ x, (f x).length ≤ c) : (P.flatMap f).length ≤ P.length * c := by
  induction P with
  | nil => simp
  | cons a P ih => have := h a; simp only [List.flatMap_cons, List.length_append, List.length_cons, Nat.succ_mul]; omega
theorem rowY_len (P2 : List (Int × Int)) (h : P2.length ≤ 2002) (x y : Int × Int) : (rowY P2 x y).length ≤ 2002 := by unfold rowY; simpa using h
theorem rowX_len (P1 P2 : List (Int × Int)) (h1 : P1.length ≤ 2002) (h2 : P2.length ≤ 2002) (x : Int × Int) : (rowX P1 P2 x).length ≤ 4008004 := by
  unfold rowX
  have := flat_len (rowY P2 x) 2002 P1 (rowY_len P2 h2 x)
  have := Nat.mul_le_mul_right 2002 h1
  omega
theorem row_len (P0 P1 P2 : List (Int × Int)) (h0 : P0.length ≤ 2002) (h1 : P1.length ≤ 2002) (h2 : P2.length ≤ 2002) (i k m : Nat) (x y : Int × Int) :
    ((P0.take i).flatMap (rowX P1 P2) ++ (P1.take k).flatMap (rowY P2 x) ++ (P2.take m).map (cellX x y)).length ≤ 10000000000 := by
  have a0 := List.length_take_le i P0
  have a1 := List.length_take_le k P1
  have a2 := List.length_take_le m P2
  have l0 := List.length_take_le' i P0
  have l1 := List.length_take_le' k P1
  have l2 := List.length_take_le' m P2
  have b0 := flat_len (rowX P1 P2) 4008004 (P0.take i) (rowX_len P1 P2 h1 h2)
  have b1 := flat_len (rowY P2 x) 2002 (P1.take k) (rowY_len P2 h2 x)
  have c0 := Nat.mul_le_mul_right 4008004 (show (P0.take i).length ≤ 2002 by omega)
  have c1 := Nat.mul_le_mul_right 2002 (show (P1.take k).length ≤ 2002 by omega)
  simp only [List.length_append, List.length_map]
  omega
theorem boxCells_append (a b : List Bx) : boxCells (a ++ b) = boxCells a ++ boxCells b := by unfold boxCells; rw [List.flatMap_append]
theorem info_box : (Try.prog.info? 30).map (fun i => (i.zero, i.size, i.bytes)) = some (some (.agg #[.int .i64 0, .int .i64 0, .int .i64 0, .int .i64 0, .int .i64 0, .int .i64 0]), 6, 48) := by kernel_rfl

theorem own_ints {w : World} {base : Nat} {v : Value} {C : List Int} (h : w.ownsRow base 3 1 v C.length (C.map (Value.int .i64))) (h0 : 0 < C.length) :
    ∃ g cap, v = .slice (some ⟨g, 0, none⟩) C.length cap ∧ C.length ≤ cap ∧ cap ≤ 9223372036854775807 := by
  obtain ⟨a, cap, rfl, h1, h2, h3⟩ := own_shape h
  obtain ⟨g, rfl, _⟩ := h3 h0
  exact ⟨g, cap, rfl, h1, h2⟩
theorem own_at {w : World} {base g cap : Nat} {C : List Int} (h : w.ownsRow base 3 1 (.slice (some ⟨g, 0, none⟩) C.length cap) C.length (C.map (Value.int .i64))) (i : Nat) (hi : i < C.length) :
    w.cell? ⟨g, i, none⟩ = some (.int .i64 C[i]) := by
  obtain ⟨a, cap', he, h1, h2, h3⟩ := own_shape h
  cases he
  obtain ⟨g', e, _, hc⟩ := h3 (by omega)
  cases e
  have := hc i (by omega)
  rwa [List.getElem?_map, List.getElem?_eq_getElem hi, Option.map_some] at this

/-- A box's parts along an axis, by its cuts. -/
def Axis (P : List (Int × Int)) (C : List Int) : Prop := 1 ≤ C.length ∧ C.length ≤ 2002 ∧ P.length = max 1 (C.length - 1) ∧
  ∀ i n (h : i < P.length) (hn : n = min (i + 1) (C.length - 1)) (h1 : i < C.length) (h2 : n < C.length), P[i] = (C[i], C[n])
theorem axis_of {l : List Bx} {b : Bx} {k : Int} (hb : b.lo k ≤ b.hi k) (hl : l.length ≤ 1000) : Axis (partsL l b k) (cutsB l b k) := by
  obtain ⟨h1, h2⟩ := partsL_cuts (l := l) hb
  obtain ⟨h0, _⟩ := cutsB_facts (l := l) hb
  have h3 := cutsB_length l b k
  refine ⟨h0, by omega, h1, ?_⟩
  intro i n h hn hi hn2
  subst hn
  exact h2 i h hi hn2

end Go.Proofs.Ytdldbdffaffjoaa
