/- RefA, RefB, RefC, RefD, RefE, RefF, RefH in one text. -/
import Derived.Test.YtmhhohancconaaaGreatBoxK2
import Derived.Test.YtmhhohancconaaaGreatExtK
import Derived.Test.YtmhhohancconaaaGreatBaseK
import Derived.Deep.RegionHeld3
namespace Go.Proofs.YtmhhohancconaaaGreat
open Go.RowKit
set_option maxRecDepth 20000

def isLen (n : Int) : Bool := decide (-1048576 ≤ n ∧ n ≤ 1048576)
def coordI (x y z k : Int) : Int := if k = 0 then x else if k = 1 then y else z
theorem isLen_iff {n : Int} : isLen n = true ↔ (-1048576 ≤ n ∧ n ≤ 1048576) := by unfold isLen; exact decide_eq_true_iff
theorem isLen_not {n : Int} (h : isLen n = false) : n < -1048576 ∨ 1048576 < n := by
  unfold isLen at h; have := of_decide_eq_false h; omega

end Go.Proofs.YtmhhohancconaaaGreat

namespace Go.Proofs.YtmhhohancconaaaGreat
open Go.RowKit
set_option maxRecDepth 20000

def squareI (a b : Bx) : Int := max 0 (alongI a b 0) * max 0 (alongI a b 0) + max 0 (alongI a b 1) * max 0 (alongI a b 1) + max 0 (alongI a b 2) * max 0 (alongI a b 2)
theorem along_bound {a b : Bx} (ha : validB a = true) (hb : validB b = true) (k : Int) : alongI a b k ≤ 2097152 := by
  have h1 := valid_iff.1 ha
  have h2 := valid_iff.1 hb
  unfold alongI Bx.lo Bx.hi
  split <;> (try split) <;> omega
theorem pos_sq {a b : Bx} (ha : validB a = true) (hb : validB b = true) (k : Int) : 0 ≤ max 0 (alongI a b k) * max 0 (alongI a b k) ∧ max 0 (alongI a b k) * max 0 (alongI a b k) ≤ 4398046511104 := by
  have h := along_bound ha hb k
  generalize alongI a b k = n at h
  have h0 : 0 ≤ max 0 n := by omega
  have h1 : max 0 n ≤ 2097152 := by omega
  exact ⟨Int.mul_nonneg h0 h0, by have := Int.mul_le_mul h1 h1 h0 (by omega); omega⟩

set_option maxHeartbeats 1000000 in
theorem Square_ok (a b : Bx) (ha : validB a = true) (hb : validB b = true) (w : World) :
    Calls Tryz.prog 95 #[(.agg #[.int .i64 a.lx, .int .i64 a.ly, .int .i64 a.lz, .int .i64 a.hx, .int .i64 a.hy, .int .i64 a.hz]), (.agg #[.int .i64 b.lx, .int .i64 b.ly, .int .i64 b.lz, .int .i64 b.hx, .int .i64 b.hy, .int .i64 b.hz])] w (Ret w (.tuple #[.int .i64 (squareI a b), .int .i64 0])) := by
  have ka := Bd.of_valid ha
  have kb := Bd.of_valid hb
  have q0 := pos_sq ha hb 0
  have q1 := pos_sq ha hb 1
  have q2 := pos_sq ha hb 2
  go_enter Tryz.func95, Tryz.ntmps95
  go_wp2_with fail
  go_at_call 34; refine (valid_v a _ ha _).mono ?_; rintro e w' ⟨rfl, x, rfl⟩
  go_wp2_with fail
  go_at_call 34; refine (valid_v b _ hb _).mono ?_; rintro e w' ⟨rfl, x, rfl⟩
  go_wp2_with fail
  refine wp_loop_rounds 4 ?_
  rw [rounds_succ]
  go_wp2_with fail
  go_at_call 113; refine (along_c a b 0 (by omega) ka kb _).mono ?_; rintro e w' ⟨rfl, x, rfl⟩
  go_wp2_with fail
  rw [rounds_succ]
  go_wp2_with fail
  go_at_call 113; refine (along_c a b 1 (by omega) ka kb _).mono ?_; rintro e w' ⟨rfl, x, rfl⟩
  go_wp2_with fail
  rw [rounds_succ]
  go_wp2_with fail
  go_at_call 113; refine (along_c a b 2 (by omega) ka kb _).mono ?_; rintro e w' ⟨rfl, x, rfl⟩
  go_wp2_with fail
  rw [rounds_succ]
  go_wp2_with fail
  go_ret2
  exact Ret.of (by (repeat (first | exact grow_refl _ | refine grow_ext _ ?_ | refine grow_alloc _ ?_ | refine grow_drew ?_)))

set_option maxHeartbeats 400000 in
theorem Square_err (a b : Bx) (h : ¬ (validB a = true ∧ validB b = true)) (w : World) :
    Calls Tryz.prog 95 #[(.agg #[.int .i64 a.lx, .int .i64 a.ly, .int .i64 a.lz, .int .i64 a.hx, .int .i64 a.hy, .int .i64 a.hz]), (.agg #[.int .i64 b.lx, .int .i64 b.ly, .int .i64 b.lz, .int .i64 b.hx, .int .i64 b.hy, .int .i64 b.hz])] w (Ret w (.tuple #[.int .i64 0, .int .i64 1])) := by
  cases ha : validB a
  · go_enter Tryz.func95, Tryz.ntmps95
    go_wp2_with fail
    go_at_call 34; refine (valid_v a _ ha _).mono ?_; rintro e w' ⟨rfl, x, rfl⟩
    go_wp2
    go_ret2
    exact Ret.of (by (repeat (first | exact grow_refl _ | refine grow_ext _ ?_ | refine grow_alloc _ ?_ | refine grow_drew ?_)))
  · have hb : validB b = false := by cases hb : validB b <;> simp_all
    clear h
    go_enter Tryz.func95, Tryz.ntmps95
    go_wp2_with fail
    go_at_call 34; refine (valid_v a _ ha _).mono ?_; rintro e w' ⟨rfl, x, rfl⟩
    go_wp2_with fail
    go_at_call 34; refine (valid_v b _ hb _).mono ?_; rintro e w' ⟨rfl, x, rfl⟩
    go_wp2
    go_ret2
    exact Ret.of (by (repeat (first | exact grow_refl _ | refine grow_ext _ ?_ | refine grow_alloc _ ?_ | refine grow_drew ?_)))

theorem Square_c (a b : Bx) (w : World) :
    Calls Tryz.prog 95 #[(.agg #[.int .i64 a.lx, .int .i64 a.ly, .int .i64 a.lz, .int .i64 a.hx, .int .i64 a.hy, .int .i64 a.hz]), (.agg #[.int .i64 b.lx, .int .i64 b.ly, .int .i64 b.lz, .int .i64 b.hx, .int .i64 b.hy, .int .i64 b.hz])] w (Ret w (.tuple #[.int .i64 (if validB a = true ∧ validB b = true then squareI a b else 0), .int .i64 (if validB a = true ∧ validB b = true then 0 else 1)])) := by
  by_cases h : validB a = true ∧ validB b = true
  · simpa [h] using Square_ok a b h.1 h.2 w
  · simpa [h] using Square_err a b h w

end Go.Proofs.YtmhhohancconaaaGreat

namespace Go.Proofs.YtmhhohancconaaaGreat
open Go.RowKit
set_option maxRecDepth 20000

/-- Two boxes have a point in common. -/
def meetB (a b : Bx) : Bool := decide (max a.lx b.lx ≤ min a.hx b.hx ∧ max a.ly b.ly ≤ min a.hy b.hy ∧ max a.lz b.lz ≤ min a.hz b.hz)
theorem meetB_iff {a b : Bx} : meetB a b = true ↔ (max a.lx b.lx ≤ min a.hx b.hx ∧ max a.ly b.ly ≤ min a.hy b.hy ∧ max a.lz b.lz ≤ min a.hz b.hz) := by unfold meetB; exact decide_eq_true_iff
def refMeetV (a b : Bx) : Value := if meetB a b = true then .tuple #[(.agg #[.int .i64 (meetX a b).lx, .int .i64 (meetX a b).ly, .int .i64 (meetX a b).lz, .int .i64 (meetX a b).hx, .int .i64 (meetX a b).hy, .int .i64 (meetX a b).hz]), .bool true] else .tuple #[(.agg #[.int .i64 0, .int .i64 0, .int .i64 0, .int .i64 0, .int .i64 0, .int .i64 0]), .bool false]

end Go.Proofs.YtmhhohancconaaaGreat

namespace Go.Proofs.YtmhhohancconaaaGreat
open Go.RowKit
set_option maxRecDepth 20000

def Ord (b : Bx) : Prop := b.lx ≤ b.hx ∧ b.ly ≤ b.hy ∧ b.lz ≤ b.hz
theorem Ord.of_valid {b : Bx} (h : validB b = true) : Ord b := by have := valid_iff.1 h; unfold Ord; omega

end Go.Proofs.YtmhhohancconaaaGreat

namespace Go.Proofs.YtmhhohancconaaaGreat
open Go.RowKit
set_option maxRecDepth 20000

/-- The next cut, after the first q ends of a box. -/
def stepTo (last nx : Int) (k : Int) (x : Bx) (q : Nat) : Int := if q = 0 then nx else if q = 1 then stepN last nx (x.lo k) else stepN last (stepN last nx (x.lo k)) (x.hi k)
theorem stepTo_two (l : List Bx) (last hi k : Int) (j : Nat) (h : j < l.length) : stepTo last (nextL last hi (endsL (l.take j) k)) k l[j] 2 = nextL last hi (endsL (l.take (j + 1)) k) := by
  rw [endsL_take l k j h, nextL_snoc]; rfl
theorem stepN_pos {last nx n : Int} (h : last < n ∧ n < nx) : stepN last nx n = n := if_pos h
theorem stepN_neg {last nx n : Int} (h : ¬ (last < n ∧ n < nx)) : stepN last nx n = nx := if_neg h
def lenOf : Value → Nat
  | .slice _ n _ => n
  | _ => 0

end Go.Proofs.YtmhhohancconaaaGreat

namespace Go.Proofs.YtmhhohancconaaaGreat
open Go.RowKit
set_option maxRecDepth 20000

def rowY (P2 : List (Int × Int)) (x y : Int × Int) : List Bx := P2.map (cellX x y)
def rowX (P1 P2 : List (Int × Int)) (x : Int × Int) : List Bx := P1.flatMap (rowY P2 x)
def rowA (P0 P1 P2 : List (Int × Int)) : List Bx := P0.flatMap (rowX P1 P2)

theorem flat_take {α β : Type} (f : α → List β) (P : List α) (i : Nat) (h : i < P.length) : (P.take (i + 1)).flatMap f = (P.take i).flatMap f ++ f P[i] := by
  rw [List.take_succ_eq_append_getElem h, List.flatMap_append]; simp
theorem flat_len {α β : Type} (f : α → List β) (c : Nat) (P : List α) (h : ∀ x, (f x).length ≤ c) : (P.flatMap f).length ≤ P.length * c := by
  induction P with
  | nil => simp
  | cons a P ih => have := h a; simp only [List.flatMap_cons, List.length_append, List.length_cons, Nat.succ_mul]; omega
theorem rowY_len (P2 : List (Int × Int)) (h : P2.length ≤ 2002) (x y : Int × Int) : (rowY P2 x y).length ≤ 2002 := by unfold rowY; simpa using h
theorem rowX_len (P1 P2 : List (Int × Int)) (h1 : P1.length ≤ 2002) (h2 : P2.length ≤ 2002) (x : Int × Int) : (rowX P1 P2 x).length ≤ 4008004 := by
  unfold rowX
  have := flat_len (rowY P2 x) 2002 P1 (rowY_len P2 h2 x)
  have := Nat.mul_le_mul_right 2002 h1
  omega
theorem row_len (P0 P1 P2 : List (Int × Int)) (h0 : P0.length ≤ 2002) (h1 : P1.length ≤ 2002) (h2 : P2.length ≤ 2002) (i k m : Nat) (x y : Int × Int) :
    ((P0.take i).flatMap (rowX P1 P2) ++ (P1.take k).flatMap (rowY P2 x) ++ (P2.take m).map (cellX x y)).length ≤ 10000000000 := by
  have a0 := List.length_take_le i P0
  have a1 := List.length_take_le k P1
  have a2 := List.length_take_le m P2
  have l0 := List.length_take_le' i P0
  have l1 := List.length_take_le' k P1
  have l2 := List.length_take_le' m P2
  have b0 := flat_len (rowX P1 P2) 4008004 (P0.take i) (rowX_len P1 P2 h1 h2)
  have b1 := flat_len (rowY P2 x) 2002 (P1.take k) (rowY_len P2 h2 x)
  have c0 := Nat.mul_le_mul_right 4008004 (show (P0.take i).length ≤ 2002 by omega)
  have c1 := Nat.mul_le_mul_right 2002 (show (P1.take k).length ≤ 2002 by omega)
  simp only [List.length_append, List.length_map]
  omega
theorem boxCells_append (a b : List Bx) : boxCells (a ++ b) = boxCells a ++ boxCells b := by unfold boxCells; rw [List.flatMap_append]
theorem info_box : (Tryz.prog.info? 56).map (fun i => (i.zero, i.size, i.bytes)) = some (some (.agg #[.int .i64 0, .int .i64 0, .int .i64 0, .int .i64 0, .int .i64 0, .int .i64 0]), 6, 48) := by kernel_rfl

theorem own_ints {w : World} {base : Nat} {v : Value} {C : List Int} (h : w.ownsRow base 3 1 v C.length (C.map (Value.int .i64))) (h0 : 0 < C.length) :
    ∃ g cap, v = .slice (some ⟨g, 0, none⟩) C.length cap ∧ C.length ≤ cap ∧ cap ≤ 9223372036854775807 := by
  obtain ⟨a, cap, rfl, h1, h2, h3⟩ := own_shape h
  obtain ⟨g, rfl, _⟩ := h3 h0
  exact ⟨g, cap, rfl, h1, h2⟩
theorem own_at {w : World} {base g cap : Nat} {C : List Int} (h : w.ownsRow base 3 1 (.slice (some ⟨g, 0, none⟩) C.length cap) C.length (C.map (Value.int .i64))) (i : Nat) (hi : i < C.length) :
    w.cell? ⟨g, i, none⟩ = some (.int .i64 C[i]) := by
  obtain ⟨a, cap', he, h1, h2, h3⟩ := own_shape h
  cases he
  obtain ⟨g', e, _, hc⟩ := h3 (by omega)
  cases e
  have := hc i (by omega)
  rwa [List.getElem?_map, List.getElem?_eq_getElem hi, Option.map_some] at this

/-- A box's parts along an axis, by its cuts. -/
def Axis (P : List (Int × Int)) (C : List Int) : Prop := 1 ≤ C.length ∧ C.length ≤ 2002 ∧ P.length = max 1 (C.length - 1) ∧
  ∀ i n (h : i < P.length) (hn : n = min (i + 1) (C.length - 1)) (h1 : i < C.length) (h2 : n < C.length), P[i] = (C[i], C[n])
theorem axis_of {l : List Bx} {b : Bx} {k : Int} (hb : b.lo k ≤ b.hi k) (hl : l.length ≤ 1000) : Axis (partsL l b k) (cutsB l b k) := by
  obtain ⟨h1, h2⟩ := partsL_cuts (l := l) hb
  obtain ⟨h0, _⟩ := cutsB_facts (l := l) hb
  have h3 := cutsB_length l b k
  refine ⟨h0, by omega, h1, ?_⟩
  intro i n h hn hi hn2
  subst hn
  exact h2 i h hi hn2

end Go.Proofs.YtmhhohancconaaaGreat

namespace Go.Proofs.YtmhhohancconaaaGreat
open Go.RowKit
set_option maxRecDepth 20000

theorem any_true_of {α : Type} {p : α → Bool} {l : List α} {i : Nat} (h : i < l.length) (hp : p l[i] = true) : l.any p = true :=
  List.any_eq_true.2 ⟨_, List.getElem_mem h, hp⟩
theorem any_take_succ {α : Type} {p : α → Bool} {l : List α} {i : Nat} (h : i < l.length) (hp : p l[i] = false) (ht : (l.take i).any p = false) : (l.take (i + 1)).any p = false := by
  rw [List.take_succ_eq_append_getElem h, List.any_append, ht]; simp [hp]

theorem rowA_all (P0 P1 P2 : List (Int × Int)) (f : Bx → Bool) : (rowA P0 P1 P2).all f = P0.all fun x => P1.all fun y => P2.all fun z => f (cellX x y z) := by
  unfold rowA
  rw [List.all_flatMap]
  congr 1
  funext x
  unfold rowX
  rw [List.all_flatMap]
  congr 1
  funext y
  unfold rowY
  rw [List.all_map]
  rfl
theorem coversB_all (l : List Bx) (b : Bx) : (rowA (partsL l b 0) (partsL l b 1) (partsL l b 2)).all (fun c => l.any fun a => containsB a c) = coversB l b := rowA_all _ _ _ _
theorem rowA_ord {l : List Bx} {b : Bx} (hb : Ord b) {c : Bx} (hc : c ∈ rowA (partsL l b 0) (partsL l b 1) (partsL l b 2)) : Ord c := by
  unfold rowA at hc
  obtain ⟨x, hx, hc⟩ := List.mem_flatMap.1 hc
  unfold rowX at hc
  obtain ⟨y, hy, hc⟩ := List.mem_flatMap.1 hc
  unfold rowY at hc
  obtain ⟨z, hz, rfl⟩ := List.mem_map.1 hc
  exact ⟨(parts_spec (k := 0) hb.1 hx).2.1, (parts_spec (k := 1) hb.2.1 hy).2.1, (parts_spec (k := 2) hb.2.2 hz).2.1⟩

end Go.Proofs.YtmhhohancconaaaGreat

