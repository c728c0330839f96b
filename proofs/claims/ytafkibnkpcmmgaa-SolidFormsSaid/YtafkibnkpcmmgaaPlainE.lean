/- The parts of a solid in their order: what has come before a part. -/
import Derived.Test.YtafkibnkpcmmgaaPlainX
namespace Go.Proofs.Ytafkibnkpcmmgaa

/-- The parts that have come when a whole layers, b whole columns of the next one, and c cells of the next column are done. -/
def doneB (P0 P1 P2 : List (Int × Int)) (p q : Int × Int) (a b c : Nat) : List Bx := rowA (P0.take a) P1 P2 ++ (rowX (P1.take b) P2 p ++ rowY (P2.take c) p q)
def doneS (l m : List Bx) (P0 P1 P2 : List (Int × Int)) (p q : Int × Int) (a b c : Nat) : List Bx := (doneB P0 P1 P2 p q a b c).filter (selB l m)

section
variable {l m : List Bx} {P0 P1 P2 : List (Int × Int)} {p q : Int × Int} {a b c : Nat}
theorem done_zero (p q : Int × Int) : doneS l m P0 P1 P2 p q 0 0 0 = [] := by simp [doneS, doneB, rowA, rowX, rowY]
theorem done_any (p' q' : Int × Int) : doneS l m P0 P1 P2 p q a 0 0 = doneS l m P0 P1 P2 p' q' a 0 0 := by simp [doneS, doneB, rowX, rowY]
theorem done_any2 (q' : Int × Int) : doneS l m P0 P1 P2 p q a b 0 = doneS l m P0 P1 P2 p q' a b 0 := by simp [doneS, doneB, rowY]
theorem take_flat {α β : Type} (f : α → List β) (P : List α) (i : Nat) (h : i < P.length) : (P.take (i + 1)).flatMap f = (P.take i).flatMap f ++ f P[i] := by
  rw [List.take_succ_eq_append_getElem h, List.flatMap_append]; simp
/-- One cell more. -/
theorem done_cell (hc : c < P2.length) : doneB P0 P1 P2 p q a b (c + 1) = doneB P0 P1 P2 p q a b c ++ [cellX p q P2[c]] := by
  unfold doneB rowY
  rw [List.take_succ_eq_append_getElem hc, List.map_append, List.map_cons, List.map_nil, List.append_assoc, List.append_assoc]
theorem done_sel (hc : c < P2.length) (h : selB l m (cellX p q P2[c]) = true) : doneS l m P0 P1 P2 p q a b (c + 1) = doneS l m P0 P1 P2 p q a b c ++ [cellX p q P2[c]] := by
  unfold doneS; rw [done_cell hc, List.filter_append]; simp [h]
theorem done_skip (hc : c < P2.length) (h : selB l m (cellX p q P2[c]) = false) : doneS l m P0 P1 P2 p q a b (c + 1) = doneS l m P0 P1 P2 p q a b c := by
  unfold doneS; rw [done_cell hc, List.filter_append]; simp [h]
/-- A column is done. -/
theorem done_column (hb : b < P1.length) (hq : q = P1[b]) : doneS l m P0 P1 P2 p q a b P2.length = doneS l m P0 P1 P2 p q a (b + 1) 0 := by
  subst hq
  unfold doneS doneB rowX
  rw [take_flat _ P1 b hb, List.take_length]
  simp [rowY]
/-- A layer is done. -/
theorem done_layer (ha : a < P0.length) (hp : p = P0[a]) : doneS l m P0 P1 P2 p q a P1.length 0 = doneS l m P0 P1 P2 p q (a + 1) 0 0 := by
  subst hp
  unfold doneS doneB rowA
  rw [take_flat _ P0 a ha, List.take_length]
  simp [rowY, rowX]
theorem done_all : doneS l m P0 P1 P2 p q P0.length 0 0 = (rowA P0 P1 P2).filter (selB l m) := by
  unfold doneS doneB; rw [List.take_length]; simp [rowX, rowY]
theorem prefix_flat {α β : Type} (f : α → List β) (P : List α) (i : Nat) (h : i < P.length) {xs : List β} (hx : xs <+: f P[i]) : (P.take i).flatMap f ++ xs <+: P.flatMap f := by
  have e : P.flatMap f = (P.take i).flatMap f ++ (f P[i] ++ (P.drop (i + 1)).flatMap f) := by
    rw [← List.append_assoc, ← take_flat f P i h, ← List.flatMap_append, List.take_append_drop]
  rw [e, List.prefix_append_right_inj]
  exact hx.trans (List.prefix_append _ _)
theorem done_prefix (ha : a < P0.length) (hp : p = P0[a]) (hb : b < P1.length) (hq : q = P1[b]) (hc : c < P2.length) (h : selB l m (cellX p q P2[c]) = true) :
    doneS l m P0 P1 P2 p q a b c ++ [cellX p q P2[c]] <+: (rowA P0 P1 P2).filter (selB l m) := by
  rw [← done_sel hc h]
  unfold doneS
  refine List.IsPrefix.filter _ ?_
  subst hp hq
  unfold doneB rowA
  refine prefix_flat _ P0 a ha ?_
  unfold rowX
  refine prefix_flat _ P1 b hb ?_
  unfold rowY
  rw [List.map_take]
  exact List.take_prefix _ _
end

theorem pairs_at (C : List Int) (i : Nat) (h : i + 1 < C.length) : ∃ hi : i < (pairsL C).length, (pairsL C)[i] = (C[i]'(by omega), C[i + 1]) := by
  have hl := pairsL_len C
  exact ⟨by omega, pairsL_get C i (by omega) (by omega) h⟩
end Go.Proofs.Ytafkibnkpcmmgaa
