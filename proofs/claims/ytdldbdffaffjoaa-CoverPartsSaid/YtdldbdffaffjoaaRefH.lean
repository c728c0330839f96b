/- The reference's In and Covers. -/
import Derived.Test.YtdldbdffaffjoaaRefF
namespace Go.Proofs.Ytdldbdffaffjoaa
open Go.RowKit

theorem any_true_of {α : Type} {p : α → Bool} {l : List α} {i : Nat} (h : i < l.length) (hp : p l[i] = true) : l.any p = true :=
  List.any_eq_true.2 ⟨_, List.getElem_mem h, hp⟩
theorem any_take_succ {α : Type} {p : α → Bool} {l : List α} {i : Nat} (h : i < l.length) (hp : p l[i] = false) (ht : (l.take i).any p = false) : (l.take (i + 1)).any p = false := by
  rw [List.take_succ_eq_append_getElem h, List.any_append, ht]; simp [hp]

theorem rowA_all (P0 P1 P2 : List (Int × Int)) (f : Bx → Bool) : (rowA P0 P1 P2).all f = P0.all fun x => P1.all fun y => P2.all fun z => f (cellX x y z) := by
  unfold rowA
  rw [List.all_flatMap]
  congr 1
  funext x
  unfold rowX
  rw [List.all_flatMap]
  congr 1
  funext y
  unfold rowY
  rw [List.all_map]
  rfl
theorem coversB_all (l : List Bx) (b : Bx) : (rowA (partsL l b 0) (partsL l b 1) (partsL l b 2)).all (fun c => l.any fun a => containsB a c) = coversB l b := rowA_all _ _ _ _
theorem rowA_ord {l : List Bx} {b : Bx} (hb : Ord b) {c : Bx} (hc : c ∈ rowA (partsL l b 0) (partsL l b 1) (partsL l b 2)) : Ord c := by
  unfold rowA at hc
  obtain ⟨x, hx, hc⟩ := List.mem_flatMap.1 hc
  unfold rowX at hc
  obtain ⟨y, hy, hc⟩ := List.mem_flatMap.1 hc
  unfold rowY at hc
  obtain ⟨z, hz, rfl⟩ := List.mem_map.1 hc
  exact ⟨(parts_spec (k := 0) hb.1 hx).2.1, (parts_spec (k := 1) hb.2.1 hy).2.1, (parts_spec (k := 2) hb.2.2 hz).2.1⟩

end Go.Proofs.Ytdldbdffaffjoaa
