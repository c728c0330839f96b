/- Shapes: the legs of a code. Printed in part by mklaidb.py. -/
import Derived.Test.YtofjopdcbmaijaaLaidA
import Derived.Test.YtofjopdcbmaijaaCovA
import Derived.Test.YtofjopdcbmaijaaBlk
import Derived.Test.YtofjopdcbmaijaaNameK
import Derived.Test.YtofjopdcbmaijaaLawForms0
namespace Go.Proofs.Ytofjopdcbmaijaa
open Go.RowKit
set_option maxRecDepth 20000

/-- The legs of a code: dimension and direction. -/
def legsC (c : Int) : List (Nat × Int) :=
  if c = 0 then [(0, 120)] else
  if c = 11 then [(0, 120), (1, 121)] else
  if c = 21 then [(0, 89), (1, 120), (2, 121)] else
  if c = 26 then [(0, 120), (1, 121), (2, 120)] else
  if c = 31 then [(0, 120), (1, 121), (2, 122)] else
  if c = 41 then [(0, 120), (1, 121), (2, 120), (3, 89), (4, 120)] else
  if c = 51 then [(2, 89), (0, 120), (1, 121), (0, 88), (1, 89), (2, 120)] else
  if c = 98 then [(0, 122), (1, 89), (2, 120), (1, 121), (0, 122)] else
  []
theorem legs_0 : legsC 0 = [(0, 120)] := rfl
theorem legs_11 : legsC 11 = [(0, 120), (1, 121)] := rfl
theorem legs_21 : legsC 21 = [(0, 89), (1, 120), (2, 121)] := rfl
theorem legs_26 : legsC 26 = [(0, 120), (1, 121), (2, 120)] := rfl
theorem legs_31 : legsC 31 = [(0, 120), (1, 121), (2, 122)] := rfl
theorem legs_41 : legsC 41 = [(0, 120), (1, 121), (2, 120), (3, 89), (4, 120)] := rfl
theorem legs_51 : legsC 51 = [(2, 89), (0, 120), (1, 121), (0, 88), (1, 89), (2, 120)] := rfl
theorem legs_98 : legsC 98 = [(0, 122), (1, 89), (2, 120), (1, 121), (0, 122)] := rfl
theorem legs_cases (c : Int) : c = 0 ∨ c = 11 ∨ c = 21 ∨ c = 26 ∨ c = 31 ∨ c = 41 ∨ c = 51 ∨ c = 98 ∨ (((c == 0) = false ∧ (c == 11) = false ∧ (c == 21) = false ∧ (c == 26) = false ∧ (c == 31) = false ∧ (c == 41) = false ∧ (c == 51) = false ∧ (c == 98) = false) ∧ legsC c = []) := by
  by_cases h0 : c = 0
  · simp [h0]
  by_cases h11 : c = 11
  · simp [h11]
  by_cases h21 : c = 21
  · simp [h21]
  by_cases h26 : c = 26
  · simp [h26]
  by_cases h31 : c = 31
  · simp [h31]
  by_cases h41 : c = 41
  · simp [h41]
  by_cases h51 : c = 51
  · simp [h51]
  by_cases h98 : c = 98
  · simp [h98]
  refine .inr (.inr (.inr (.inr (.inr (.inr (.inr (.inr (⟨⟨by simpa using h0, by simpa using h11, by simpa using h21, by simpa using h26, by simpa using h31, by simpa using h41, by simpa using h51, by simpa using h98⟩, ?_⟩))))))))
  unfold legsC
  rw [if_neg h0, if_neg h11, if_neg h21, if_neg h26, if_neg h31, if_neg h41, if_neg h51, if_neg h98]
/-- A slice value that reads as a list of legs. -/
def LegsAt (w : World) (v : Value) (l : List (Nat × Int)) : Prop :=
  ∃ a cap, v = .slice a l.length cap ∧ l.length ≤ cap ∧ cap ≤ 9223372036854775807 ∧ ∀ i (h : i < l.length), ∃ b off, a = some ⟨b, off, none⟩ ∧ w.cell? ⟨b, off + i * 2, none⟩ = some (.int .i64 (l[i].1 : Int)) ∧ w.cell? ⟨b, off + i * 2 + 1, none⟩ = some (.int .u8 l[i].2)
theorem LegsAt.ext {w : World} {v : Value} {l : List (Nat × Int)} (h : LegsAt w v l) (y : World) : LegsAt (ext w y) v l := by
  obtain ⟨a, cap, h1, h2, h3, h4⟩ := h
  exact ⟨a, cap, h1, h2, h3, fun i hi => let ⟨b, off, e, hb, hc⟩ := h4 i hi; ⟨b, off, e, cell_ext_some hb y, cell_ext_some hc y⟩⟩
theorem LegsAt.below {w w' : World} {v : Value} {l : List (Nat × Int)} (h : LegsAt w v l) (hb : Below w.heap.size w w') : LegsAt w' v l := by
  obtain ⟨x, rfl⟩ := ext_of hb
  exact h.ext x
theorem LegsAt.shape {w : World} {v : Value} {l : List (Nat × Int)} (h : LegsAt w v l) : ∃ a cap, v = .slice a l.length cap ∧ l.length ≤ cap ∧ cap ≤ 9223372036854775807 ∧ ∀ i (h : i < l.length), ∃ b off, a = some ⟨b, off, none⟩ ∧ w.cell? ⟨b, off + i * 2, none⟩ = some (.int .i64 (l[i].1 : Int)) ∧ w.cell? ⟨b, off + i * 2 + 1, none⟩ = some (.int .u8 l[i].2) := h
def RetLegs (w : World) (l : List (Nat × Int)) (e : Ending) (w' : World) : Prop := ∃ v, e = .returned v ∧ LegsAt w' v l ∧ ∃ x, w' = ext w x

set_option maxHeartbeats 4000000 in
theorem legs_c (c : Int) (w : World) : Calls Try.prog 85 #[.int .i64 c] w (RetLegs w (legsC c)) := by
  rcases legs_cases c with rfl | rfl | rfl | rfl | rfl | rfl | rfl | rfl | ⟨⟨d0, d11, d21, d26, d31, d41, d51, d98⟩, he⟩
  · go_enter Try.func85, Try.ntmps85
    go_wp2
    refine bodyPost_ret (v := .slice (some ⟨w.heap.size, 0, none⟩) 1 1) (by simp [results, Try.results85, go_sem]) rfl ?_
    refine ⟨_, rfl, ⟨some ⟨w.heap.size, 0, none⟩, 1, rfl, by decide, by decide, ?_⟩, ext_of (by (repeat (first | exact grow_refl _ | refine grow_ext _ ?_ | refine grow_alloc _ ?_ | refine grow_drew ?_)))⟩
    rw [legs_0]
    intro i hi
    have hin : i < 1 := hi
    refine ⟨w.heap.size, 0, rfl, ?_⟩
    rcases (show i = 0 by omega) with rfl
    all_goals simp [go_sem]
  · go_enter Try.func85, Try.ntmps85
    go_wp2
    refine bodyPost_ret (v := .slice (some ⟨w.heap.size, 0, none⟩) 2 2) (by simp [results, Try.results85, go_sem]) rfl ?_
    refine ⟨_, rfl, ⟨some ⟨w.heap.size, 0, none⟩, 2, rfl, by decide, by decide, ?_⟩, ext_of (by (repeat (first | exact grow_refl _ | refine grow_ext _ ?_ | refine grow_alloc _ ?_ | refine grow_drew ?_)))⟩
    rw [legs_11]
    intro i hi
    have hin : i < 2 := hi
    refine ⟨w.heap.size, 0, rfl, ?_⟩
    rcases (show i = 0 ∨ i = 1 by omega) with rfl | rfl
    all_goals simp [go_sem]
  · go_enter Try.func85, Try.ntmps85
    go_wp2
    refine bodyPost_ret (v := .slice (some ⟨w.heap.size, 0, none⟩) 3 3) (by simp [results, Try.results85, go_sem]) rfl ?_
    refine ⟨_, rfl, ⟨some ⟨w.heap.size, 0, none⟩, 3, rfl, by decide, by decide, ?_⟩, ext_of (by (repeat (first | exact grow_refl _ | refine grow_ext _ ?_ | refine grow_alloc _ ?_ | refine grow_drew ?_)))⟩
    rw [legs_21]
    intro i hi
    have hin : i < 3 := hi
    refine ⟨w.heap.size, 0, rfl, ?_⟩
    rcases (show i = 0 ∨ i = 1 ∨ i = 2 by omega) with rfl | rfl | rfl
    all_goals simp [go_sem]
  · go_enter Try.func85, Try.ntmps85
    go_wp2
    refine bodyPost_ret (v := .slice (some ⟨w.heap.size, 0, none⟩) 3 3) (by simp [results, Try.results85, go_sem]) rfl ?_
    refine ⟨_, rfl, ⟨some ⟨w.heap.size, 0, none⟩, 3, rfl, by decide, by decide, ?_⟩, ext_of (by (repeat (first | exact grow_refl _ | refine grow_ext _ ?_ | refine grow_alloc _ ?_ | refine grow_drew ?_)))⟩
    rw [legs_26]
    intro i hi
    have hin : i < 3 := hi
    refine ⟨w.heap.size, 0, rfl, ?_⟩
    rcases (show i = 0 ∨ i = 1 ∨ i = 2 by omega) with rfl | rfl | rfl
    all_goals simp [go_sem]
  · go_enter Try.func85, Try.ntmps85
    go_wp2
    refine bodyPost_ret (v := .slice (some ⟨w.heap.size, 0, none⟩) 3 3) (by simp [results, Try.results85, go_sem]) rfl ?_
    refine ⟨_, rfl, ⟨some ⟨w.heap.size, 0, none⟩, 3, rfl, by decide, by decide, ?_⟩, ext_of (by (repeat (first | exact grow_refl _ | refine grow_ext _ ?_ | refine grow_alloc _ ?_ | refine grow_drew ?_)))⟩
    rw [legs_31]
    intro i hi
    have hin : i < 3 := hi
    refine ⟨w.heap.size, 0, rfl, ?_⟩
    rcases (show i = 0 ∨ i = 1 ∨ i = 2 by omega) with rfl | rfl | rfl
    all_goals simp [go_sem]
  · go_enter Try.func85, Try.ntmps85
    go_wp2
    refine bodyPost_ret (v := .slice (some ⟨w.heap.size, 0, none⟩) 5 5) (by simp [results, Try.results85, go_sem]) rfl ?_
    refine ⟨_, rfl, ⟨some ⟨w.heap.size, 0, none⟩, 5, rfl, by decide, by decide, ?_⟩, ext_of (by (repeat (first | exact grow_refl _ | refine grow_ext _ ?_ | refine grow_alloc _ ?_ | refine grow_drew ?_)))⟩
    rw [legs_41]
    intro i hi
    have hin : i < 5 := hi
    refine ⟨w.heap.size, 0, rfl, ?_⟩
    rcases (show i = 0 ∨ i = 1 ∨ i = 2 ∨ i = 3 ∨ i = 4 by omega) with rfl | rfl | rfl | rfl | rfl
    all_goals simp [go_sem]
  · go_enter Try.func85, Try.ntmps85
    go_wp2
    refine bodyPost_ret (v := .slice (some ⟨w.heap.size, 0, none⟩) 6 6) (by simp [results, Try.results85, go_sem]) rfl ?_
    refine ⟨_, rfl, ⟨some ⟨w.heap.size, 0, none⟩, 6, rfl, by decide, by decide, ?_⟩, ext_of (by (repeat (first | exact grow_refl _ | refine grow_ext _ ?_ | refine grow_alloc _ ?_ | refine grow_drew ?_)))⟩
    rw [legs_51]
    intro i hi
    have hin : i < 6 := hi
    refine ⟨w.heap.size, 0, rfl, ?_⟩
    rcases (show i = 0 ∨ i = 1 ∨ i = 2 ∨ i = 3 ∨ i = 4 ∨ i = 5 by omega) with rfl | rfl | rfl | rfl | rfl | rfl
    all_goals simp [go_sem]
  · go_enter Try.func85, Try.ntmps85
    go_wp2
    refine bodyPost_ret (v := .slice (some ⟨w.heap.size, 0, none⟩) 5 5) (by simp [results, Try.results85, go_sem]) rfl ?_
    refine ⟨_, rfl, ⟨some ⟨w.heap.size, 0, none⟩, 5, rfl, by decide, by decide, ?_⟩, ext_of (by (repeat (first | exact grow_refl _ | refine grow_ext _ ?_ | refine grow_alloc _ ?_ | refine grow_drew ?_)))⟩
    rw [legs_98]
    intro i hi
    have hin : i < 5 := hi
    refine ⟨w.heap.size, 0, rfl, ?_⟩
    rcases (show i = 0 ∨ i = 1 ∨ i = 2 ∨ i = 3 ∨ i = 4 by omega) with rfl | rfl | rfl | rfl | rfl
    all_goals simp [go_sem]
  · go_enter Try.func85, Try.ntmps85
    go_wp2
    refine bodyPost_ret (v := .slice none 0 0) (by simp [results, Try.results85, go_sem]) rfl ?_
    rw [he]
    exact ⟨_, rfl, ⟨none, 0, rfl, by decide, by decide, fun i hi => absurd hi (Nat.not_lt_zero _)⟩, ext_of (by (repeat (first | exact grow_refl _ | refine grow_ext _ ?_ | refine grow_alloc _ ?_ | refine grow_drew ?_)))⟩

def legCells (l : List (Nat × Int)) : List Value := l.flatMap fun g => [.int .i64 (g.1 : Int), .int .u8 g.2]
theorem legCells_get (l : List (Nat × Int)) (i : Nat) (h : i < l.length) : (legCells l)[i * 2]? = some (.int .i64 (l[i].1 : Int)) ∧ (legCells l)[i * 2 + 1]? = some (.int .u8 l[i].2) := by
  induction l generalizing i with
  | nil => simp at h
  | cons a l ih =>
    cases i with
    | zero => simp [legCells]
    | succ i =>
      have := ih i (by simpa using h)
      have hc : ∀ k, (legCells (a :: l))[(i + 1) * 2 + k]? = (legCells l)[i * 2 + k]? := fun k => by
        rw [show (i + 1) * 2 + k = (i * 2 + k) + 1 + 1 by omega]
        simp only [legCells, List.flatMap_cons, List.cons_append, List.nil_append, List.getElem?_cons_succ]
      have h0 := hc 0
      rw [Nat.add_zero, Nat.add_zero] at h0
      rw [h0, hc]
      exact this
set_option maxHeartbeats 4000000 in
theorem legs_b (c : Int) (hne : legsC c ≠ []) (w : World) : Calls Try.prog 85 #[.int .i64 c] w (fun e W => ∃ g, e = .returned (.slice (some ⟨g, 0, none⟩) (legsC c).length (legsC c).length) ∧ Blk W g (legCells (legsC c)).toArray 115 ∧ w.heap.size ≤ g ∧ ∃ x, W = ext w x) := by
  rcases legs_cases c with rfl | rfl | rfl | rfl | rfl | rfl | rfl | rfl | ⟨_, he⟩
  · clear hne
    go_enter Try.func85, Try.ntmps85
    go_wp2
    refine bodyPost_ret (v := .slice (some ⟨w.heap.size, 0, none⟩) 1 1) (by simp [results, Try.results85, go_sem]) rfl ?_
    exact ⟨w.heap.size, rfl, Blk.new w _ _, Nat.le_refl _, ext_of (by (repeat (first | exact grow_refl _ | refine grow_ext _ ?_ | refine grow_alloc _ ?_ | refine grow_drew ?_)))⟩
  · clear hne
    go_enter Try.func85, Try.ntmps85
    go_wp2
    refine bodyPost_ret (v := .slice (some ⟨w.heap.size, 0, none⟩) 2 2) (by simp [results, Try.results85, go_sem]) rfl ?_
    exact ⟨w.heap.size, rfl, Blk.new w _ _, Nat.le_refl _, ext_of (by (repeat (first | exact grow_refl _ | refine grow_ext _ ?_ | refine grow_alloc _ ?_ | refine grow_drew ?_)))⟩
  · clear hne
    go_enter Try.func85, Try.ntmps85
    go_wp2
    refine bodyPost_ret (v := .slice (some ⟨w.heap.size, 0, none⟩) 3 3) (by simp [results, Try.results85, go_sem]) rfl ?_
    exact ⟨w.heap.size, rfl, Blk.new w _ _, Nat.le_refl _, ext_of (by (repeat (first | exact grow_refl _ | refine grow_ext _ ?_ | refine grow_alloc _ ?_ | refine grow_drew ?_)))⟩
  · clear hne
    go_enter Try.func85, Try.ntmps85
    go_wp2
    refine bodyPost_ret (v := .slice (some ⟨w.heap.size, 0, none⟩) 3 3) (by simp [results, Try.results85, go_sem]) rfl ?_
    exact ⟨w.heap.size, rfl, Blk.new w _ _, Nat.le_refl _, ext_of (by (repeat (first | exact grow_refl _ | refine grow_ext _ ?_ | refine grow_alloc _ ?_ | refine grow_drew ?_)))⟩
  · clear hne
    go_enter Try.func85, Try.ntmps85
    go_wp2
    refine bodyPost_ret (v := .slice (some ⟨w.heap.size, 0, none⟩) 3 3) (by simp [results, Try.results85, go_sem]) rfl ?_
    exact ⟨w.heap.size, rfl, Blk.new w _ _, Nat.le_refl _, ext_of (by (repeat (first | exact grow_refl _ | refine grow_ext _ ?_ | refine grow_alloc _ ?_ | refine grow_drew ?_)))⟩
  · clear hne
    go_enter Try.func85, Try.ntmps85
    go_wp2
    refine bodyPost_ret (v := .slice (some ⟨w.heap.size, 0, none⟩) 5 5) (by simp [results, Try.results85, go_sem]) rfl ?_
    exact ⟨w.heap.size, rfl, Blk.new w _ _, Nat.le_refl _, ext_of (by (repeat (first | exact grow_refl _ | refine grow_ext _ ?_ | refine grow_alloc _ ?_ | refine grow_drew ?_)))⟩
  · clear hne
    go_enter Try.func85, Try.ntmps85
    go_wp2
    refine bodyPost_ret (v := .slice (some ⟨w.heap.size, 0, none⟩) 6 6) (by simp [results, Try.results85, go_sem]) rfl ?_
    exact ⟨w.heap.size, rfl, Blk.new w _ _, Nat.le_refl _, ext_of (by (repeat (first | exact grow_refl _ | refine grow_ext _ ?_ | refine grow_alloc _ ?_ | refine grow_drew ?_)))⟩
  · clear hne
    go_enter Try.func85, Try.ntmps85
    go_wp2
    refine bodyPost_ret (v := .slice (some ⟨w.heap.size, 0, none⟩) 5 5) (by simp [results, Try.results85, go_sem]) rfl ?_
    exact ⟨w.heap.size, rfl, Blk.new w _ _, Nat.le_refl _, ext_of (by (repeat (first | exact grow_refl _ | refine grow_ext _ ?_ | refine grow_alloc _ ?_ | refine grow_drew ?_)))⟩
  · exact absurd he hne


end Go.Proofs.Ytofjopdcbmaijaa
