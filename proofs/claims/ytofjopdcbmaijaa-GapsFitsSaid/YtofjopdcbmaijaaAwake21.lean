/- The example of chapter 21, and its wall. -/
import Derived.Test.YtofjopdcbmaijaaGapK2
namespace Go.Proofs.Ytofjopdcbmaijaa
open Go.RowKit
set_option maxRecDepth 20000

def exBar (v : Value) : Br := ⟨⟨#[97]⟩, 20, 3, 0, [1000], v⟩
def exRun : Rn := ⟨⟨#[97]⟩, 1, 2, 0, 0, 0, 0, 40, 0, 3⟩
theorem ex_laid (v : Value) : laidB [exBar v] [exRun] = true := by kernel_rfl
theorem ex_cuts (v : Value) : cutsE [exBar v] [exRun] 500 = ([⟨⟨500, -10, -10, 500, 10, 10⟩, 20, ⟨#[97]⟩⟩, ⟨⟨500, 30, -10, 500, 50, 10⟩, 20, ⟨#[97]⟩⟩, ⟨⟨500, 70, -10, 500, 90, 10⟩, 20, ⟨#[97]⟩⟩], 0) := by kernel_rfl
theorem ex_clear (v : Value) : clearE [exBar v] [exRun] 500 = (20, 0) := by kernel_rfl
theorem ex_check (v : Value) : (checkE [exBar v] [exRun] 20 500).1.length = 3 ∧ (checkE [exBar v] [exRun] 20 500).2 = 0 := by
  unfold checkE
  rw [ex_cuts]
  exact ⟨by kernel_rfl, rfl⟩

theorem example21_c (w : World) : Calls Try.prog 23 #[] w (fun e W => ∃ v u d, e = .returned (.tuple #[v, u]) ∧ Bars W v [exBar d] ∧ Runs W u [exRun] ∧ ∃ x, W = ext w x) := by
  go_enter Try.func23, Try.ntmps23
  go_wp2
  go_ret2
  refine ⟨_, _, .slice (some ⟨w.heap.size, 0, none⟩) 1 1, rfl, ?_, ?_, ext_of (by (repeat (first | exact grow_refl _ | refine grow_ext _ ?_ | refine grow_alloc _ ?_ | refine grow_drew ?_)))⟩
  · refine ⟨_, 1, rfl, by simp, by decide, fun i hi => ?_⟩
    obtain rfl : i = 0 := by simp at hi; omega
    refine ⟨⟨(show (1 : Nat) ≤ 9223372036854775807 from by decide), ⟨_, 1, rfl, by simp [exBar], by decide, fun j hj => ?_⟩⟩, _, 0, rfl, ?_⟩
    · obtain rfl : j = 0 := by simp [exBar] at hj; omega
      exact ⟨_, 0, rfl, by simp [go_sem, exBar]⟩
    · simp [BrAt, go_sem, exBar]
  · refine ⟨_, 1, rfl, by simp, by decide, fun i hi => ?_⟩
    obtain rfl : i = 0 := by simp at hi; omega
    refine ⟨(show (1 : Nat) ≤ 9223372036854775807 from by decide), _, 0, rfl, ?_⟩
    simp [RnAt, go_sem, exRun]

set_option maxHeartbeats 2000000 in
theorem awake21_c (w : World) : Calls Try.prog 7 #[] w (Ret w (.bool true)) := by
  have HX := Lib.hid (fun w => example21_c w)
  have HL := Lib.hid (fun w => gLeast_c 20 20 w)
  rw [show leastE 20 20 = (25, 0) from by kernel_rfl] at HL
  have HM := Lib.hid (fun w => gMost_v 300 30 20 20 5 0 (by kernel_rfl) w)
  have HC := Lib.hid (fun d v u w hl hr => gClear_v [exBar d] [exRun] v u 500 20 0 (ex_clear d) w hl hr)
  have HK := Lib.hid (fun d v u w hl hr => gCheck_c [exBar d] [exRun] v u 20 500 w hl hr)
  have HE := Lib.hid (fun d => ex_check d)
  go_enter Try.func7, Try.ntmps7
  go_wp2_with fail
  go_at_call 23; refine (HX.out _).mono ?_; rintro e w' ⟨v, u, d, rfl, hb, hr, x1, rfl⟩
  have HB := Lib.hid hb
  have HR := Lib.hid hr
  clear hb hr
  go_wp2_with fail
  go_at_call 8; refine (HL.out _).mono ?_; rintro e w' ⟨rfl, x2, rfl⟩
  go_wp2_with fail
  go_at_call 9; refine (HM.out _).mono ?_; rintro e w' ⟨rfl, x3, rfl⟩
  go_wp2_with fail
  go_at_call 16; refine (HC.out d _ _ _ (HB.out.below (by (repeat (first | exact grow_refl _ | refine grow_ext _ ?_ | refine grow_alloc _ ?_ | refine grow_drew ?_)))) (HR.out.below (by (repeat (first | exact grow_refl _ | refine grow_ext _ ?_ | refine grow_alloc _ ?_ | refine grow_drew ?_))))).mono ?_; rintro e w' ⟨rfl, x4, rfl⟩
  go_wp2_with fail
  go_at_call 15; refine (HK.out d _ _ _ (HB.out.below (by (repeat (first | exact grow_refl _ | refine grow_ext _ ?_ | refine grow_alloc _ ?_ | refine grow_drew ?_)))) (HR.out.below (by (repeat (first | exact grow_refl _ | refine grow_ext _ ?_ | refine grow_alloc _ ?_ | refine grow_drew ?_))))).mono ?_; rintro e w' ⟨v9, rfl, hown, x5, rfl⟩
  obtain ⟨e1, e2⟩ := HE.out d
  obtain ⟨a9, c9, rfl, -, -, -⟩ := own_shape hown
  rw [e1, e2]
  clear hown e1 e2
  go_wp2
  go_ret
  exact Ret.of (by (repeat (first | exact grow_refl _ | refine grow_ext _ ?_ | refine grow_alloc _ ?_ | refine grow_drew ?_)))

end Go.Proofs.Ytofjopdcbmaijaa
