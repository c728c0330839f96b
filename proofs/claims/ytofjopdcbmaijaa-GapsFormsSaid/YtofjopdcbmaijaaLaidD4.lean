/- frame.Valid. -/
import Derived.Test.YtofjopdcbmaijaaLaidD1
namespace Go.Proofs.Ytofjopdcbmaijaa
open Go.RowKit
set_option maxRecDepth 20000

set_option maxHeartbeats 1000000 in
theorem axis_v (n : Int) (r : Bool) (h : (decide (n ≠ 0) && (decide (-3 ≤ n) && decide (n ≤ 3))) = r) (w : World) : Calls Try.prog 72 #[.int .i64 n] w (Ret w (.bool r)) := by
  subst h
  by_cases h0 : n = 0
  · subst h0
    go_enter Try.func72, Try.ntmps72
    go_wp2
    go_ret
    exact Ret.of (by (repeat (first | exact grow_refl _ | refine grow_ext _ ?_ | refine grow_alloc _ ?_ | refine grow_drew ?_)))
  · have d0 : (n != 0) = true := by simpa using h0
    have e0 : decide (n ≠ 0) = true := by simpa using h0
    rw [e0, Bool.true_and]
    by_cases h1 : -3 ≤ n
    · by_cases h2 : n ≤ 3
      · rw [decide_eq_true h1, decide_eq_true h2]
        clear e0 h0
        go_enter Try.func72, Try.ntmps72
        go_wp2
        go_ret
        exact Ret.of (by (repeat (first | exact grow_refl _ | refine grow_ext _ ?_ | refine grow_alloc _ ?_ | refine grow_drew ?_)))
      · rw [decide_eq_false h2, Bool.and_false]
        clear e0 h0
        go_enter Try.func72, Try.ntmps72
        go_wp2
        go_ret
        exact Ret.of (by (repeat (first | exact grow_refl _ | refine grow_ext _ ?_ | refine grow_alloc _ ?_ | refine grow_drew ?_)))
    · rw [decide_eq_false h1, Bool.false_and]
      clear e0 h0
      go_enter Try.func72, Try.ntmps72
      go_wp2
      go_ret
      exact Ret.of (by (repeat (first | exact grow_refl _ | refine grow_ext _ ?_ | refine grow_alloc _ ?_ | refine grow_drew ?_)))

set_option maxHeartbeats 1000000 in
theorem frameValid_v (tx ty : Int) (r : Bool) (h : turnB tx ty = r) (w : World) : Calls Try.prog 51 #[.agg #[.int .i64 tx, .int .i64 ty]] w (Ret w (.bool r)) := by
  have HX := Lib.hid (fun r h w => axis_v tx r h w)
  have HY := Lib.hid (fun r h w => axis_v ty r h w)
  unfold turnB at h
  cases h1 : (decide (tx ≠ 0) && (decide (-3 ≤ tx) && decide (tx ≤ 3)))
  · rw [h1, Bool.false_and] at h
    subst h
    have H1 := Lib.hid h1
    clear h1
    go_enter Try.func51, Try.ntmps51
    go_wp2_with fail
    go_at_call 72; refine (HX.out _ H1.out _).mono ?_; rintro e w' ⟨rfl, x1, rfl⟩
    go_wp2
    go_ret
    exact Ret.of (by (repeat (first | exact grow_refl _ | refine grow_ext _ ?_ | refine grow_alloc _ ?_ | refine grow_drew ?_)))
  rw [h1, Bool.true_and] at h
  have H1 := Lib.hid h1
  have b1 : -3 ≤ tx ∧ tx ≤ 3 := by simp only [Bool.and_eq_true, decide_eq_true_iff] at h1; exact h1.2
  clear h1
  cases h2 : (decide (ty ≠ 0) && (decide (-3 ≤ ty) && decide (ty ≤ 3)))
  · rw [h2, Bool.false_and] at h
    subst h
    have H2 := Lib.hid h2
    clear h2
    go_enter Try.func51, Try.ntmps51
    go_wp2_with fail
    go_at_call_of 72 (Value.int IntKind.i64 tx); refine (HX.out _ H1.out _).mono ?_; rintro e w' ⟨rfl, x1, rfl⟩
    go_wp2_with fail
    go_at_call 72; refine (HY.out _ H2.out _).mono ?_; rintro e w' ⟨rfl, x2, rfl⟩
    go_wp2
    go_ret
    exact Ret.of (by (repeat (first | exact grow_refl _ | refine grow_ext _ ?_ | refine grow_alloc _ ?_ | refine grow_drew ?_)))
  rw [h2, Bool.true_and] at h
  have H2 := Lib.hid h2
  have b2 : -3 ≤ ty ∧ ty ≤ 3 := by simp only [Bool.and_eq_true, decide_eq_true_iff] at h2; exact h2.2
  clear h2
  by_cases h3 : tx = ty
  · subst h3
    rw [show decide (tx ≠ tx) = false by simp, Bool.false_and] at h
    subst h
    have d3 : (tx != tx) = false := by simp
    go_enter Try.func51, Try.ntmps51
    go_wp2_with fail
    go_at_call 72; refine (HX.out _ H1.out _).mono ?_; rintro e w' ⟨rfl, x1, rfl⟩
    go_wp2_with fail
    go_at_call 72; refine (HX.out _ H1.out _).mono ?_; rintro e w' ⟨rfl, x2, rfl⟩
    go_wp2
    go_ret
    exact Ret.of (by (repeat (first | exact grow_refl _ | refine grow_ext _ ?_ | refine grow_alloc _ ?_ | refine grow_drew ?_)))
  rw [show decide (tx ≠ ty) = true by simpa using h3, Bool.true_and] at h
  have d3 : (tx != ty) = true := by simpa using h3
  by_cases h4 : tx = -ty
  · rw [show decide (tx ≠ -ty) = false by simpa using h4] at h
    subst h
    have d4 : (tx != -ty) = false := by simpa using h4
    clear h3 h4
    go_enter Try.func51, Try.ntmps51
    go_wp2_with fail
    go_at_call 72; refine (HX.out _ H1.out _).mono ?_; rintro e w' ⟨rfl, x1, rfl⟩
    go_wp2_with fail
    go_at_call 72; refine (HY.out _ H2.out _).mono ?_; rintro e w' ⟨rfl, x2, rfl⟩
    go_wp2
    go_ret
    exact Ret.of (by (repeat (first | exact grow_refl _ | refine grow_ext _ ?_ | refine grow_alloc _ ?_ | refine grow_drew ?_)))
  · rw [show decide (tx ≠ -ty) = true by simpa using h4] at h
    subst h
    have d4 : (tx != -ty) = true := by simpa using h4
    clear h3 h4
    go_enter Try.func51, Try.ntmps51
    go_wp2_with fail
    go_at_call 72; refine (HX.out _ H1.out _).mono ?_; rintro e w' ⟨rfl, x1, rfl⟩
    go_wp2_with fail
    go_at_call 72; refine (HY.out _ H2.out _).mono ?_; rintro e w' ⟨rfl, x2, rfl⟩
    go_wp2
    go_ret
    exact Ret.of (by (repeat (first | exact grow_refl _ | refine grow_ext _ ?_ | refine grow_alloc _ ?_ | refine grow_drew ?_)))

end Go.Proofs.Ytofjopdcbmaijaa
