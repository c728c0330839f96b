/- Contracts of the reference for boxes, fourth part: Contains, All, Grown. -/
import Derived.Test.YtafkibnkpcmmgaaRefC
namespace Go.Proofs.Ytafkibnkpcmmgaa
open Go.RowKit

def Ord (b : Bx) : Prop := b.lx ≤ b.hx ∧ b.ly ≤ b.hy ∧ b.lz ≤ b.hz
theorem Ord.of_valid {b : Bx} (h : validB b = true) : Ord b := by have := valid_iff.1 h; unfold Ord; omega

set_option maxHeartbeats 400000 in
theorem refContains_c (a b : Bx) (hb : Ord b) (w : World) : Calls Try.prog 100 #[(.agg #[.int .i64 a.lx, .int .i64 a.ly, .int .i64 a.lz, .int .i64 a.hx, .int .i64 a.hy, .int .i64 a.hz]), (.agg #[.int .i64 b.lx, .int .i64 b.ly, .int .i64 b.lz, .int .i64 b.hx, .int .i64 b.hy, .int .i64 b.hz])] w (Ret w (.bool (containsB a b))) := by
  have hm := refMeet_c a b
  unfold refMeetV at hm
  cases h : meetB a b
  · rw [h] at hm
    have HM := Lib.hid hm
    have hc : containsB a b = false := by
      unfold Ord at hb
      cases hc : containsB a b
      · rfl
      · have h1 := contains_iff.1 hc
        have := meetB_iff.2 (show max a.lx b.lx ≤ min a.hx b.hx ∧ max a.ly b.ly ≤ min a.hy b.hy ∧ max a.lz b.lz ≤ min a.hz b.hz by omega)
        rw [h] at this; cases this
    have HC := Lib.hid hc
    clear hm hc h
    go_enter Try.func100, Try.ntmps100
    go_wp2_with fail
    refine (HM.out _).mono ?_; rintro e w' ⟨rfl, x, rfl⟩
    go_wp2
    go_ret
    rw [HC.out]
    exact Ret.of (by (repeat (first | exact grow_refl _ | refine grow_ext _ ?_ | refine grow_alloc _ ?_ | refine grow_drew ?_)))
  · rw [h] at hm
    have HM := Lib.hid hm
    clear hm h
    go_enter Try.func100, Try.ntmps100
    go_wp2_with fail
    refine (HM.out _).mono ?_; rintro e w' ⟨rfl, x, rfl⟩
    clear HM
    unfold Ord at hb
    go_wp2
    all_goals
      simp only [meetX] at *
      go_ret
      exact Ret.bool (by unfold containsB; simp; omega) (by (repeat (first | exact grow_refl _ | refine grow_ext _ ?_ | refine grow_alloc _ ?_ | refine grow_drew ?_)))

end Go.Proofs.Ytafkibnkpcmmgaa
