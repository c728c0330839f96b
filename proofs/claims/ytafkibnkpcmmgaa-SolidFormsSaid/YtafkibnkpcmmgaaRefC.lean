/- Contracts of the reference for boxes, third part: what two boxes have in common, hulls. -/
import Derived.Test.YtafkibnkpcmmgaaRefB
import Derived.Test.YtafkibnkpcmmgaaTail
namespace Go.Proofs.Ytafkibnkpcmmgaa
open Go.RowKit

/-- Two boxes have a point in common. -/
def meetB (a b : Bx) : Bool := decide (max a.lx b.lx ≤ min a.hx b.hx ∧ max a.ly b.ly ≤ min a.hy b.hy ∧ max a.lz b.lz ≤ min a.hz b.hz)
theorem meetB_iff {a b : Bx} : meetB a b = true ↔ (max a.lx b.lx ≤ min a.hx b.hx ∧ max a.ly b.ly ≤ min a.hy b.hy ∧ max a.lz b.lz ≤ min a.hz b.hz) := by unfold meetB; exact decide_eq_true_iff
def refMeetV (a b : Bx) : Value := if meetB a b = true then .tuple #[(.agg #[.int .i64 (meetX a b).lx, .int .i64 (meetX a b).ly, .int .i64 (meetX a b).lz, .int .i64 (meetX a b).hx, .int .i64 (meetX a b).hy, .int .i64 (meetX a b).hz]), .bool true] else .tuple #[(.agg #[.int .i64 0, .int .i64 0, .int .i64 0, .int .i64 0, .int .i64 0, .int .i64 0]), .bool false]

set_option maxRecDepth 100000 in
set_option maxHeartbeats 4000000 in
theorem refMeet_c (a b : Bx) (w : World) : Calls Try.prog 111 #[(.agg #[.int .i64 a.lx, .int .i64 a.ly, .int .i64 a.lz, .int .i64 a.hx, .int .i64 a.hy, .int .i64 a.hz]), (.agg #[.int .i64 b.lx, .int .i64 b.ly, .int .i64 b.lz, .int .i64 b.hx, .int .i64 b.hy, .int .i64 b.hz])] w (Ret w (refMeetV a b)) := by
  go_enter Try.func111, Try.ntmps111
  go_wp2
  refine wp_loop_rounds 4 ?_
  rw [rounds_succ]
  go_wp2_with fail
  refine wp_region_grows (by kernel_rfl) (by kernel_rfl) ?_
  repeat (go_big_quiet_step ((first | (go_at_call_of 13 (Value.agg #[.int .i64 a.lx, .int .i64 a.ly, .int .i64 a.lz]); exact Calls.quiet_ext (coord0_c _ _ _ _)) | (go_at_call_of 13 (Value.agg #[.int .i64 b.lx, .int .i64 b.ly, .int .i64 b.lz]); exact Calls.quiet_ext (coord0_c _ _ _ _)) | (go_at_call_of 13 (Value.agg #[.int .i64 a.hx, .int .i64 a.hy, .int .i64 a.hz]); exact Calls.quiet_ext (coord0_c _ _ _ _)) | (go_at_call_of 13 (Value.agg #[.int .i64 b.hx, .int .i64 b.hy, .int .i64 b.hz]); exact Calls.quiet_ext (coord0_c _ _ _ _)))))
  refine wpQuiet_nil ?_; rintro _ ⟨xq, rfl⟩
  by_cases g0 : min a.hx b.hx < max a.lx b.lx
  · have hm : meetB a b = false := by unfold meetB; simp; omega
    have HM := Lib.hid hm
    clear hm
    go_wp2
    refine bodyPost_ret (v := .tuple #[(.agg #[.int .i64 0, .int .i64 0, .int .i64 0, .int .i64 0, .int .i64 0, .int .i64 0]), .bool false]) (by simp [results, Try.results111, go_sem]) rfl ?_
    unfold refMeetV
    rw [HM.out]
    exact Ret.of (by (repeat (first | exact grow_refl _ | refine grow_ext _ ?_ | refine grow_alloc _ ?_ | refine grow_drew ?_)))
  go_wp2_with fail
  go_at_call 14; refine (with0_c _ _ _ _ _).mono ?_; rintro e w' ⟨rfl, x, rfl⟩
  go_wp2_with fail
  go_at_call 14; refine (with0_c _ _ _ _ _).mono ?_; rintro e w' ⟨rfl, x, rfl⟩
  go_wp2_with fail
  rw [rounds_succ]
  go_wp2_with fail
  refine wp_region_grows (by kernel_rfl) (by kernel_rfl) ?_
  repeat (go_big_quiet_step ((first | (go_at_call_of 13 (Value.agg #[.int .i64 a.lx, .int .i64 a.ly, .int .i64 a.lz]); exact Calls.quiet_ext (coord1_c _ _ _ _)) | (go_at_call_of 13 (Value.agg #[.int .i64 b.lx, .int .i64 b.ly, .int .i64 b.lz]); exact Calls.quiet_ext (coord1_c _ _ _ _)) | (go_at_call_of 13 (Value.agg #[.int .i64 a.hx, .int .i64 a.hy, .int .i64 a.hz]); exact Calls.quiet_ext (coord1_c _ _ _ _)) | (go_at_call_of 13 (Value.agg #[.int .i64 b.hx, .int .i64 b.hy, .int .i64 b.hz]); exact Calls.quiet_ext (coord1_c _ _ _ _)))))
  refine wpQuiet_nil ?_; rintro _ ⟨xq, rfl⟩
  by_cases g1 : min a.hy b.hy < max a.ly b.ly
  · have hm : meetB a b = false := by unfold meetB; simp; omega
    have HM := Lib.hid hm
    clear hm
    go_wp2
    refine bodyPost_ret (v := .tuple #[(.agg #[.int .i64 0, .int .i64 0, .int .i64 0, .int .i64 0, .int .i64 0, .int .i64 0]), .bool false]) (by simp [results, Try.results111, go_sem]) rfl ?_
    unfold refMeetV
    rw [HM.out]
    exact Ret.of (by (repeat (first | exact grow_refl _ | refine grow_ext _ ?_ | refine grow_alloc _ ?_ | refine grow_drew ?_)))
  go_wp2_with fail
  go_at_call 14; refine (with1_c _ _ _ _ _).mono ?_; rintro e w' ⟨rfl, x, rfl⟩
  go_wp2_with fail
  go_at_call 14; refine (with1_c _ _ _ _ _).mono ?_; rintro e w' ⟨rfl, x, rfl⟩
  go_wp2_with fail
  rw [rounds_succ]
  go_wp2_with fail
  refine wp_region_grows (by kernel_rfl) (by kernel_rfl) ?_
  repeat (go_big_quiet_step ((first | (go_at_call_of 13 (Value.agg #[.int .i64 a.lx, .int .i64 a.ly, .int .i64 a.lz]); exact Calls.quiet_ext (coord2_c _ _ _ _)) | (go_at_call_of 13 (Value.agg #[.int .i64 b.lx, .int .i64 b.ly, .int .i64 b.lz]); exact Calls.quiet_ext (coord2_c _ _ _ _)) | (go_at_call_of 13 (Value.agg #[.int .i64 a.hx, .int .i64 a.hy, .int .i64 a.hz]); exact Calls.quiet_ext (coord2_c _ _ _ _)) | (go_at_call_of 13 (Value.agg #[.int .i64 b.hx, .int .i64 b.hy, .int .i64 b.hz]); exact Calls.quiet_ext (coord2_c _ _ _ _)))))
  refine wpQuiet_nil ?_; rintro _ ⟨xq, rfl⟩
  by_cases g2 : min a.hz b.hz < max a.lz b.lz
  · have hm : meetB a b = false := by unfold meetB; simp; omega
    have HM := Lib.hid hm
    clear hm
    go_wp2
    refine bodyPost_ret (v := .tuple #[(.agg #[.int .i64 0, .int .i64 0, .int .i64 0, .int .i64 0, .int .i64 0, .int .i64 0]), .bool false]) (by simp [results, Try.results111, go_sem]) rfl ?_
    unfold refMeetV
    rw [HM.out]
    exact Ret.of (by (repeat (first | exact grow_refl _ | refine grow_ext _ ?_ | refine grow_alloc _ ?_ | refine grow_drew ?_)))
  go_wp2_with fail
  go_at_call 14; refine (with2_c _ _ _ _ _).mono ?_; rintro e w' ⟨rfl, x, rfl⟩
  go_wp2_with fail
  go_at_call 14; refine (with2_c _ _ _ _ _).mono ?_; rintro e w' ⟨rfl, x, rfl⟩
  go_wp2_with fail
  rw [rounds_succ]
  have hm : meetB a b = true := meetB_iff.2 (by omega)
  have HM := Lib.hid hm
  clear hm
  go_wp2
  refine bodyPost_ret (v := .tuple #[.agg #[.int .i64 (max a.lx b.lx), .int .i64 (max a.ly b.ly), .int .i64 (max a.lz b.lz), .int .i64 (min a.hx b.hx), .int .i64 (min a.hy b.hy), .int .i64 (min a.hz b.hz)], .bool true]) (by simp [results, Try.results111, go_sem]) rfl ?_
  unfold refMeetV
  rw [HM.out]
  exact Ret.of (by (repeat (first | exact grow_refl _ | refine grow_ext _ ?_ | refine grow_alloc _ ?_ | refine grow_drew ?_)))

end Go.Proofs.Ytafkibnkpcmmgaa
