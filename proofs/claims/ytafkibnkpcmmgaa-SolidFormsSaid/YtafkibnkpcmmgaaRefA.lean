/- Contracts of the reference for boxes, first part. -/
import Derived.Test.YtafkibnkpcmmgaaBoxG
namespace Go.Proofs.Ytafkibnkpcmmgaa
open Go.RowKit

def isLen (n : Int) : Bool := decide (-1048576 ≤ n ∧ n ≤ 1048576)
set_option maxHeartbeats 400000 in
theorem isLength_c (n : Int) (w : World) : Calls Try.prog 40 #[.int .i64 n] w (Ret w (.bool (isLen n))) := by
  go_enter Try.func40, Try.ntmps40
  go_wp2
  all_goals
    go_ret
    exact Ret.bool (by unfold isLen; simp; omega) (by (repeat (first | exact grow_refl _ | refine grow_ext _ ?_ | refine grow_alloc _ ?_ | refine grow_drew ?_)))
theorem isLength_v (n : Int) (r : Bool) (h : isLen n = r) (w : World) : Calls Try.prog 40 #[.int .i64 n] w (Ret w (.bool r)) := by
  subst h; exact isLength_c n w

def coordI (x y z k : Int) : Int := if k = 0 then x else if k = 1 then y else z
set_option maxHeartbeats 400000 in
theorem coord_c (x y z k : Int) (h : 0 ≤ k ∧ k ≤ 2) (w : World) : Calls Try.prog 13 #[(.agg #[.int .i64 x, .int .i64 y, .int .i64 z]), .int .i64 k] w (Ret w (.int .i64 (coordI x y z k))) := by
  have hk : k = 0 ∨ k = 1 ∨ k = 2 := by omega
  rcases hk with rfl | rfl | rfl
  all_goals
    clear h
    go_enter Try.func13, Try.ntmps13
    go_wp2
    go_ret
    exact Ret.of (by (repeat (first | exact grow_refl _ | refine grow_ext _ ?_ | refine grow_alloc _ ?_ | refine grow_drew ?_)))
theorem coord0_c (x y z : Int) (w : World) : Calls Try.prog 13 #[(.agg #[.int .i64 x, .int .i64 y, .int .i64 z]), .int .i64 0] w (Ret w (.int .i64 x)) := coord_c x y z 0 (by omega) w
theorem coord1_c (x y z : Int) (w : World) : Calls Try.prog 13 #[(.agg #[.int .i64 x, .int .i64 y, .int .i64 z]), .int .i64 1] w (Ret w (.int .i64 y)) := coord_c x y z 1 (by omega) w
theorem coord2_c (x y z : Int) (w : World) : Calls Try.prog 13 #[(.agg #[.int .i64 x, .int .i64 y, .int .i64 z]), .int .i64 2] w (Ret w (.int .i64 z)) := coord_c x y z 2 (by omega) w
theorem coordLo_c (b : Bx) (k : Int) (h : 0 ≤ k ∧ k ≤ 2) (w : World) : Calls Try.prog 13 #[(.agg #[.int .i64 b.lx, .int .i64 b.ly, .int .i64 b.lz]), .int .i64 k] w (Ret w (.int .i64 (b.lo k))) := coord_c b.lx b.ly b.lz k h w
theorem coordHi_c (b : Bx) (k : Int) (h : 0 ≤ k ∧ k ≤ 2) (w : World) : Calls Try.prog 13 #[(.agg #[.int .i64 b.hx, .int .i64 b.hy, .int .i64 b.hz]), .int .i64 k] w (Ret w (.int .i64 (b.hi k))) := coord_c b.hx b.hy b.hz k h w

set_option maxHeartbeats 400000 in
theorem with0_c (x y z n : Int) (w : World) : Calls Try.prog 14 #[(.agg #[.int .i64 x, .int .i64 y, .int .i64 z]), .int .i64 0, .int .i64 n] w (Ret w (.agg #[.int .i64 n, .int .i64 y, .int .i64 z])) := by
  go_enter Try.func14, Try.ntmps14
  go_wp2
  refine bodyPost_ret (v := (.agg #[.int .i64 n, .int .i64 y, .int .i64 z])) (by simp [results, Try.results14, go_sem]) rfl ?_
  exact Ret.of (by (repeat (first | exact grow_refl _ | refine grow_ext _ ?_ | refine grow_alloc _ ?_ | refine grow_drew ?_)))
set_option maxHeartbeats 400000 in
theorem with1_c (x y z n : Int) (w : World) : Calls Try.prog 14 #[(.agg #[.int .i64 x, .int .i64 y, .int .i64 z]), .int .i64 1, .int .i64 n] w (Ret w (.agg #[.int .i64 x, .int .i64 n, .int .i64 z])) := by
  go_enter Try.func14, Try.ntmps14
  go_wp2
  refine bodyPost_ret (v := (.agg #[.int .i64 x, .int .i64 n, .int .i64 z])) (by simp [results, Try.results14, go_sem]) rfl ?_
  exact Ret.of (by (repeat (first | exact grow_refl _ | refine grow_ext _ ?_ | refine grow_alloc _ ?_ | refine grow_drew ?_)))
set_option maxHeartbeats 400000 in
theorem with2_c (x y z n : Int) (w : World) : Calls Try.prog 14 #[(.agg #[.int .i64 x, .int .i64 y, .int .i64 z]), .int .i64 2, .int .i64 n] w (Ret w (.agg #[.int .i64 x, .int .i64 y, .int .i64 n])) := by
  go_enter Try.func14, Try.ntmps14
  go_wp2
  refine bodyPost_ret (v := (.agg #[.int .i64 x, .int .i64 y, .int .i64 n])) (by simp [results, Try.results14, go_sem]) rfl ?_
  exact Ret.of (by (repeat (first | exact grow_refl _ | refine grow_ext _ ?_ | refine grow_alloc _ ?_ | refine grow_drew ?_)))

theorem isLen_iff {n : Int} : isLen n = true ↔ (-1048576 ≤ n ∧ n ≤ 1048576) := by unfold isLen; exact decide_eq_true_iff
theorem isLen_not {n : Int} (h : isLen n = false) : n < -1048576 ∨ 1048576 < n := by
  unfold isLen at h; have := of_decide_eq_false h; omega

set_option maxRecDepth 100000 in
set_option maxHeartbeats 4000000 in
theorem refValid_c (b : Bx) (w : World) : Calls Try.prog 11 #[(.agg #[.int .i64 b.lx, .int .i64 b.ly, .int .i64 b.lz, .int .i64 b.hx, .int .i64 b.hy, .int .i64 b.hz])] w (Ret w (.bool (validB b))) := by
  go_enter Try.func11, Try.ntmps11
  go_wp2
  refine wp_loop_rounds 4 ?_
  rw [rounds_succ]
  go_wp2_with fail
  cases i1 : isLen b.lx
  · have := isLen_not i1
    refine wp_region_grows (by kernel_rfl) (by kernel_rfl) ?_
    repeat (go_big_quiet_step ((first | (go_at_call 13; exact Calls.quiet_ext (coord0_c _ _ _ _)) | (go_at_call_of 40 (Value.int IntKind.i64 b.lx); exact Calls.quiet_ext (isLength_v b.lx _ i1 _)))))
    refine wpQuiet_nil ?_; rintro _ ⟨xq, rfl⟩
    go_wp2
    go_ret
    exact Ret.bool (by unfold validB; simp; omega) (by (repeat (first | exact grow_refl _ | refine grow_ext _ ?_ | refine grow_alloc _ ?_ | refine grow_drew ?_)))
  · have k1 := isLen_iff.1 i1
    cases i2 : isLen b.hx
    · have := isLen_not i2
      refine wp_region_grows (by kernel_rfl) (by kernel_rfl) ?_
      repeat (go_big_quiet_step ((first | (go_at_call 13; exact Calls.quiet_ext (coord0_c _ _ _ _)) | (go_at_call_of 40 (Value.int IntKind.i64 b.lx); exact Calls.quiet_ext (isLength_v b.lx _ i1 _)) | (go_at_call_of 40 (Value.int IntKind.i64 b.hx); exact Calls.quiet_ext (isLength_v b.hx _ i2 _)))))
      refine wpQuiet_nil ?_; rintro _ ⟨xq, rfl⟩
      go_wp2
      go_ret
      exact Ret.bool (by unfold validB; simp; omega) (by (repeat (first | exact grow_refl _ | refine grow_ext _ ?_ | refine grow_alloc _ ?_ | refine grow_drew ?_)))
    · have k2 := isLen_iff.1 i2
      refine wp_region_grows (by kernel_rfl) (by kernel_rfl) ?_
      repeat (go_big_quiet_step ((first | (go_at_call 13; exact Calls.quiet_ext (coord0_c _ _ _ _)) | (go_at_call_of 40 (Value.int IntKind.i64 b.lx); exact Calls.quiet_ext (isLength_v b.lx _ i1 _)) | (go_at_call_of 40 (Value.int IntKind.i64 b.hx); exact Calls.quiet_ext (isLength_v b.hx _ i2 _)))))
      refine wpQuiet_nil ?_; rintro _ ⟨xq, rfl⟩
      clear i1 i2
      go_wp2_with fail
      all_goals first | (go_ret; exact Ret.bool (by unfold validB; simp; omega) (by (repeat (first | exact grow_refl _ | refine grow_ext _ ?_ | refine grow_alloc _ ?_ | refine grow_drew ?_)))) | rw [rounds_succ]
      go_wp2_with fail
      cases i1 : isLen b.ly
      · have := isLen_not i1
        refine wp_region_grows (by kernel_rfl) (by kernel_rfl) ?_
        repeat (go_big_quiet_step ((first | (go_at_call 13; exact Calls.quiet_ext (coord1_c _ _ _ _)) | (go_at_call_of 40 (Value.int IntKind.i64 b.ly); exact Calls.quiet_ext (isLength_v b.ly _ i1 _)))))
        refine wpQuiet_nil ?_; rintro _ ⟨xq, rfl⟩
        go_wp2
        go_ret
        exact Ret.bool (by unfold validB; simp; omega) (by (repeat (first | exact grow_refl _ | refine grow_ext _ ?_ | refine grow_alloc _ ?_ | refine grow_drew ?_)))
      · have k1 := isLen_iff.1 i1
        cases i2 : isLen b.hy
        · have := isLen_not i2
          refine wp_region_grows (by kernel_rfl) (by kernel_rfl) ?_
          repeat (go_big_quiet_step ((first | (go_at_call 13; exact Calls.quiet_ext (coord1_c _ _ _ _)) | (go_at_call_of 40 (Value.int IntKind.i64 b.ly); exact Calls.quiet_ext (isLength_v b.ly _ i1 _)) | (go_at_call_of 40 (Value.int IntKind.i64 b.hy); exact Calls.quiet_ext (isLength_v b.hy _ i2 _)))))
          refine wpQuiet_nil ?_; rintro _ ⟨xq, rfl⟩
          go_wp2
          go_ret
          exact Ret.bool (by unfold validB; simp; omega) (by (repeat (first | exact grow_refl _ | refine grow_ext _ ?_ | refine grow_alloc _ ?_ | refine grow_drew ?_)))
        · have k2 := isLen_iff.1 i2
          refine wp_region_grows (by kernel_rfl) (by kernel_rfl) ?_
          repeat (go_big_quiet_step ((first | (go_at_call 13; exact Calls.quiet_ext (coord1_c _ _ _ _)) | (go_at_call_of 40 (Value.int IntKind.i64 b.ly); exact Calls.quiet_ext (isLength_v b.ly _ i1 _)) | (go_at_call_of 40 (Value.int IntKind.i64 b.hy); exact Calls.quiet_ext (isLength_v b.hy _ i2 _)))))
          refine wpQuiet_nil ?_; rintro _ ⟨xq, rfl⟩
          clear i1 i2
          go_wp2_with fail
          all_goals first | (go_ret; exact Ret.bool (by unfold validB; simp; omega) (by (repeat (first | exact grow_refl _ | refine grow_ext _ ?_ | refine grow_alloc _ ?_ | refine grow_drew ?_)))) | rw [rounds_succ]
          go_wp2_with fail
          cases i1 : isLen b.lz
          · have := isLen_not i1
            refine wp_region_grows (by kernel_rfl) (by kernel_rfl) ?_
            repeat (go_big_quiet_step ((first | (go_at_call 13; exact Calls.quiet_ext (coord2_c _ _ _ _)) | (go_at_call_of 40 (Value.int IntKind.i64 b.lz); exact Calls.quiet_ext (isLength_v b.lz _ i1 _)))))
            refine wpQuiet_nil ?_; rintro _ ⟨xq, rfl⟩
            go_wp2
            go_ret
            exact Ret.bool (by unfold validB; simp; omega) (by (repeat (first | exact grow_refl _ | refine grow_ext _ ?_ | refine grow_alloc _ ?_ | refine grow_drew ?_)))
          · have k1 := isLen_iff.1 i1
            cases i2 : isLen b.hz
            · have := isLen_not i2
              refine wp_region_grows (by kernel_rfl) (by kernel_rfl) ?_
              repeat (go_big_quiet_step ((first | (go_at_call 13; exact Calls.quiet_ext (coord2_c _ _ _ _)) | (go_at_call_of 40 (Value.int IntKind.i64 b.lz); exact Calls.quiet_ext (isLength_v b.lz _ i1 _)) | (go_at_call_of 40 (Value.int IntKind.i64 b.hz); exact Calls.quiet_ext (isLength_v b.hz _ i2 _)))))
              refine wpQuiet_nil ?_; rintro _ ⟨xq, rfl⟩
              go_wp2
              go_ret
              exact Ret.bool (by unfold validB; simp; omega) (by (repeat (first | exact grow_refl _ | refine grow_ext _ ?_ | refine grow_alloc _ ?_ | refine grow_drew ?_)))
            · have k2 := isLen_iff.1 i2
              refine wp_region_grows (by kernel_rfl) (by kernel_rfl) ?_
              repeat (go_big_quiet_step ((first | (go_at_call 13; exact Calls.quiet_ext (coord2_c _ _ _ _)) | (go_at_call_of 40 (Value.int IntKind.i64 b.lz); exact Calls.quiet_ext (isLength_v b.lz _ i1 _)) | (go_at_call_of 40 (Value.int IntKind.i64 b.hz); exact Calls.quiet_ext (isLength_v b.hz _ i2 _)))))
              refine wpQuiet_nil ?_; rintro _ ⟨xq, rfl⟩
              clear i1 i2
              go_wp2_with fail
              all_goals first | (go_ret; exact Ret.bool (by unfold validB; simp; omega) (by (repeat (first | exact grow_refl _ | refine grow_ext _ ?_ | refine grow_alloc _ ?_ | refine grow_drew ?_)))) | rw [rounds_succ]
              go_wp2_with fail
              go_ret
              exact Ret.bool (by unfold validB; simp; omega) (by (repeat (first | exact grow_refl _ | refine grow_ext _ ?_ | refine grow_alloc _ ?_ | refine grow_drew ?_)))

end Go.Proofs.Ytafkibnkpcmmgaa
