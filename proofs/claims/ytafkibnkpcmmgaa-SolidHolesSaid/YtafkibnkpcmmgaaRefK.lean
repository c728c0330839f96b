/- RefA, RefB, RefC, RefD, RefE, RefF, RefH in one text. -/
import Derived.Test.YtafkibnkpcmmgaaBoxK2
import Derived.Test.YtafkibnkpcmmgaaExtK
import Derived.Test.YtafkibnkpcmmgaaBaseK
import Derived.Deep.RegionHeld3
namespace Go.Proofs.Ytafkibnkpcmmgaa
open Go.RowKit
set_option maxRecDepth 20000

def isLen (n : Int) : Bool := decide (-1048576 ≤ n ∧ n ≤ 1048576)
set_option maxHeartbeats 400000 in
theorem isLength_c (n : Int) (w : World) : Calls Try.prog 40 #[.int .i64 n] w (Ret w (.bool (isLen n))) := by
  go_enter Try.func40, Try.ntmps40
  go_wp2
  all_goals
    go_ret
    exact Ret.bool (by unfold isLen; simp; omega) (by (repeat (first | exact grow_refl _ | refine grow_ext _ ?_ | refine grow_alloc _ ?_ | refine grow_drew ?_)))
theorem isLength_v (n : Int) (r : Bool) (h : isLen n = r) (w : World) : Calls Try.prog 40 #[.int .i64 n] w (Ret w (.bool r)) := by
  subst h; exact isLength_c n w

def coordI (x y z k : Int) : Int := if k = 0 then x else if k = 1 then y else z
set_option maxHeartbeats 400000 in
theorem coord_c (x y z k : Int) (h : 0 ≤ k ∧ k ≤ 2) (w : World) : Calls Try.prog 13 #[(.agg #[.int .i64 x, .int .i64 y, .int .i64 z]), .int .i64 k] w (Ret w (.int .i64 (coordI x y z k))) := by
  have hk : k = 0 ∨ k = 1 ∨ k = 2 := by omega
  rcases hk with rfl | rfl | rfl
  all_goals
    clear h
    go_enter Try.func13, Try.ntmps13
    go_wp2
    go_ret
    exact Ret.of (by (repeat (first | exact grow_refl _ | refine grow_ext _ ?_ | refine grow_alloc _ ?_ | refine grow_drew ?_)))
theorem coord0_c (x y z : Int) (w : World) : Calls Try.prog 13 #[(.agg #[.int .i64 x, .int .i64 y, .int .i64 z]), .int .i64 0] w (Ret w (.int .i64 x)) := coord_c x y z 0 (by omega) w
theorem coord1_c (x y z : Int) (w : World) : Calls Try.prog 13 #[(.agg #[.int .i64 x, .int .i64 y, .int .i64 z]), .int .i64 1] w (Ret w (.int .i64 y)) := coord_c x y z 1 (by omega) w
theorem coord2_c (x y z : Int) (w : World) : Calls Try.prog 13 #[(.agg #[.int .i64 x, .int .i64 y, .int .i64 z]), .int .i64 2] w (Ret w (.int .i64 z)) := coord_c x y z 2 (by omega) w
theorem coordLo_c (b : Bx) (k : Int) (h : 0 ≤ k ∧ k ≤ 2) (w : World) : Calls Try.prog 13 #[(.agg #[.int .i64 b.lx, .int .i64 b.ly, .int .i64 b.lz]), .int .i64 k] w (Ret w (.int .i64 (b.lo k))) := coord_c b.lx b.ly b.lz k h w
theorem coordHi_c (b : Bx) (k : Int) (h : 0 ≤ k ∧ k ≤ 2) (w : World) : Calls Try.prog 13 #[(.agg #[.int .i64 b.hx, .int .i64 b.hy, .int .i64 b.hz]), .int .i64 k] w (Ret w (.int .i64 (b.hi k))) := coord_c b.hx b.hy b.hz k h w

set_option maxHeartbeats 400000 in
theorem with0_c (x y z n : Int) (w : World) : Calls Try.prog 14 #[(.agg #[.int .i64 x, .int .i64 y, .int .i64 z]), .int .i64 0, .int .i64 n] w (Ret w (.agg #[.int .i64 n, .int .i64 y, .int .i64 z])) := by
  go_enter Try.func14, Try.ntmps14
  go_wp2
  refine bodyPost_ret (v := (.agg #[.int .i64 n, .int .i64 y, .int .i64 z])) (by simp [results, Try.results14, go_sem]) rfl ?_
  exact Ret.of (by (repeat (first | exact grow_refl _ | refine grow_ext _ ?_ | refine grow_alloc _ ?_ | refine grow_drew ?_)))
set_option maxHeartbeats 400000 in
theorem with1_c (x y z n : Int) (w : World) : Calls Try.prog 14 #[(.agg #[.int .i64 x, .int .i64 y, .int .i64 z]), .int .i64 1, .int .i64 n] w (Ret w (.agg #[.int .i64 x, .int .i64 n, .int .i64 z])) := by
  go_enter Try.func14, Try.ntmps14
  go_wp2
  refine bodyPost_ret (v := (.agg #[.int .i64 x, .int .i64 n, .int .i64 z])) (by simp [results, Try.results14, go_sem]) rfl ?_
  exact Ret.of (by (repeat (first | exact grow_refl _ | refine grow_ext _ ?_ | refine grow_alloc _ ?_ | refine grow_drew ?_)))
set_option maxHeartbeats 400000 in
theorem with2_c (x y z n : Int) (w : World) : Calls Try.prog 14 #[(.agg #[.int .i64 x, .int .i64 y, .int .i64 z]), .int .i64 2, .int .i64 n] w (Ret w (.agg #[.int .i64 x, .int .i64 y, .int .i64 n])) := by
  go_enter Try.func14, Try.ntmps14
  go_wp2
  refine bodyPost_ret (v := (.agg #[.int .i64 x, .int .i64 y, .int .i64 n])) (by simp [results, Try.results14, go_sem]) rfl ?_
  exact Ret.of (by (repeat (first | exact grow_refl _ | refine grow_ext _ ?_ | refine grow_alloc _ ?_ | refine grow_drew ?_)))

theorem isLen_iff {n : Int} : isLen n = true ↔ (-1048576 ≤ n ∧ n ≤ 1048576) := by unfold isLen; exact decide_eq_true_iff
theorem isLen_not {n : Int} (h : isLen n = false) : n < -1048576 ∨ 1048576 < n := by
  unfold isLen at h; have := of_decide_eq_false h; omega

set_option maxRecDepth 100000 in
set_option maxHeartbeats 4000000 in
theorem refValid_c (b : Bx) (w : World) : Calls Try.prog 11 #[(.agg #[.int .i64 b.lx, .int .i64 b.ly, .int .i64 b.lz, .int .i64 b.hx, .int .i64 b.hy, .int .i64 b.hz])] w (Ret w (.bool (validB b))) := by
  go_enter Try.func11, Try.ntmps11
  go_wp2
  refine wp_loop_rounds 4 ?_
  rw [rounds_succ]
  go_wp2_with fail
  cases i1 : isLen b.lx
  · have := isLen_not i1
    refine wp_region_grows (by kernel_rfl) (by kernel_rfl) ?_
    repeat (go_big_quiet_step ((first | (go_at_call 13; exact Calls.quiet_ext (coord0_c _ _ _ _)) | (go_at_call_of 40 (Value.int IntKind.i64 b.lx); exact Calls.quiet_ext (isLength_v b.lx _ i1 _)))))
    refine wpQuiet_nil ?_; rintro _ ⟨xq, rfl⟩
    go_wp2
    go_ret
    exact Ret.bool (by unfold validB; simp; omega) (by (repeat (first | exact grow_refl _ | refine grow_ext _ ?_ | refine grow_alloc _ ?_ | refine grow_drew ?_)))
  · have k1 := isLen_iff.1 i1
    cases i2 : isLen b.hx
    · have := isLen_not i2
      refine wp_region_grows (by kernel_rfl) (by kernel_rfl) ?_
      repeat (go_big_quiet_step ((first | (go_at_call 13; exact Calls.quiet_ext (coord0_c _ _ _ _)) | (go_at_call_of 40 (Value.int IntKind.i64 b.lx); exact Calls.quiet_ext (isLength_v b.lx _ i1 _)) | (go_at_call_of 40 (Value.int IntKind.i64 b.hx); exact Calls.quiet_ext (isLength_v b.hx _ i2 _)))))
      refine wpQuiet_nil ?_; rintro _ ⟨xq, rfl⟩
      go_wp2
      go_ret
      exact Ret.bool (by unfold validB; simp; omega) (by (repeat (first | exact grow_refl _ | refine grow_ext _ ?_ | refine grow_alloc _ ?_ | refine grow_drew ?_)))
    · have k2 := isLen_iff.1 i2
      refine wp_region_grows (by kernel_rfl) (by kernel_rfl) ?_
      repeat (go_big_quiet_step ((first | (go_at_call 13; exact Calls.quiet_ext (coord0_c _ _ _ _)) | (go_at_call_of 40 (Value.int IntKind.i64 b.lx); exact Calls.quiet_ext (isLength_v b.lx _ i1 _)) | (go_at_call_of 40 (Value.int IntKind.i64 b.hx); exact Calls.quiet_ext (isLength_v b.hx _ i2 _)))))
      refine wpQuiet_nil ?_; rintro _ ⟨xq, rfl⟩
      clear i1 i2
      go_wp2_with fail
      all_goals first | (go_ret; exact Ret.bool (by unfold validB; simp; omega) (by (repeat (first | exact grow_refl _ | refine grow_ext _ ?_ | refine grow_alloc _ ?_ | refine grow_drew ?_)))) | rw [rounds_succ]
      go_wp2_with fail
      cases i1 : isLen b.ly
      · have := isLen_not i1
        refine wp_region_grows (by kernel_rfl) (by kernel_rfl) ?_
        repeat (go_big_quiet_step ((first | (go_at_call 13; exact Calls.quiet_ext (coord1_c _ _ _ _)) | (go_at_call_of 40 (Value.int IntKind.i64 b.ly); exact Calls.quiet_ext (isLength_v b.ly _ i1 _)))))
        refine wpQuiet_nil ?_; rintro _ ⟨xq, rfl⟩
        go_wp2
        go_ret
        exact Ret.bool (by unfold validB; simp; omega) (by (repeat (first | exact grow_refl _ | refine grow_ext _ ?_ | refine grow_alloc _ ?_ | refine grow_drew ?_)))
      · have k1 := isLen_iff.1 i1
        cases i2 : isLen b.hy
        · have := isLen_not i2
          refine wp_region_grows (by kernel_rfl) (by kernel_rfl) ?_
          repeat (go_big_quiet_step ((first | (go_at_call 13; exact Calls.quiet_ext (coord1_c _ _ _ _)) | (go_at_call_of 40 (Value.int IntKind.i64 b.ly); exact Calls.quiet_ext (isLength_v b.ly _ i1 _)) | (go_at_call_of 40 (Value.int IntKind.i64 b.hy); exact Calls.quiet_ext (isLength_v b.hy _ i2 _)))))
          refine wpQuiet_nil ?_; rintro _ ⟨xq, rfl⟩
          go_wp2
          go_ret
          exact Ret.bool (by unfold validB; simp; omega) (by (repeat (first | exact grow_refl _ | refine grow_ext _ ?_ | refine grow_alloc _ ?_ | refine grow_drew ?_)))
        · have k2 := isLen_iff.1 i2
          refine wp_region_grows (by kernel_rfl) (by kernel_rfl) ?_
          repeat (go_big_quiet_step ((first | (go_at_call 13; exact Calls.quiet_ext (coord1_c _ _ _ _)) | (go_at_call_of 40 (Value.int IntKind.i64 b.ly); exact Calls.quiet_ext (isLength_v b.ly _ i1 _)) | (go_at_call_of 40 (Value.int IntKind.i64 b.hy); exact Calls.quiet_ext (isLength_v b.hy _ i2 _)))))
          refine wpQuiet_nil ?_; rintro _ ⟨xq, rfl⟩
          clear i1 i2
          go_wp2_with fail
          all_goals first | (go_ret; exact Ret.bool (by unfold validB; simp; omega) (by (repeat (first | exact grow_refl _ | refine grow_ext _ ?_ | refine grow_alloc _ ?_ | refine grow_drew ?_)))) | rw [rounds_succ]
          go_wp2_with fail
          cases i1 : isLen b.lz
          · have := isLen_not i1
            refine wp_region_grows (by kernel_rfl) (by kernel_rfl) ?_
            repeat (go_big_quiet_step ((first | (go_at_call 13; exact Calls.quiet_ext (coord2_c _ _ _ _)) | (go_at_call_of 40 (Value.int IntKind.i64 b.lz); exact Calls.quiet_ext (isLength_v b.lz _ i1 _)))))
            refine wpQuiet_nil ?_; rintro _ ⟨xq, rfl⟩
            go_wp2
            go_ret
            exact Ret.bool (by unfold validB; simp; omega) (by (repeat (first | exact grow_refl _ | refine grow_ext _ ?_ | refine grow_alloc _ ?_ | refine grow_drew ?_)))
          · have k1 := isLen_iff.1 i1
            cases i2 : isLen b.hz
            · have := isLen_not i2
              refine wp_region_grows (by kernel_rfl) (by kernel_rfl) ?_
              repeat (go_big_quiet_step ((first | (go_at_call 13; exact Calls.quiet_ext (coord2_c _ _ _ _)) | (go_at_call_of 40 (Value.int IntKind.i64 b.lz); exact Calls.quiet_ext (isLength_v b.lz _ i1 _)) | (go_at_call_of 40 (Value.int IntKind.i64 b.hz); exact Calls.quiet_ext (isLength_v b.hz _ i2 _)))))
              refine wpQuiet_nil ?_; rintro _ ⟨xq, rfl⟩
              go_wp2
              go_ret
              exact Ret.bool (by unfold validB; simp; omega) (by (repeat (first | exact grow_refl _ | refine grow_ext _ ?_ | refine grow_alloc _ ?_ | refine grow_drew ?_)))
            · have k2 := isLen_iff.1 i2
              refine wp_region_grows (by kernel_rfl) (by kernel_rfl) ?_
              repeat (go_big_quiet_step ((first | (go_at_call 13; exact Calls.quiet_ext (coord2_c _ _ _ _)) | (go_at_call_of 40 (Value.int IntKind.i64 b.lz); exact Calls.quiet_ext (isLength_v b.lz _ i1 _)) | (go_at_call_of 40 (Value.int IntKind.i64 b.hz); exact Calls.quiet_ext (isLength_v b.hz _ i2 _)))))
              refine wpQuiet_nil ?_; rintro _ ⟨xq, rfl⟩
              clear i1 i2
              go_wp2_with fail
              all_goals first | (go_ret; exact Ret.bool (by unfold validB; simp; omega) (by (repeat (first | exact grow_refl _ | refine grow_ext _ ?_ | refine grow_alloc _ ?_ | refine grow_drew ?_)))) | rw [rounds_succ]
              go_wp2_with fail
              go_ret
              exact Ret.bool (by unfold validB; simp; omega) (by (repeat (first | exact grow_refl _ | refine grow_ext _ ?_ | refine grow_alloc _ ?_ | refine grow_drew ?_)))

end Go.Proofs.Ytafkibnkpcmmgaa

namespace Go.Proofs.Ytafkibnkpcmmgaa
open Go.RowKit
set_option maxRecDepth 20000

def squareI (a b : Bx) : Int := max 0 (alongI a b 0) * max 0 (alongI a b 0) + max 0 (alongI a b 1) * max 0 (alongI a b 1) + max 0 (alongI a b 2) * max 0 (alongI a b 2)
theorem along_bound {a b : Bx} (ha : validB a = true) (hb : validB b = true) (k : Int) : alongI a b k ≤ 2097152 := by
  have h1 := valid_iff.1 ha
  have h2 := valid_iff.1 hb
  unfold alongI Bx.lo Bx.hi
  split <;> (try split) <;> omega
theorem pos_sq {a b : Bx} (ha : validB a = true) (hb : validB b = true) (k : Int) : 0 ≤ max 0 (alongI a b k) * max 0 (alongI a b k) ∧ max 0 (alongI a b k) * max 0 (alongI a b k) ≤ 4398046511104 := by
  have h := along_bound ha hb k
  generalize alongI a b k = n at h
  have h0 : 0 ≤ max 0 n := by omega
  have h1 : max 0 n ≤ 2097152 := by omega
  exact ⟨Int.mul_nonneg h0 h0, by have := Int.mul_le_mul h1 h1 h0 (by omega); omega⟩

end Go.Proofs.Ytafkibnkpcmmgaa

namespace Go.Proofs.Ytafkibnkpcmmgaa
open Go.RowKit
set_option maxRecDepth 20000

/-- Two boxes have a point in common. -/
def meetB (a b : Bx) : Bool := decide (max a.lx b.lx ≤ min a.hx b.hx ∧ max a.ly b.ly ≤ min a.hy b.hy ∧ max a.lz b.lz ≤ min a.hz b.hz)
theorem meetB_iff {a b : Bx} : meetB a b = true ↔ (max a.lx b.lx ≤ min a.hx b.hx ∧ max a.ly b.ly ≤ min a.hy b.hy ∧ max a.lz b.lz ≤ min a.hz b.hz) := by unfold meetB; exact decide_eq_true_iff
def refMeetV (a b : Bx) : Value := if meetB a b = true then .tuple #[(.agg #[.int .i64 (meetX a b).lx, .int .i64 (meetX a b).ly, .int .i64 (meetX a b).lz, .int .i64 (meetX a b).hx, .int .i64 (meetX a b).hy, .int .i64 (meetX a b).hz]), .bool true] else .tuple #[(.agg #[.int .i64 0, .int .i64 0, .int .i64 0, .int .i64 0, .int .i64 0, .int .i64 0]), .bool false]

set_option maxRecDepth 100000 in
set_option maxHeartbeats 4000000 in
theorem refMeet_c (a b : Bx) (w : World) : Calls Try.prog 111 #[(.agg #[.int .i64 a.lx, .int .i64 a.ly, .int .i64 a.lz, .int .i64 a.hx, .int .i64 a.hy, .int .i64 a.hz]), (.agg #[.int .i64 b.lx, .int .i64 b.ly, .int .i64 b.lz, .int .i64 b.hx, .int .i64 b.hy, .int .i64 b.hz])] w (Ret w (refMeetV a b)) := by
  go_enter Try.func111, Try.ntmps111
  go_wp2
  refine wp_loop_rounds 4 ?_
  rw [rounds_succ]
  go_wp2_with fail
  refine wp_region_grows (by kernel_rfl) (by kernel_rfl) ?_
  repeat (go_big_quiet_step ((first | (go_at_call_of 13 (Value.agg #[.int .i64 a.lx, .int .i64 a.ly, .int .i64 a.lz]); exact Calls.quiet_ext (coord0_c _ _ _ _)) | (go_at_call_of 13 (Value.agg #[.int .i64 b.lx, .int .i64 b.ly, .int .i64 b.lz]); exact Calls.quiet_ext (coord0_c _ _ _ _)) | (go_at_call_of 13 (Value.agg #[.int .i64 a.hx, .int .i64 a.hy, .int .i64 a.hz]); exact Calls.quiet_ext (coord0_c _ _ _ _)) | (go_at_call_of 13 (Value.agg #[.int .i64 b.hx, .int .i64 b.hy, .int .i64 b.hz]); exact Calls.quiet_ext (coord0_c _ _ _ _)))))
  refine wpQuiet_nil ?_; rintro _ ⟨xq, rfl⟩
  by_cases g0 : min a.hx b.hx < max a.lx b.lx
  · have hm : meetB a b = false := by unfold meetB; simp; omega
    have HM := Lib.hid hm
    clear hm
    go_wp2
    refine bodyPost_ret (v := .tuple #[(.agg #[.int .i64 0, .int .i64 0, .int .i64 0, .int .i64 0, .int .i64 0, .int .i64 0]), .bool false]) (by simp [results, Try.results111, go_sem]) rfl ?_
    unfold refMeetV
    rw [HM.out]
    exact Ret.of (by (repeat (first | exact grow_refl _ | refine grow_ext _ ?_ | refine grow_alloc _ ?_ | refine grow_drew ?_)))
  go_wp2_with fail
  go_at_call 14; refine (with0_c _ _ _ _ _).mono ?_; rintro e w' ⟨rfl, x, rfl⟩
  go_wp2_with fail
  go_at_call 14; refine (with0_c _ _ _ _ _).mono ?_; rintro e w' ⟨rfl, x, rfl⟩
  go_wp2_with fail
  rw [rounds_succ]
  go_wp2_with fail
  refine wp_region_grows (by kernel_rfl) (by kernel_rfl) ?_
  repeat (go_big_quiet_step ((first | (go_at_call_of 13 (Value.agg #[.int .i64 a.lx, .int .i64 a.ly, .int .i64 a.lz]); exact Calls.quiet_ext (coord1_c _ _ _ _)) | (go_at_call_of 13 (Value.agg #[.int .i64 b.lx, .int .i64 b.ly, .int .i64 b.lz]); exact Calls.quiet_ext (coord1_c _ _ _ _)) | (go_at_call_of 13 (Value.agg #[.int .i64 a.hx, .int .i64 a.hy, .int .i64 a.hz]); exact Calls.quiet_ext (coord1_c _ _ _ _)) | (go_at_call_of 13 (Value.agg #[.int .i64 b.hx, .int .i64 b.hy, .int .i64 b.hz]); exact Calls.quiet_ext (coord1_c _ _ _ _)))))
  refine wpQuiet_nil ?_; rintro _ ⟨xq, rfl⟩
  by_cases g1 : min a.hy b.hy < max a.ly b.ly
  · have hm : meetB a b = false := by unfold meetB; simp; omega
    have HM := Lib.hid hm
    clear hm
    go_wp2
    refine bodyPost_ret (v := .tuple #[(.agg #[.int .i64 0, .int .i64 0, .int .i64 0, .int .i64 0, .int .i64 0, .int .i64 0]), .bool false]) (by simp [results, Try.results111, go_sem]) rfl ?_
    unfold refMeetV
    rw [HM.out]
    exact Ret.of (by (repeat (first | exact grow_refl _ | refine grow_ext _ ?_ | refine grow_alloc _ ?_ | refine grow_drew ?_)))
  go_wp2_with fail
  go_at_call 14; refine (with1_c _ _ _ _ _).mono ?_; rintro e w' ⟨rfl, x, rfl⟩
  go_wp2_with fail
  go_at_call 14; refine (with1_c _ _ _ _ _).mono ?_; rintro e w' ⟨rfl, x, rfl⟩
  go_wp2_with fail
  rw [rounds_succ]
  go_wp2_with fail
  refine wp_region_grows (by kernel_rfl) (by kernel_rfl) ?_
  repeat (go_big_quiet_step ((first | (go_at_call_of 13 (Value.agg #[.int .i64 a.lx, .int .i64 a.ly, .int .i64 a.lz]); exact Calls.quiet_ext (coord2_c _ _ _ _)) | (go_at_call_of 13 (Value.agg #[.int .i64 b.lx, .int .i64 b.ly, .int .i64 b.lz]); exact Calls.quiet_ext (coord2_c _ _ _ _)) | (go_at_call_of 13 (Value.agg #[.int .i64 a.hx, .int .i64 a.hy, .int .i64 a.hz]); exact Calls.quiet_ext (coord2_c _ _ _ _)) | (go_at_call_of 13 (Value.agg #[.int .i64 b.hx, .int .i64 b.hy, .int .i64 b.hz]); exact Calls.quiet_ext (coord2_c _ _ _ _)))))
  refine wpQuiet_nil ?_; rintro _ ⟨xq, rfl⟩
  by_cases g2 : min a.hz b.hz < max a.lz b.lz
  · have hm : meetB a b = false := by unfold meetB; simp; omega
    have HM := Lib.hid hm
    clear hm
    go_wp2
    refine bodyPost_ret (v := .tuple #[(.agg #[.int .i64 0, .int .i64 0, .int .i64 0, .int .i64 0, .int .i64 0, .int .i64 0]), .bool false]) (by simp [results, Try.results111, go_sem]) rfl ?_
    unfold refMeetV
    rw [HM.out]
    exact Ret.of (by (repeat (first | exact grow_refl _ | refine grow_ext _ ?_ | refine grow_alloc _ ?_ | refine grow_drew ?_)))
  go_wp2_with fail
  go_at_call 14; refine (with2_c _ _ _ _ _).mono ?_; rintro e w' ⟨rfl, x, rfl⟩
  go_wp2_with fail
  go_at_call 14; refine (with2_c _ _ _ _ _).mono ?_; rintro e w' ⟨rfl, x, rfl⟩
  go_wp2_with fail
  rw [rounds_succ]
  have hm : meetB a b = true := meetB_iff.2 (by omega)
  have HM := Lib.hid hm
  clear hm
  go_wp2
  refine bodyPost_ret (v := .tuple #[.agg #[.int .i64 (max a.lx b.lx), .int .i64 (max a.ly b.ly), .int .i64 (max a.lz b.lz), .int .i64 (min a.hx b.hx), .int .i64 (min a.hy b.hy), .int .i64 (min a.hz b.hz)], .bool true]) (by simp [results, Try.results111, go_sem]) rfl ?_
  unfold refMeetV
  rw [HM.out]
  exact Ret.of (by (repeat (first | exact grow_refl _ | refine grow_ext _ ?_ | refine grow_alloc _ ?_ | refine grow_drew ?_)))

end Go.Proofs.Ytafkibnkpcmmgaa

namespace Go.Proofs.Ytafkibnkpcmmgaa
open Go.RowKit
set_option maxRecDepth 20000

def Ord (b : Bx) : Prop := b.lx ≤ b.hx ∧ b.ly ≤ b.hy ∧ b.lz ≤ b.hz
theorem Ord.of_valid {b : Bx} (h : validB b = true) : Ord b := by have := valid_iff.1 h; unfold Ord; omega

set_option maxHeartbeats 400000 in
theorem refContains_c (a b : Bx) (hb : Ord b) (w : World) : Calls Try.prog 100 #[(.agg #[.int .i64 a.lx, .int .i64 a.ly, .int .i64 a.lz, .int .i64 a.hx, .int .i64 a.hy, .int .i64 a.hz]), (.agg #[.int .i64 b.lx, .int .i64 b.ly, .int .i64 b.lz, .int .i64 b.hx, .int .i64 b.hy, .int .i64 b.hz])] w (Ret w (.bool (containsB a b))) := by
  have hm := refMeet_c a b
  unfold refMeetV at hm
  cases h : meetB a b
  · rw [h] at hm
    have HM := Lib.hid hm
    have hc : containsB a b = false := by
      unfold Ord at hb
      cases hc : containsB a b
      · rfl
      · have h1 := contains_iff.1 hc
        have := meetB_iff.2 (show max a.lx b.lx ≤ min a.hx b.hx ∧ max a.ly b.ly ≤ min a.hy b.hy ∧ max a.lz b.lz ≤ min a.hz b.hz by omega)
        rw [h] at this; cases this
    have HC := Lib.hid hc
    clear hm hc h
    go_enter Try.func100, Try.ntmps100
    go_wp2_with fail
    refine (HM.out _).mono ?_; rintro e w' ⟨rfl, x, rfl⟩
    go_wp2
    go_ret
    rw [HC.out]
    exact Ret.of (by (repeat (first | exact grow_refl _ | refine grow_ext _ ?_ | refine grow_alloc _ ?_ | refine grow_drew ?_)))
  · rw [h] at hm
    have HM := Lib.hid hm
    clear hm h
    go_enter Try.func100, Try.ntmps100
    go_wp2_with fail
    refine (HM.out _).mono ?_; rintro e w' ⟨rfl, x, rfl⟩
    clear HM
    unfold Ord at hb
    go_wp2
    all_goals
      simp only [meetX] at *
      go_ret
      exact Ret.bool (by unfold containsB; simp; omega) (by (repeat (first | exact grow_refl _ | refine grow_ext _ ?_ | refine grow_alloc _ ?_ | refine grow_drew ?_)))

end Go.Proofs.Ytafkibnkpcmmgaa

namespace Go.Proofs.Ytafkibnkpcmmgaa
open Go.RowKit
set_option maxRecDepth 20000

/-- The next cut, after the first q ends of a box. -/
def stepTo (last nx : Int) (k : Int) (x : Bx) (q : Nat) : Int := if q = 0 then nx else if q = 1 then stepN last nx (x.lo k) else stepN last (stepN last nx (x.lo k)) (x.hi k)
theorem stepTo_two (l : List Bx) (last hi k : Int) (j : Nat) (h : j < l.length) : stepTo last (nextL last hi (endsL (l.take j) k)) k l[j] 2 = nextL last hi (endsL (l.take (j + 1)) k) := by
  rw [endsL_take l k j h, nextL_snoc]; rfl
theorem stepN_pos {last nx n : Int} (h : last < n ∧ n < nx) : stepN last nx n = n := if_pos h
theorem stepN_neg {last nx n : Int} (h : ¬ (last < n ∧ n < nx)) : stepN last nx n = nx := if_neg h
def lenOf : Value → Nat
  | .slice _ n _ => n
  | _ => 0

set_option maxHeartbeats 4000000 in
theorem refCuts_c (l : List Bx) (v : Value) (b : Bx) (k : Int) (hk : 0 ≤ k ∧ k ≤ 2) (w : World) (hl : Boxes w v l) (hlen : l.length ≤ 1000) (hb : b.lo k ≤ b.hi k) :
    Calls Try.prog 99 #[v, (.agg #[.int .i64 b.lx, .int .i64 b.ly, .int .i64 b.lz, .int .i64 b.hx, .int .i64 b.hy, .int .i64 b.hz]), .int .i64 k] w (RetOwn w 3 1 (cutsB l b k).length ((cutsB l b k).map (Value.int .i64))) := by
  obtain ⟨h0, e0, hq⟩ := cutsB_facts (l := l) hb
  have hcl := cutsB_length l b k
  generalize cutsB l b k = C at h0 e0 hq hcl
  have HQ := Lib.hid (show ∀ m (h1 : 1 ≤ m) (h2 : m < C.length) (h3 : m - 1 < C.length), C[m - 1] < b.hi k ∧ C[m] = nextL C[m - 1] (b.hi k) (endsL l k) from fun m h1 h2 h3 => by
    have := (hq (m - 1) h3).1 (by omega)
    have e : m - 1 + 1 = m := by omega
    simpa only [e] using this)
  have HL := Lib.hid (show ∀ m (h1 : 1 ≤ m) (h2 : m = C.length) (h3 : m - 1 < C.length), C[m - 1] = b.hi k from fun m h1 h2 h3 => (hq (m - 1) h3).2 (by omega))
  have t1 : C.take 1 = [b.lo k] := by rw [← e0]; cases C with
    | nil => simp at h0
    | cons a C => simp
  have HT1 := Lib.hid t1
  clear hq e0 t1 hb
  obtain ⟨a, cap, rfl, hcap, hcap2, hcell⟩ := hl.shape
  have HCE := Lib.hid hcell
  clear hl hcell
  go_enter Try.func99, Try.ntmps99
  go_wp2_with fail
  go_at_call 13; refine (coordLo_c b k hk _).mono ?_; rintro e w' ⟨rfl, x0, rfl⟩
  go_wp2_with fail
  go_loopw [7] (fun v7 wr => ∃ m : Nat, 1 ≤ m ∧ m ≤ C.length ∧ (∃ x, wr = ext (w.alloc (.cells #[.int .i64 b.lx, .int .i64 b.ly, .int .i64 b.lz, .int .i64 b.hx, .int .i64 b.hy, .int .i64 b.hz] 28)) x) ∧ wr.ownsRow (w.alloc (.cells #[.int .i64 b.lx, .int .i64 b.ly, .int .i64 b.lz, .int .i64 b.hx, .int .i64 b.hy, .int .i64 b.hz] 28)).heap.size 3 1 v7 m ((C.take m).map (Value.int .i64))) (fun v7 wr => C.length - lenOf v7)
  case atStart =>
    refine ⟨1, Nat.le_refl _, h0, ext_of (by (repeat (first | exact grow_refl _ | refine grow_ext _ ?_ | refine grow_alloc _ ?_ | refine grow_drew ?_))), ?_⟩
    exact own_lit _ _ _ _ _ (by simp [size_ext]) (by simp [size_ext]) (by decide) rfl (by simp [HT1.out])
  case round =>
    obtain ⟨m, hm1, hmC, ⟨x1, rfl⟩, hown⟩ := hrel
    obtain ⟨a7, cap7, rfl, s1, s2, s3⟩ := own_shape hown
    obtain ⟨g, rfl, hg, hc⟩ := s3 (by omega)
    have hm3 : m - 1 < C.length := by omega
    have k1 := hc (m - 1) (by omega)
    rw [List.getElem?_map, List.getElem?_take_of_lt (by omega), List.getElem?_eq_getElem hm3, Option.map_some] at k1
    clear s3 hc
    unfold maxLen at s2
    have p1 : IntKind.i64.wrap ((m : Int) - 1) = (m : Int) - 1 := IntWalk.i64_in _ (by omega)
    have p2 : (0 : Int) ≤ (m : Int) - 1 := by omega
    have p3 : (m : Int) - 1 < (m : Int) := by omega
    have p4 : ((m : Int) - 1).toNat = m - 1 := by omega
    have HOWN := Lib.hid hown
    clear hown
    by_cases hlt : m < C.length
    · obtain ⟨f1, f2⟩ := HQ.out m hm1 hlt hm3
      have HF2 := Lib.hid f2
      clear f2
      go_wp2_with fail
      refine wp_region_grows (by kernel_rfl) (by kernel_rfl) ?_
      repeat (go_big_quiet_step ((go_at_call 13; exact Calls.quiet_ext (coordHi_c b k hk _))))
      refine wpQuiet_nil ?_; rintro _ ⟨xq, rfl⟩
      clear p1 p2 p3 p4
      go_wp2_with fail
      go_at_call 13; refine (coordHi_c b k hk _).mono ?_; rintro e w' ⟨rfl, x2, rfl⟩
      clear k1 f1
      go_wp2_with fail
      go_loopw [10, 9] (fun i n wr => ∃ j : Nat, j ≤ l.length ∧ i = .int .i64 j ∧ n = .int .i64 (nextL C[m - 1] (b.hi k) (endsL (l.take j) k)) ∧ ∃ x, wr = ext (ext (w.alloc (.cells #[.int .i64 b.lx, .int .i64 b.ly, .int .i64 b.lz, .int .i64 b.hx, .int .i64 b.hy, .int .i64 b.hz] 28)) x1) x) (fun i _ _ => l.length - (intOf i).toNat)
      case atStart => exact ⟨0, by omega, rfl, rfl, ext_of (by (repeat (first | exact grow_refl _ | refine grow_ext _ ?_ | refine grow_alloc _ ?_ | refine grow_drew ?_)))⟩
      case round =>
        obtain ⟨j, hj, rfl, rfl, y, rfl⟩ := hrel
        by_cases hjl : j < l.length
        · obtain ⟨b', off, rfl, c0, c1, c2, c3, c4, c5⟩ := HCE.out j hjl
          have HST := Lib.hid (stepTo_two l C[m - 1] (b.hi k) k j hjl)
          generalize nextL C[m - 1] (b.hi k) (endsL (l.take j) k) = nx at HST
          go_wp2_with fail
          go_loopw [11, 9] (fun i n wr => ∃ q : Nat, q ≤ 2 ∧ i = .int .i64 q ∧ n = .int .i64 (stepTo C[m - 1] nx k l[j] q) ∧ ∃ x, wr = ext (ext (w.alloc (.cells #[.int .i64 b.lx, .int .i64 b.ly, .int .i64 b.lz, .int .i64 b.hx, .int .i64 b.hy, .int .i64 b.hz] 28)) x1) x) (fun i _ _ => 2 - (intOf i).toNat)
          case atStart => exact ⟨0, by omega, rfl, rfl, ext_of (by (repeat (first | exact grow_refl _ | refine grow_ext _ ?_ | refine grow_alloc _ ?_ | refine grow_drew ?_)))⟩
          case round =>
            obtain ⟨q, hq, rfl, rfl, z, rfl⟩ := hrel
            have hq3 : q = 0 ∨ q = 1 ∨ q = 2 := by omega
            rcases hq3 with rfl | rfl | rfl
            · rw [show stepTo C[m - 1] nx k l[j] 0 = nx from rfl]
              by_cases i1 : C[m - 1] < l[j].lo k ∧ l[j].lo k < nx
              · have HI := Lib.hid (stepN_pos i1)
                obtain ⟨i1, i2⟩ := i1
                go_wp2_with fail
                go_at_call 13; refine (coordLo_c l[j] k hk _).mono ?_; rintro e w' ⟨rfl, z1, rfl⟩
                go_wp2
                go_roundw
                case rel => exact ⟨1, by omega, rfl, by rw [show stepTo C[m - 1] nx k l[j] 1 = stepN C[m - 1] nx (l[j].lo k) from rfl, HI.out], ext_of (by (repeat (first | exact grow_refl _ | refine grow_ext _ ?_ | refine grow_alloc _ ?_ | refine grow_drew ?_)))⟩
                case measure => simp [intOf]
              · have HI := Lib.hid (stepN_neg i1)
                go_wp2_with fail
                go_at_call 13; refine (coordLo_c l[j] k hk _).mono ?_; rintro e w' ⟨rfl, z1, rfl⟩
                go_wp2
                all_goals
                  go_roundw
                  case rel => exact ⟨1, by omega, rfl, by rw [show stepTo C[m - 1] nx k l[j] 1 = stepN C[m - 1] nx (l[j].lo k) from rfl, HI.out], ext_of (by (repeat (first | exact grow_refl _ | refine grow_ext _ ?_ | refine grow_alloc _ ?_ | refine grow_drew ?_)))⟩
                  case measure => simp [intOf]
            · have HX := Lib.hid (show stepTo C[m - 1] nx k l[j] 2 = stepN C[m - 1] (stepTo C[m - 1] nx k l[j] 1) (l[j].hi k) from rfl)
              generalize stepTo C[m - 1] nx k l[j] 1 = n1 at HX
              by_cases i1 : C[m - 1] < l[j].hi k ∧ l[j].hi k < n1
              · have HI := Lib.hid (stepN_pos i1)
                obtain ⟨i1, i2⟩ := i1
                go_wp2_with fail
                go_at_call 13; refine (coordLo_c l[j] k hk _).mono ?_; rintro e w' ⟨rfl, z1, rfl⟩
                go_wp2_with fail
                go_at_call 13; refine (coordHi_c l[j] k hk _).mono ?_; rintro e w' ⟨rfl, z2, rfl⟩
                go_wp2
                go_roundw
                case rel => exact ⟨2, by omega, rfl, by rw [HX.out, HI.out], ext_of (by (repeat (first | exact grow_refl _ | refine grow_ext _ ?_ | refine grow_alloc _ ?_ | refine grow_drew ?_)))⟩
                case measure => simp [intOf]
              · have HI := Lib.hid (stepN_neg i1)
                go_wp2_with fail
                go_at_call 13; refine (coordLo_c l[j] k hk _).mono ?_; rintro e w' ⟨rfl, z1, rfl⟩
                go_wp2_with fail
                go_at_call 13; refine (coordHi_c l[j] k hk _).mono ?_; rintro e w' ⟨rfl, z2, rfl⟩
                go_wp2
                all_goals
                  go_roundw
                  case rel => exact ⟨2, by omega, rfl, by rw [HX.out, HI.out], ext_of (by (repeat (first | exact grow_refl _ | refine grow_ext _ ?_ | refine grow_alloc _ ?_ | refine grow_drew ?_)))⟩
                  case measure => simp [intOf]
            · rw [HST.out]
              go_wp2
              go_roundw
              case rel => exact ⟨j + 1, by omega, by go_num, rfl, ext_of (by (repeat (first | exact grow_refl _ | refine grow_ext _ ?_ | refine grow_alloc _ ?_ | refine grow_drew ?_)))⟩
              case measure => simp [intOf]; omega
        · rw [List.take_of_length_le (by omega), ← HF2.out]
          have hown2 := own_ext HOWN.out y
          have hlm : (C.take m).length = m := by simp; omega
          have HLM := Lib.hid hlm
          clear hlm
          go_wp2_with (at_builtin; refine app_own rfl _ _ 45 rfl 3 (.int .i64 0) 1 8 Try.underlying45 info_int rfl (by decide) (w.alloc (.cells #[.int .i64 b.lx, .int .i64 b.ly, .int .i64 b.lz, .int .i64 b.hx, .int .i64 b.hy, .int .i64 b.hz] 28)) _ _ _ _ rfl (hown2.alloc _) _ 1 1 [.int .i64 C[m]] rfl rfl (cells_new ?_ _ _ _ rfl) (by simp [Value.oneCell']) ?_ (by decide) ?_ ?_; (simp [size_ext]); omega; (repeat (first | exact grow_refl _ | refine grow_ext _ ?_ | refine grow_alloc _ ?_ | refine grow_drew ?_)); intro v' x' hown3 hgrow)
          go_roundw
          case rel => exact ⟨m + 1, by omega, by omega, ⟨_, rfl⟩, by rw [List.take_succ_eq_append_getElem hlt, List.map_append]; exact hown3⟩
          case measure =>
            obtain ⟨a8, cap8, rfl, _⟩ := own_shape hown3
            simp [lenOf]; omega
    · obtain rfl : m = C.length := by omega
      have f1 := HL.out _ hm1 rfl hm3
      have f2 : ¬ (C[C.length - 1] < b.hi k) := by omega
      rw [List.take_length] at HOWN
      clear f1
      go_wp2_with fail
      refine wp_region_grows (by kernel_rfl) (by kernel_rfl) ?_
      repeat (go_big_quiet_step ((go_at_call 13; exact Calls.quiet_ext (coordHi_c b k hk _))))
      refine wpQuiet_nil ?_; rintro _ ⟨xq, rfl⟩
      clear p1 p2 p3 p4
      go_wp2
      go_ret
      exact ⟨_, rfl, own_mono (own_ext HOWN.out _) (by simp), ext_of (by (repeat (first | exact grow_refl _ | refine grow_ext _ ?_ | refine grow_alloc _ ?_ | refine grow_drew ?_)))⟩

end Go.Proofs.Ytafkibnkpcmmgaa

namespace Go.Proofs.Ytafkibnkpcmmgaa
open Go.RowKit
set_option maxRecDepth 20000

def rowY (P2 : List (Int × Int)) (x y : Int × Int) : List Bx := P2.map (cellX x y)
def rowX (P1 P2 : List (Int × Int)) (x : Int × Int) : List Bx := P1.flatMap (rowY P2 x)
def rowA (P0 P1 P2 : List (Int × Int)) : List Bx := P0.flatMap (rowX P1 P2)

theorem flat_take {α β : Type} (f : α → List β) (P : List α) (i : Nat) (h : i < P.length) : (P.take (i + 1)).flatMap f = (P.take i).flatMap f ++ f P[i] := by
  rw [List.take_succ_eq_append_getElem h, List.flatMap_append]; simp
theorem flat_len {α β : Type} (f : α → List β) (c : Nat) (P : List α) (h : ∀ x, (f x).length ≤ c) : (P.flatMap f).length ≤ P.length * c := by
  induction P with
  | nil => simp
  | cons a P ih => have := h a; simp only [List.flatMap_cons, List.length_append, List.length_cons, Nat.succ_mul]; omega
theorem rowY_len (P2 : List (Int × Int)) (h : P2.length ≤ 2002) (x y : Int × Int) : (rowY P2 x y).length ≤ 2002 := by unfold rowY; simpa using h
theorem rowX_len (P1 P2 : List (Int × Int)) (h1 : P1.length ≤ 2002) (h2 : P2.length ≤ 2002) (x : Int × Int) : (rowX P1 P2 x).length ≤ 4008004 := by
  unfold rowX
  have := flat_len (rowY P2 x) 2002 P1 (rowY_len P2 h2 x)
  have := Nat.mul_le_mul_right 2002 h1
  omega
theorem row_len (P0 P1 P2 : List (Int × Int)) (h0 : P0.length ≤ 2002) (h1 : P1.length ≤ 2002) (h2 : P2.length ≤ 2002) (i k m : Nat) (x y : Int × Int) :
    ((P0.take i).flatMap (rowX P1 P2) ++ (P1.take k).flatMap (rowY P2 x) ++ (P2.take m).map (cellX x y)).length ≤ 10000000000 := by
  have a0 := List.length_take_le i P0
  have a1 := List.length_take_le k P1
  have a2 := List.length_take_le m P2
  have l0 := List.length_take_le' i P0
  have l1 := List.length_take_le' k P1
  have l2 := List.length_take_le' m P2
  have b0 := flat_len (rowX P1 P2) 4008004 (P0.take i) (rowX_len P1 P2 h1 h2)
  have b1 := flat_len (rowY P2 x) 2002 (P1.take k) (rowY_len P2 h2 x)
  have c0 := Nat.mul_le_mul_right 4008004 (show (P0.take i).length ≤ 2002 by omega)
  have c1 := Nat.mul_le_mul_right 2002 (show (P1.take k).length ≤ 2002 by omega)
  simp only [List.length_append, List.length_map]
  omega
theorem boxCells_append (a b : List Bx) : boxCells (a ++ b) = boxCells a ++ boxCells b := by unfold boxCells; rw [List.flatMap_append]
theorem info_box : (Try.prog.info? 28).map (fun i => (i.zero, i.size, i.bytes)) = some (some (.agg #[.int .i64 0, .int .i64 0, .int .i64 0, .int .i64 0, .int .i64 0, .int .i64 0]), 6, 48) := by kernel_rfl

theorem own_ints {w : World} {base : Nat} {v : Value} {C : List Int} (h : w.ownsRow base 3 1 v C.length (C.map (Value.int .i64))) (h0 : 0 < C.length) :
    ∃ g cap, v = .slice (some ⟨g, 0, none⟩) C.length cap ∧ C.length ≤ cap ∧ cap ≤ 9223372036854775807 := by
  obtain ⟨a, cap, rfl, h1, h2, h3⟩ := own_shape h
  obtain ⟨g, rfl, _⟩ := h3 h0
  exact ⟨g, cap, rfl, h1, h2⟩
theorem own_at {w : World} {base g cap : Nat} {C : List Int} (h : w.ownsRow base 3 1 (.slice (some ⟨g, 0, none⟩) C.length cap) C.length (C.map (Value.int .i64))) (i : Nat) (hi : i < C.length) :
    w.cell? ⟨g, i, none⟩ = some (.int .i64 C[i]) := by
  obtain ⟨a, cap', he, h1, h2, h3⟩ := own_shape h
  cases he
  obtain ⟨g', e, _, hc⟩ := h3 (by omega)
  cases e
  have := hc i (by omega)
  rwa [List.getElem?_map, List.getElem?_eq_getElem hi, Option.map_some] at this

/-- A box's parts along an axis, by its cuts. -/
def Axis (P : List (Int × Int)) (C : List Int) : Prop := 1 ≤ C.length ∧ C.length ≤ 2002 ∧ P.length = max 1 (C.length - 1) ∧
  ∀ i n (h : i < P.length) (hn : n = min (i + 1) (C.length - 1)) (h1 : i < C.length) (h2 : n < C.length), P[i] = (C[i], C[n])
theorem axis_of {l : List Bx} {b : Bx} {k : Int} (hb : b.lo k ≤ b.hi k) (hl : l.length ≤ 1000) : Axis (partsL l b k) (cutsB l b k) := by
  obtain ⟨h1, h2⟩ := partsL_cuts (l := l) hb
  obtain ⟨h0, _⟩ := cutsB_facts (l := l) hb
  have h3 := cutsB_length l b k
  refine ⟨h0, by omega, h1, ?_⟩
  intro i n h hn hi hn2
  subst hn
  exact h2 i h hi hn2

set_option maxRecDepth 100000 in
set_option maxHeartbeats 8000000 in
theorem refParts_c (l : List Bx) (v : Value) (b : Bx) (w : World) (hl : Boxes w v l) (hlen : l.length ≤ 1000) (hb : Ord b) :
    Calls Try.prog 69 #[v, (.agg #[.int .i64 b.lx, .int .i64 b.ly, .int .i64 b.lz, .int .i64 b.hx, .int .i64 b.hy, .int .i64 b.hz])] w (RetOwn w 28 6 (rowA (partsL l b 0) (partsL l b 1) (partsL l b 2)).length (boxCells (rowA (partsL l b 0) (partsL l b 1) (partsL l b 2)))) := by
  obtain ⟨b0, b1, b2⟩ := hb
  have ax0 := axis_of (l := l) (b := b) (k := 0) b0 hlen
  have ax1 := axis_of (l := l) (b := b) (k := 1) b1 hlen
  have ax2 := axis_of (l := l) (b := b) (k := 2) b2 hlen
  have HC0 := Lib.hid (fun (x : World) (h : Below w.heap.size w x) => refCuts_c l v b 0 (by omega) x (hl.below h) hlen b0)
  have HC1 := Lib.hid (fun (x : World) (h : Below w.heap.size w x) => refCuts_c l v b 1 (by omega) x (hl.below h) hlen b1)
  have HC2 := Lib.hid (fun (x : World) (h : Below w.heap.size w x) => refCuts_c l v b 2 (by omega) x (hl.below h) hlen b2)
  generalize cutsB l b 0 = C0 at ax0 HC0
  generalize cutsB l b 1 = C1 at ax1 HC1
  generalize cutsB l b 2 = C2 at ax2 HC2
  generalize partsL l b 0 = P0 at ax0
  generalize partsL l b 1 = P1 at ax1
  generalize partsL l b 2 = P2 at ax2
  obtain ⟨m0, n0, l0, g0⟩ := ax0
  obtain ⟨m1, n1, l1, g1⟩ := ax1
  obtain ⟨m2, n2, l2, g2⟩ := ax2
  have G0 := Lib.hid g0
  have G1 := Lib.hid g1
  have G2 := Lib.hid g2
  have HR := Lib.hid (row_len P0 P1 P2 (by omega) (by omega) (by omega))
  clear g0 g1 g2 b0 b1 b2 hl hlen
  go_enter Try.func69, Try.ntmps69
  go_wp2_with fail
  go_region_held3 (fun w' => w'.cell? ⟨w.heap.size, 0, none⟩ = some (.int .i64 b.lx) ∧ w'.cell? ⟨w.heap.size, 1, none⟩ = some (.int .i64 b.ly) ∧ w'.cell? ⟨w.heap.size, 2, none⟩ = some (.int .i64 b.lz) ∧ w'.cell? ⟨w.heap.size, 3, none⟩ = some (.int .i64 b.hx) ∧ w'.cell? ⟨w.heap.size, 4, none⟩ = some (.int .i64 b.hy) ∧ w'.cell? ⟨w.heap.size, 5, none⟩ = some (.int .i64 b.hz)) (simp [go_sem, *])
    (first
      | (go_at_call_of 99 (Value.int IntKind.i64 0); refine Calls.mono (HC0.out _ ?_) ?_; (repeat (first | exact grow_refl _ | refine grow_ext _ ?_ | refine grow_alloc _ ?_ | refine grow_drew ?_)); rintro e w' ⟨v0, rfl, hown0, y0, rfl⟩)
      | (go_at_call_of 99 (Value.int IntKind.i64 1); refine Calls.mono (HC1.out _ ?_) ?_; (repeat (first | exact grow_refl _ | refine grow_ext _ ?_ | refine grow_alloc _ ?_ | refine grow_drew ?_)); rintro e w' ⟨v1, rfl, hown1, y1, rfl⟩)
      | (go_at_call_of 99 (Value.int IntKind.i64 2); refine Calls.mono (HC2.out _ ?_) ?_; (repeat (first | exact grow_refl _ | refine grow_ext _ ?_ | refine grow_alloc _ ?_ | refine grow_drew ?_)); rintro e w' ⟨v2, rfl, hown2, y2, rfl⟩))
  have A0 := own_mono (own_ext (own_ext hown0 y1) y2) (show w.heap.size ≤ _ by simp <;> omega)
  have A1 := own_mono (own_ext hown1 y2) (show w.heap.size ≤ _ by simp [size_ext] <;> omega)
  have A2 := own_mono hown2 (show w.heap.size ≤ _ by simp [size_ext] <;> omega)
  clear hown0 hown1 hown2
  simp only [ext_drew] at A0 A1 A2
  obtain ⟨g0, cap0, rfl, s0, t0⟩ := own_ints A0 (by omega)
  obtain ⟨g1, cap1, rfl, s1, t1⟩ := own_ints A1 (by omega)
  obtain ⟨g2, cap2, rfl, s2, t2⟩ := own_ints A2 (by omega)
  go_wp2_with fail
  go_loopw [9, 8] (fun i v8 wr => ∃ j : Nat, j ≤ P0.length ∧ i = .int .i64 j ∧ (∃ x, wr = ext w x) ∧ wr.ownsRow w.heap.size 3 1 (.slice (some ⟨g0, 0, none⟩) C0.length cap0) C0.length (C0.map (Value.int .i64)) ∧ wr.ownsRow w.heap.size 3 1 (.slice (some ⟨g1, 0, none⟩) C1.length cap1) C1.length (C1.map (Value.int .i64)) ∧ wr.ownsRow w.heap.size 3 1 (.slice (some ⟨g2, 0, none⟩) C2.length cap2) C2.length (C2.map (Value.int .i64)) ∧ wr.ownsRow w.heap.size 28 6 v8 ((P0.take j).flatMap (rowX P1 P2)).length (boxCells ((P0.take j).flatMap (rowX P1 P2)))) (fun i _ _ => P0.length - (intOf i).toNat)
  case atStart => exact ⟨0, by omega, rfl, ext_of (by (repeat (first | exact grow_refl _ | refine grow_ext _ ?_ | refine grow_alloc _ ?_ | refine grow_drew ?_))), A0, A1, A2, by simp [boxCells]; exact World.ownsRow_nil _ _ _ _⟩
  case round =>
    clear A0 A1 A2
    obtain ⟨j, hj, rfl, ⟨x1, rfl⟩, A0, A1, A2, hO⟩ := hrel
    by_cases hlt0 : j < P0.length
    · have T0 : decide ((j : Int) < max 1 ((C0.length : Int) - 1)) = true := by simp; omega
      have HT0 := Lib.hid (flat_take (rowX P1 P2) P0 j hlt0)
      go_wp2_with fail
      go_loopw [10, 8] (fun i v8 wr => ∃ k : Nat, k ≤ P1.length ∧ i = .int .i64 k ∧ (∃ x, wr = ext w x) ∧ wr.ownsRow w.heap.size 3 1 (.slice (some ⟨g0, 0, none⟩) C0.length cap0) C0.length (C0.map (Value.int .i64)) ∧ wr.ownsRow w.heap.size 3 1 (.slice (some ⟨g1, 0, none⟩) C1.length cap1) C1.length (C1.map (Value.int .i64)) ∧ wr.ownsRow w.heap.size 3 1 (.slice (some ⟨g2, 0, none⟩) C2.length cap2) C2.length (C2.map (Value.int .i64)) ∧ wr.ownsRow w.heap.size 28 6 v8 ((P0.take j).flatMap (rowX P1 P2) ++ (P1.take k).flatMap (rowY P2 P0[j])).length (boxCells ((P0.take j).flatMap (rowX P1 P2) ++ (P1.take k).flatMap (rowY P2 P0[j])))) (fun i _ _ => P1.length - (intOf i).toNat)
      case atStart => exact ⟨0, by omega, rfl, ⟨_, rfl⟩, A0, A1, A2, by simpa using hO⟩
      case round =>
        clear A0 A1 A2 hO
        obtain ⟨k, hk, rfl, ⟨x2, rfl⟩, A0, A1, A2, hO⟩ := hrel
        by_cases hlt1 : k < P1.length
        · have T1 : decide ((k : Int) < max 1 ((C1.length : Int) - 1)) = true := by simp; omega
          have HT1 := Lib.hid (flat_take (rowY P2 P0[j]) P1 k hlt1)
          go_wp2_with fail
          go_loopw [11, 8] (fun i v8 wr => ∃ m : Nat, m ≤ P2.length ∧ i = .int .i64 m ∧ (∃ x, wr = ext w x) ∧ wr.ownsRow w.heap.size 3 1 (.slice (some ⟨g0, 0, none⟩) C0.length cap0) C0.length (C0.map (Value.int .i64)) ∧ wr.ownsRow w.heap.size 3 1 (.slice (some ⟨g1, 0, none⟩) C1.length cap1) C1.length (C1.map (Value.int .i64)) ∧ wr.ownsRow w.heap.size 3 1 (.slice (some ⟨g2, 0, none⟩) C2.length cap2) C2.length (C2.map (Value.int .i64)) ∧ wr.ownsRow w.heap.size 28 6 v8 ((P0.take j).flatMap (rowX P1 P2) ++ (P1.take k).flatMap (rowY P2 P0[j]) ++ (P2.take m).map (cellX P0[j] P1[k])).length (boxCells ((P0.take j).flatMap (rowX P1 P2) ++ (P1.take k).flatMap (rowY P2 P0[j]) ++ (P2.take m).map (cellX P0[j] P1[k])))) (fun i _ _ => P2.length - (intOf i).toNat)
          case atStart => exact ⟨0, by omega, rfl, ⟨_, rfl⟩, A0, A1, A2, by simpa using hO⟩
          case round =>
            clear A0 A1 A2 hO
            obtain ⟨m, hm, rfl, ⟨x3, rfl⟩, A0, A1, A2, hO⟩ := hrel
            by_cases hlt2 : m < P2.length
            · have T2 : decide ((m : Int) < max 1 ((C2.length : Int) - 1)) = true := by simp; omega
              have HB := HR.out j k m P0[j] P1[k]
              have HT2 := Lib.hid (show (P0.take j).flatMap (rowX P1 P2) ++ (P1.take k).flatMap (rowY P2 P0[j]) ++ (P2.take (m + 1)).map (cellX P0[j] P1[k]) = ((P0.take j).flatMap (rowX P1 P2) ++ (P1.take k).flatMap (rowY P2 P0[j]) ++ (P2.take m).map (cellX P0[j] P1[k])) ++ [cellX P0[j] P1[k] P2[m]] by rw [List.take_succ_eq_append_getElem hlt2, List.map_append]; simp)
              generalize (P0.take j).flatMap (rowX P1 P2) ++ (P1.take k).flatMap (rowY P2 P0[j]) ++ (P2.take m).map (cellX P0[j] P1[k]) = L at hO HB HT2
              have h0 : j < C0.length := by omega
              obtain ⟨q0, hq0⟩ : ∃ q, q = min (j + 1) (C0.length - 1) := ⟨_, rfl⟩
              have k0 : q0 < C0.length := by omega
              have E0 := Lib.hid (G0.out j q0 hlt0 hq0 h0 k0)
              have c0 := own_at A0 j h0
              have d0 := own_at A0 q0 k0
              have pa0 : IntKind.i64.wrap ((j : Int) + 1) = (j : Int) + 1 := IntWalk.i64_in _ (by omega)
              have pb0 : IntKind.i64.wrap ((C0.length : Int) - 1) = (C0.length : Int) - 1 := IntWalk.i64_in _ (by omega)
              have pc0 : min ((j : Int) + 1) ((C0.length : Int) - 1) = (q0 : Int) := by omega
              have pd0 : (j : Int) < (C0.length : Int) := by omega
              have pe0 : (q0 : Int) < (C0.length : Int) := by omega
              have pf0 : (0 : Int) ≤ (j : Int) := by omega
              have pg0 : (0 : Int) ≤ (q0 : Int) := by omega
              have h1 : k < C1.length := by omega
              obtain ⟨q1, hq1⟩ : ∃ q, q = min (k + 1) (C1.length - 1) := ⟨_, rfl⟩
              have k1 : q1 < C1.length := by omega
              have E1 := Lib.hid (G1.out k q1 hlt1 hq1 h1 k1)
              have c1 := own_at A1 k h1
              have d1 := own_at A1 q1 k1
              have pa1 : IntKind.i64.wrap ((k : Int) + 1) = (k : Int) + 1 := IntWalk.i64_in _ (by omega)
              have pb1 : IntKind.i64.wrap ((C1.length : Int) - 1) = (C1.length : Int) - 1 := IntWalk.i64_in _ (by omega)
              have pc1 : min ((k : Int) + 1) ((C1.length : Int) - 1) = (q1 : Int) := by omega
              have pd1 : (k : Int) < (C1.length : Int) := by omega
              have pe1 : (q1 : Int) < (C1.length : Int) := by omega
              have pf1 : (0 : Int) ≤ (k : Int) := by omega
              have pg1 : (0 : Int) ≤ (q1 : Int) := by omega
              have h2 : m < C2.length := by omega
              obtain ⟨q2, hq2⟩ : ∃ q, q = min (m + 1) (C2.length - 1) := ⟨_, rfl⟩
              have k2 : q2 < C2.length := by omega
              have E2 := Lib.hid (G2.out m q2 hlt2 hq2 h2 k2)
              have c2 := own_at A2 m h2
              have d2 := own_at A2 q2 k2
              have pa2 : IntKind.i64.wrap ((m : Int) + 1) = (m : Int) + 1 := IntWalk.i64_in _ (by omega)
              have pb2 : IntKind.i64.wrap ((C2.length : Int) - 1) = (C2.length : Int) - 1 := IntWalk.i64_in _ (by omega)
              have pc2 : min ((m : Int) + 1) ((C2.length : Int) - 1) = (q2 : Int) := by omega
              have pd2 : (m : Int) < (C2.length : Int) := by omega
              have pe2 : (q2 : Int) < (C2.length : Int) := by omega
              have pf2 : (0 : Int) ≤ (m : Int) := by omega
              have pg2 : (0 : Int) ≤ (q2 : Int) := by omega
              have HN := Lib.hid (show boxCells [cellX P0[j] P1[k] P2[m]] = [.int .i64 (C0[j]'h0), .int .i64 (C1[k]'h1), .int .i64 (C2[m]'h2), .int .i64 (C0[q0]'k0), .int .i64 (C1[q1]'k1), .int .i64 (C2[q2]'k2)] by rw [E0.out, E1.out, E2.out]; rfl)
              have HA0 := Lib.hid A0
              have HA1 := Lib.hid A1
              have HA2 := Lib.hid A2
              have HO := Lib.hid hO
              clear A0 A1 A2 hO hq0 hq1 hq2
              go_wp2_with fail
              refine wp_region_app 43 (by kernel_rfl) (by kernel_rfl) rfl rfl (fun _ _ _ _ h => h) ?_; simp only [List.take_succ_cons, List.take_zero, List.drop_succ_cons, List.drop_zero]
              repeat (go_big_quiet_step (fail))
              refine wpQuiet_nil ?_; rintro _ ⟨xq, rfl⟩
              clear pa0 pa1 pa2 pb0 pb1 pb2 pc0 pc1 pc2 pe0 pe1 pe2 pf0 pf1 pf2 pg0 pg1 pg2
              go_wp2_with (at_builtin; refine app_own rfl _ _ 22 rfl 28 (.agg #[.int .i64 0, .int .i64 0, .int .i64 0, .int .i64 0, .int .i64 0, .int .i64 0]) 6 48 Try.underlying22 info_box rfl (by decide) w _ _ _ _ rfl ((own_ext HO.out xq).alloc _) _ 1 1 [.int .i64 (C0[j]'h0), .int .i64 (C1[k]'h1), .int .i64 (C2[m]'h2), .int .i64 (C0[q0]'k0), .int .i64 (C1[q1]'k1), .int .i64 (C2[q2]'k2)] rfl rfl (cells_new ?_ _ _ _ rfl) (by simp [Value.oneCell']) ?_ (by decide) ?_ ?_; (simp [size_ext]); omega; (repeat (first | exact grow_refl _ | refine grow_ext _ ?_ | refine grow_alloc _ ?_ | refine grow_drew ?_)); intro v' x' hown3 hgrow)
              have B0 := ((own_ext HA0.out xq).alloc _).kept hgrow (own_ne HA0.out HO.out (by decide))
              have B1 := ((own_ext HA1.out xq).alloc _).kept hgrow (own_ne HA1.out HO.out (by decide))
              have B2 := ((own_ext HA2.out xq).alloc _).kept hgrow (own_ne HA2.out HO.out (by decide))
              clear hgrow c0 c1 c2 d0 d1 d2
              go_roundw
              case rel => exact ⟨m + 1, by omega, by go_num, ⟨_, rfl⟩, B0, B1, B2, by rw [HT2.out, boxCells_append, HN.out, List.length_append]; exact hown3⟩
              case measure => simp [intOf]; omega
            · obtain rfl : m = P2.length := by omega
              have T2 : decide ((P2.length : Int) < max 1 ((C2.length : Int) - 1)) = false := by simp; omega
              rw [List.take_length] at hO
              have HOO := Lib.hid hO
              have HA0 := Lib.hid A0
              have HA1 := Lib.hid A1
              have HA2 := Lib.hid A2
              clear A0 A1 A2 hO
              go_wp2
              go_roundw
              case rel => exact ⟨k + 1, by omega, by go_num, ⟨_, rfl⟩, HA0.out, HA1.out, HA2.out, by rw [HT1.out, ← List.append_assoc]; exact HOO.out⟩
              case measure => simp [intOf]; omega
        · obtain rfl : k = P1.length := by omega
          have T1 : decide ((P1.length : Int) < max 1 ((C1.length : Int) - 1)) = false := by simp; omega
          rw [List.take_length] at hO
          have HOO := Lib.hid hO
          have HA0 := Lib.hid A0
          have HA1 := Lib.hid A1
          have HA2 := Lib.hid A2
          clear A0 A1 A2 hO
          go_wp2
          go_roundw
          case rel => exact ⟨j + 1, by omega, by go_num, ⟨_, rfl⟩, HA0.out, HA1.out, HA2.out, by rw [HT0.out]; exact HOO.out⟩
          case measure => simp [intOf]; omega
    · obtain rfl : j = P0.length := by omega
      have T0 : decide ((P0.length : Int) < max 1 ((C0.length : Int) - 1)) = false := by simp; omega
      rw [List.take_length] at hO
      have HOO := Lib.hid hO
      clear A0 A1 A2 hO
      go_wp2
      go_ret
      exact ⟨_, rfl, HOO.out, ⟨_, rfl⟩⟩
end Go.Proofs.Ytafkibnkpcmmgaa

namespace Go.Proofs.Ytafkibnkpcmmgaa
open Go.RowKit
set_option maxRecDepth 20000

theorem refContains_v (a b : Bx) (r : Bool) (h : containsB a b = r) (hb : Ord b) (w : World) : Calls Try.prog 100 #[(.agg #[.int .i64 a.lx, .int .i64 a.ly, .int .i64 a.lz, .int .i64 a.hx, .int .i64 a.hy, .int .i64 a.hz]), (.agg #[.int .i64 b.lx, .int .i64 b.ly, .int .i64 b.lz, .int .i64 b.hx, .int .i64 b.hy, .int .i64 b.hz])] w (Ret w (.bool r)) := by
  rw [← h]; exact refContains_c a b hb w
theorem any_true_of {α : Type} {p : α → Bool} {l : List α} {i : Nat} (h : i < l.length) (hp : p l[i] = true) : l.any p = true :=
  List.any_eq_true.2 ⟨_, List.getElem_mem h, hp⟩
theorem any_take_succ {α : Type} {p : α → Bool} {l : List α} {i : Nat} (h : i < l.length) (hp : p l[i] = false) (ht : (l.take i).any p = false) : (l.take (i + 1)).any p = false := by
  rw [List.take_succ_eq_append_getElem h, List.any_append, ht]; simp [hp]

set_option maxHeartbeats 400000 in
theorem refIn_c (l : List Bx) (v : Value) (b : Bx) (w : World) (hl : Boxes w v l) (hb : Ord b) : Calls Try.prog 70 #[v, (.agg #[.int .i64 b.lx, .int .i64 b.ly, .int .i64 b.lz, .int .i64 b.hx, .int .i64 b.hy, .int .i64 b.hz])] w (Ret w (.bool (l.any fun a => containsB a b))) := by
  obtain ⟨a, cap, rfl, hcap, hcap2, hcell⟩ := hl.shape
  have HCE := Lib.hid hcell
  clear hl hcell
  have HB := Lib.hid hb
  clear hb
  have hn : l.length ≤ 9223372036854775807 := by omega
  go_enter Try.func70, Try.ntmps70
  go_wp2
  go_loopw [5] (fun i wr => ∃ j : Nat, j ≤ l.length ∧ i = .int .i64 j ∧ (∃ x, wr = ext (w.alloc (.cells #[.int .i64 b.lx, .int .i64 b.ly, .int .i64 b.lz, .int .i64 b.hx, .int .i64 b.hy, .int .i64 b.hz] 28)) x) ∧ (l.take j).any (fun a => containsB a b) = false) (fun i _ => l.length - (intOf i).toNat)
  case atStart => exact ⟨0, by omega, rfl, ext_of (Below.refl _ _), by simp⟩
  case round =>
    obtain ⟨j, hj, rfl, ⟨x, rfl⟩, hall⟩ := hrel
    have HA := Lib.hid hall
    clear hall
    by_cases hlt : j < l.length
    · obtain ⟨b1, off, rfl, c0, c1, c2, c3, c4, c5⟩ := HCE.out j hlt
      have p5 : (0 : Int) ≤ (j : Int) := by omega
      have p6 : (j : Int) < (l.length : Int) := by omega
      cases hv : containsB l[j] b
      · have ht := Lib.hid (any_take_succ (p := fun a => containsB a b) hlt hv HA.out)
        have HV := Lib.hid hv
        clear hv
        go_wp2_with fail
        refine wp_region_grows (by kernel_rfl) (by kernel_rfl) ?_
        repeat (go_big_quiet_step ((go_at_call 100; exact Calls.quiet_ext (refContains_v l[j] b _ HV.out HB.out _))))
        refine wpQuiet_nil ?_; rintro _ ⟨xq, rfl⟩
        go_wp2
        go_roundw
        case rel => exact ⟨j + 1, by omega, by go_num, ext_of (by (repeat (first | exact grow_refl _ | refine grow_ext _ ?_ | refine grow_alloc _ ?_ | refine grow_drew ?_))), ht.out⟩
        case measure => simp [intOf]; omega
      · have ht := Lib.hid (any_true_of (p := fun a => containsB a b) hlt hv)
        have HV := Lib.hid hv
        clear hv
        go_wp2_with fail
        refine wp_region_grows (by kernel_rfl) (by kernel_rfl) ?_
        repeat (go_big_quiet_step ((go_at_call 100; exact Calls.quiet_ext (refContains_v l[j] b _ HV.out HB.out _))))
        refine wpQuiet_nil ?_; rintro _ ⟨xq, rfl⟩
        go_wp2
        go_ret
        rw [ht.out]
        exact Ret.of (by (repeat (first | exact grow_refl _ | refine grow_ext _ ?_ | refine grow_alloc _ ?_ | refine grow_drew ?_)))
    · have ht : (l.any fun a => containsB a b) = false := by
        have := HA.out
        rwa [List.take_of_length_le (by omega)] at this
      have HT := Lib.hid ht
      clear ht
      go_wp2
      go_ret
      rw [HT.out]
      exact Ret.of (by (repeat (first | exact grow_refl _ | refine grow_ext _ ?_ | refine grow_alloc _ ?_ | refine grow_drew ?_)))

theorem rowA_all (P0 P1 P2 : List (Int × Int)) (f : Bx → Bool) : (rowA P0 P1 P2).all f = P0.all fun x => P1.all fun y => P2.all fun z => f (cellX x y z) := by
  unfold rowA
  rw [List.all_flatMap]
  congr 1
  funext x
  unfold rowX
  rw [List.all_flatMap]
  congr 1
  funext y
  unfold rowY
  rw [List.all_map]
  rfl
theorem coversB_all (l : List Bx) (b : Bx) : (rowA (partsL l b 0) (partsL l b 1) (partsL l b 2)).all (fun c => l.any fun a => containsB a c) = coversB l b := rowA_all _ _ _ _
theorem rowA_ord {l : List Bx} {b : Bx} (hb : Ord b) {c : Bx} (hc : c ∈ rowA (partsL l b 0) (partsL l b 1) (partsL l b 2)) : Ord c := by
  unfold rowA at hc
  obtain ⟨x, hx, hc⟩ := List.mem_flatMap.1 hc
  unfold rowX at hc
  obtain ⟨y, hy, hc⟩ := List.mem_flatMap.1 hc
  unfold rowY at hc
  obtain ⟨z, hz, rfl⟩ := List.mem_map.1 hc
  exact ⟨(parts_spec (k := 0) hb.1 hx).2.1, (parts_spec (k := 1) hb.2.1 hy).2.1, (parts_spec (k := 2) hb.2.2 hz).2.1⟩

set_option maxHeartbeats 1000000 in
theorem refCovers_c (l : List Bx) (v : Value) (b : Bx) (w : World) (hl : Boxes w v l) (hlen : l.length ≤ 1000) (hb : Ord b) : Calls Try.prog 67 #[v, (.agg #[.int .i64 b.lx, .int .i64 b.ly, .int .i64 b.lz, .int .i64 b.hx, .int .i64 b.hy, .int .i64 b.hz])] w (Ret w (.bool (coversB l b))) := by
  rw [← coversB_all]
  have HO := Lib.hid (fun c hc => rowA_ord (l := l) hb (c := c) hc)
  have HP := Lib.hid (fun (x : World) (h : Below w.heap.size w x) => refParts_c l v b x (hl.below h) hlen hb)
  generalize rowA (partsL l b 0) (partsL l b 1) (partsL l b 2) = L at HO HP
  have HL := Lib.hid hl
  clear hl
  go_enter Try.func67, Try.ntmps67
  go_wp2_with fail
  go_at_call 69; refine Calls.mono (HP.out _ (by (repeat (first | exact grow_refl _ | refine grow_ext _ ?_ | refine grow_alloc _ ?_ | refine grow_drew ?_)))) ?_; rintro e w' ⟨v5, rfl, hown, y, rfl⟩
  have hP := Boxes.of_own hown
  clear hown
  obtain ⟨a5, cap5, rfl, s1, s2, _⟩ := hP.shape
  have HPP := Lib.hid hP
  clear hP
  go_wp2_with fail
  go_loopw [6] (fun i wr => ∃ j : Nat, j ≤ L.length ∧ i = .int .i64 j ∧ (∃ x, wr = ext w x) ∧ Boxes wr (.slice a5 L.length cap5) L ∧ (L.take j).all (fun c => l.any fun a => containsB a c) = true) (fun i _ => L.length - (intOf i).toNat)
  case atStart => exact ⟨0, by omega, rfl, ext_of (by (repeat (first | exact grow_refl _ | refine grow_ext _ ?_ | refine grow_alloc _ ?_ | refine grow_drew ?_))), HPP.out, by simp⟩
  case round =>
    obtain ⟨j, hj, rfl, ⟨x, rfl⟩, hB, hall⟩ := hrel
    have HA := Lib.hid hall
    clear hall HPP
    by_cases hlt : j < L.length
    · obtain ⟨_, _, he, _, _, hcell⟩ := hB.shape
      cases he
      obtain ⟨b1, off, rfl, c0, c1, c2, c3, c4, c5⟩ := hcell j hlt
      have HBB := Lib.hid hB
      clear hB hcell
      have hob := HO.out L[j] (List.getElem_mem hlt)
      have HOB := Lib.hid hob
      clear hob
      go_wp2_with fail
      go_at_call 70; refine (refIn_c l v L[j] _ (HL.out.below (by (repeat (first | exact grow_refl _ | refine grow_ext _ ?_ | refine grow_alloc _ ?_ | refine grow_drew ?_)))) HOB.out).mono ?_; rintro e w' ⟨rfl, y1, rfl⟩
      cases hv : l.any fun a => containsB a L[j]
      · have ht := Lib.hid (all_false_of (p := fun c => l.any fun a => containsB a c) hlt hv)
        clear hv
        go_wp2
        go_ret
        rw [ht.out]
        exact Ret.of (by (repeat (first | exact grow_refl _ | refine grow_ext _ ?_ | refine grow_alloc _ ?_ | refine grow_drew ?_)))
      · have ht := Lib.hid (all_take_succ (p := fun c => l.any fun a => containsB a c) hlt hv HA.out)
        clear hv
        go_wp2
        go_roundw
        case rel => exact ⟨j + 1, by omega, by go_num, ext_of (by (repeat (first | exact grow_refl _ | refine grow_ext _ ?_ | refine grow_alloc _ ?_ | refine grow_drew ?_))), HBB.out.below (by (repeat (first | exact grow_refl _ | refine grow_ext _ ?_ | refine grow_alloc _ ?_ | refine grow_drew ?_))), ht.out⟩
        case measure => simp [intOf]; omega
    · have ht : L.all (fun c => l.any fun a => containsB a c) = true := by
        have := HA.out
        rwa [List.take_of_length_le (by omega)] at this
      have HT := Lib.hid ht
      clear ht hB
      go_wp2
      go_ret
      rw [HT.out]
      exact Ret.of (by (repeat (first | exact grow_refl _ | refine grow_ext _ ?_ | refine grow_alloc _ ?_ | refine grow_drew ?_)))

end Go.Proofs.Ytafkibnkpcmmgaa

