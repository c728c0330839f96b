/- Turns of space: package frame. -/
import Derived.Test.YtofjopdcbmaijaaPlainN
import Derived.Test.YtofjopdcbmaijaaTail
import Derived.Test.YtofjopdcbmaijaaExt
import Derived.RegionTactic
namespace Go.Proofs.Ytofjopdcbmaijaa
open Go.RowKit
set_option maxRecDepth 20000

theorem mul_small {a b m : Int} (ha : -1 ≤ a ∧ a ≤ 1) (hb : -m ≤ b ∧ b ≤ m) : -m ≤ a * b ∧ a * b ≤ m := by
  rcases (show a = -1 ∨ a = 0 ∨ a = 1 by omega) with rfl | rfl | rfl
  · rw [Int.neg_one_mul]; omega
  · rw [Int.zero_mul]; omega
  · rw [Int.one_mul]; omega

theorem unit_c (n : Int) (h : n ≠ 0 ∧ -3 ≤ n ∧ n ≤ 3) (w : World) : Calls Try.prog 107 #[.int .i64 n] w (Ret w (.agg #[.int .i64 (unitP n).x, .int .i64 (unitP n).y, .int .i64 (unitP n).z])) := by
  rcases (show n = 1 ∨ n = 2 ∨ n = 3 ∨ n = -1 ∨ n = -2 ∨ n = -3 by omega) with rfl | rfl | rfl | rfl | rfl | rfl
  · clear h
    go_enter Try.func107, Try.ntmps107
    go_wp2
    refine bodyPost_ret (v := .agg #[.int .i64 1, .int .i64 0, .int .i64 0]) (by simp [results, Try.results107, go_sem]) rfl ?_
    exact Ret.of (by (repeat (first | exact grow_refl _ | refine grow_ext _ ?_ | refine grow_alloc _ ?_ | refine grow_drew ?_)))
  · clear h
    go_enter Try.func107, Try.ntmps107
    go_wp2
    refine bodyPost_ret (v := .agg #[.int .i64 0, .int .i64 1, .int .i64 0]) (by simp [results, Try.results107, go_sem]) rfl ?_
    exact Ret.of (by (repeat (first | exact grow_refl _ | refine grow_ext _ ?_ | refine grow_alloc _ ?_ | refine grow_drew ?_)))
  · clear h
    go_enter Try.func107, Try.ntmps107
    go_wp2
    refine bodyPost_ret (v := .agg #[.int .i64 0, .int .i64 0, .int .i64 1]) (by simp [results, Try.results107, go_sem]) rfl ?_
    exact Ret.of (by (repeat (first | exact grow_refl _ | refine grow_ext _ ?_ | refine grow_alloc _ ?_ | refine grow_drew ?_)))
  · clear h
    go_enter Try.func107, Try.ntmps107
    go_wp2
    refine bodyPost_ret (v := .agg #[.int .i64 (-1), .int .i64 0, .int .i64 0]) (by simp [results, Try.results107, go_sem]) rfl ?_
    exact Ret.of (by (repeat (first | exact grow_refl _ | refine grow_ext _ ?_ | refine grow_alloc _ ?_ | refine grow_drew ?_)))
  · clear h
    go_enter Try.func107, Try.ntmps107
    go_wp2
    refine bodyPost_ret (v := .agg #[.int .i64 0, .int .i64 (-1), .int .i64 0]) (by simp [results, Try.results107, go_sem]) rfl ?_
    exact Ret.of (by (repeat (first | exact grow_refl _ | refine grow_ext _ ?_ | refine grow_alloc _ ?_ | refine grow_drew ?_)))
  · clear h
    go_enter Try.func107, Try.ntmps107
    go_wp2
    refine bodyPost_ret (v := .agg #[.int .i64 0, .int .i64 0, .int .i64 (-1)]) (by simp [results, Try.results107, go_sem]) rfl ?_
    exact Ret.of (by (repeat (first | exact grow_refl _ | refine grow_ext _ ?_ | refine grow_alloc _ ?_ | refine grow_drew ?_)))
theorem unit_small {n : Int} (h : n ≠ 0 ∧ -3 ≤ n ∧ n ≤ 3) : NearP (unitP n) 1 := by
  rcases (show n = 1 ∨ n = 2 ∨ n = 3 ∨ n = -1 ∨ n = -2 ∨ n = -3 by omega) with rfl | rfl | rfl | rfl | rfl | rfl <;> (unfold NearP unitP; simp)

set_option maxHeartbeats 1000000 in
theorem cross_c (a b : Pt) (ha : NearP a 1) (hb : NearP b 1) (w : World) : Calls Try.prog 108 #[(.agg #[.int .i64 a.x, .int .i64 a.y, .int .i64 a.z]), (.agg #[.int .i64 b.x, .int .i64 b.y, .int .i64 b.z])] w (Ret w (.agg #[.int .i64 (crossP a b).x, .int .i64 (crossP a b).y, .int .i64 (crossP a b).z])) := by
  obtain ⟨a1, a2, a3⟩ := ha
  obtain ⟨b1, b2, b3⟩ := hb
  obtain ⟨s1, t1⟩ := mul_small a2 b3
  obtain ⟨s2, t2⟩ := mul_small a3 b2
  obtain ⟨s3, t3⟩ := mul_small a3 b1
  obtain ⟨s4, t4⟩ := mul_small a1 b3
  obtain ⟨s5, t5⟩ := mul_small a1 b2
  obtain ⟨s6, t6⟩ := mul_small a2 b1
  have v1 : wrap64 (a.y * b.z) = a.y * b.z := IntWalk.wrap64_in _ (by omega)
  have v2 : wrap64 (a.z * b.y) = a.z * b.y := IntWalk.wrap64_in _ (by omega)
  have v3 : wrap64 (a.z * b.x) = a.z * b.x := IntWalk.wrap64_in _ (by omega)
  have v4 : wrap64 (a.x * b.z) = a.x * b.z := IntWalk.wrap64_in _ (by omega)
  have v5 : wrap64 (a.x * b.y) = a.x * b.y := IntWalk.wrap64_in _ (by omega)
  have v6 : wrap64 (a.y * b.x) = a.y * b.x := IntWalk.wrap64_in _ (by omega)
  clear a1 a2 a3 b1 b2 b3
  go_enter Try.func108, Try.ntmps108
  go_wp2
  refine bodyPost_ret (v := (.agg #[.int .i64 (crossP a b).x, .int .i64 (crossP a b).y, .int .i64 (crossP a b).z])) (by simp [results, Try.results108, go_sem, crossP]) rfl ?_
  exact Ret.of (by (repeat (first | exact grow_refl _ | refine grow_ext _ ?_ | refine grow_alloc _ ?_ | refine grow_drew ?_)))


end Go.Proofs.Ytofjopdcbmaijaa
