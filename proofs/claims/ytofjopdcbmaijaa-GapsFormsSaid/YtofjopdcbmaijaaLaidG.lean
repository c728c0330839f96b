/- Places and sums of points: laid.isPlace, laid.plus. -/
import Derived.Test.YtofjopdcbmaijaaLaidF
namespace Go.Proofs.Ytofjopdcbmaijaa
open Go.RowKit
set_option maxRecDepth 20000

theorem mul_range {k s m b : Int} (hk : 0 ≤ k ∧ k ≤ m) (hs : -b ≤ s ∧ s ≤ b) : -(m * b) ≤ k * s ∧ k * s ≤ m * b := by
  have hb : 0 ≤ b := by omega
  have h1 : k * s ≤ k * b := Int.mul_le_mul_of_nonneg_left hs.2 hk.1
  have h2 : k * b ≤ m * b := Int.mul_le_mul_of_nonneg_right hk.2 hb
  have h3 : k * (-b) ≤ k * s := Int.mul_le_mul_of_nonneg_left hs.1 hk.1
  rw [Int.mul_neg] at h3
  omega
def plusP (p s : Pt) (k : Int) : Pt := ⟨p.x + k * s.x, p.y + k * s.y, p.z + k * s.z⟩

set_option maxHeartbeats 1000000 in
theorem plus_c (p s : Pt) (k : Int) (hp : NearP p 8388608) (hs : NearP s 2097152) (hk : 0 ≤ k ∧ k ≤ 2000) (w : World) : Calls Try.prog 34 #[(.agg #[.int .i64 p.x, .int .i64 p.y, .int .i64 p.z]), (.agg #[.int .i64 s.x, .int .i64 s.y, .int .i64 s.z]), .int .i64 k] w (Ret w (.agg #[.int .i64 (plusP p s k).x, .int .i64 (plusP p s k).y, .int .i64 (plusP p s k).z])) := by
  obtain ⟨p1, p2, p3⟩ := hp
  obtain ⟨s1, s2, s3⟩ := hs
  have m1 := mul_range hk s1
  have m2 := mul_range hk s2
  have m3 := mul_range hk s3
  obtain ⟨c1, hc1⟩ : ∃ c, k * s.x = c := ⟨_, rfl⟩
  obtain ⟨c2, hc2⟩ : ∃ c, k * s.y = c := ⟨_, rfl⟩
  obtain ⟨c3, hc3⟩ : ∃ c, k * s.z = c := ⟨_, rfl⟩
  have v1 : wrap64 (k * s.x) = c1 := by rw [← hc1]; exact IntWalk.wrap64_in _ (by omega)
  have v2 : wrap64 (k * s.y) = c2 := by rw [← hc2]; exact IntWalk.wrap64_in _ (by omega)
  have v3 : wrap64 (k * s.z) = c3 := by rw [← hc3]; exact IntWalk.wrap64_in _ (by omega)
  rw [hc1] at m1
  rw [hc2] at m2
  rw [hc3] at m3
  have HE := Lib.hid (show plusP p s k = ⟨p.x + c1, p.y + c2, p.z + c3⟩ by unfold plusP; rw [hc1, hc2, hc3])
  clear hc1 hc2 hc3 s1 s2 s3 hk
  go_enter Try.func34, Try.ntmps34
  go_wp2
  rw [HE.out]
  refine bodyPost_ret (v := (.agg #[.int .i64 (⟨p.x + c1, p.y + c2, p.z + c3⟩ : Pt).x, .int .i64 (⟨p.x + c1, p.y + c2, p.z + c3⟩ : Pt).y, .int .i64 (⟨p.x + c1, p.y + c2, p.z + c3⟩ : Pt).z])) (by simp [results, Try.results34, go_sem]) rfl ?_
  exact Ret.of (by (repeat (first | exact grow_refl _ | refine grow_ext _ ?_ | refine grow_alloc _ ?_ | refine grow_drew ?_)))

set_option maxHeartbeats 1000000 in
theorem isPlace_v (p : Pt) (m : Int) (r : Bool) (h : nearB p m = r) (hm : 0 ≤ m ∧ m ≤ 9000000) (w : World) : Calls Try.prog 32 #[(.agg #[.int .i64 p.x, .int .i64 p.y, .int .i64 p.z]), .int .i64 m] w (Ret w (.bool r)) := by
  by_cases h1 : -m ≤ min p.x (min p.y p.z)
  · have HR := Lib.hid (show decide (max p.x (max p.y p.z) ≤ m) = r by
      rw [← h, Bool.eq_iff_iff, near_iff, decide_eq_true_iff]; unfold NearP; omega)
    clear h
    go_enter Try.func32, Try.ntmps32
    go_wp2
    go_ret
    rw [HR.out]
    exact Ret.of (by (repeat (first | exact grow_refl _ | refine grow_ext _ ?_ | refine grow_alloc _ ?_ | refine grow_drew ?_)))
  · have HR := Lib.hid (show false = r by
      rw [← h]; symm; rw [Bool.eq_false_iff]; intro q; rw [near_iff] at q; unfold NearP at q; omega)
    clear h
    go_enter Try.func32, Try.ntmps32
    go_wp2
    go_ret
    rw [← HR.out]
    exact Ret.of (by (repeat (first | exact grow_refl _ | refine grow_ext _ ?_ | refine grow_alloc _ ?_ | refine grow_drew ?_)))

end Go.Proofs.Ytofjopdcbmaijaa
