/- frame.image, placed. -/
import Derived.Test.YtofjopdcbmaijaaLaidD2
namespace Go.Proofs.Ytofjopdcbmaijaa
open Go.RowKit
set_option maxRecDepth 20000

theorem cross_small {tx ty : Int} (h : turnB tx ty = true) : NearP (crossP (unitP tx) (unitP ty)) 1 := by
  obtain ⟨⟨a1, a2, a3⟩, ⟨b1, b2, b3⟩, c1, c2⟩ := turn_iff.1 h
  have hx : tx = 1 ∨ tx = 2 ∨ tx = 3 ∨ tx = -1 ∨ tx = -2 ∨ tx = -3 := by omega
  have hy : ty = 1 ∨ ty = 2 ∨ ty = 3 ∨ ty = -1 ∨ ty = -2 ∨ ty = -3 := by omega
  rcases hx with rfl | rfl | rfl | rfl | rfl | rfl <;> rcases hy with rfl | rfl | rfl | rfl | rfl | rfl <;> (unfold NearP unitP crossP; simp)

set_option maxRecDepth 100000 in
set_option maxHeartbeats 4000000 in
theorem image_c (tx ty : Int) (p : Pt) (h : turnB tx ty = true) (hp : NearP p 1048576) (w : World) : Calls Try.prog 101 #[.agg #[.int .i64 tx, .int .i64 ty], (.agg #[.int .i64 p.x, .int .i64 p.y, .int .i64 p.z])] w (Ret w (.agg #[.int .i64 (imgP tx ty p).x, .int .i64 (imgP tx ty p).y, .int .i64 (imgP tx ty p).z])) := by
  obtain ⟨ha, hb, hc⟩ := turn_iff.1 h
  have HC := Lib.hid (fun w => columns_c tx ty h w)
  obtain ⟨a1, a2, a3⟩ := unit_small ha
  obtain ⟨b1, b2, b3⟩ := unit_small hb
  obtain ⟨c1, c2, c3⟩ := cross_small h
  have he : imgP tx ty p = ⟨(unitP tx).x * p.x + (unitP ty).x * p.y + (crossP (unitP tx) (unitP ty)).x * p.z, (unitP tx).y * p.x + (unitP ty).y * p.y + (crossP (unitP tx) (unitP ty)).y * p.z, (unitP tx).z * p.x + (unitP ty).z * p.y + (crossP (unitP tx) (unitP ty)).z * p.z⟩ := rfl
  generalize imgP tx ty p = I at *
  generalize crossP (unitP tx) (unitP ty) = C at *
  generalize unitP tx = U at *
  generalize unitP ty = V at *
  obtain ⟨p1, p2, p3⟩ := hp
  have s1 := mul_small a1 p1
  have s2 := mul_small b1 p2
  have s3 := mul_small c1 p3
  have s4 := mul_small a2 p1
  have s5 := mul_small b2 p2
  have s6 := mul_small c2 p3
  have s7 := mul_small a3 p1
  have s8 := mul_small b3 p2
  have s9 := mul_small c3 p3
  have v1 : wrap64 (U.x * p.x) = U.x * p.x := IntWalk.wrap64_in _ (by omega)
  have v2 : wrap64 (V.x * p.y) = V.x * p.y := IntWalk.wrap64_in _ (by omega)
  have v3 : wrap64 (C.x * p.z) = C.x * p.z := IntWalk.wrap64_in _ (by omega)
  have v4 : wrap64 (U.y * p.x) = U.y * p.x := IntWalk.wrap64_in _ (by omega)
  have v5 : wrap64 (V.y * p.y) = V.y * p.y := IntWalk.wrap64_in _ (by omega)
  have v6 : wrap64 (C.y * p.z) = C.y * p.z := IntWalk.wrap64_in _ (by omega)
  have v7 : wrap64 (U.z * p.x) = U.z * p.x := IntWalk.wrap64_in _ (by omega)
  have v8 : wrap64 (V.z * p.y) = V.z * p.y := IntWalk.wrap64_in _ (by omega)
  have v9 : wrap64 (C.z * p.z) = C.z * p.z := IntWalk.wrap64_in _ (by omega)
  have u1 : IntKind.i64.wrap (U.x * p.x) = U.x * p.x := IntWalk.i64_in _ (by omega)
  have u2 : IntKind.i64.wrap (V.x * p.y) = V.x * p.y := IntWalk.i64_in _ (by omega)
  have u3 : IntKind.i64.wrap (C.x * p.z) = C.x * p.z := IntWalk.i64_in _ (by omega)
  have u4 : IntKind.i64.wrap (U.y * p.x) = U.y * p.x := IntWalk.i64_in _ (by omega)
  have u5 : IntKind.i64.wrap (V.y * p.y) = V.y * p.y := IntWalk.i64_in _ (by omega)
  have u6 : IntKind.i64.wrap (C.y * p.z) = C.y * p.z := IntWalk.i64_in _ (by omega)
  have u7 : IntKind.i64.wrap (U.z * p.x) = U.z * p.x := IntWalk.i64_in _ (by omega)
  have u8 : IntKind.i64.wrap (V.z * p.y) = V.z * p.y := IntWalk.i64_in _ (by omega)
  have u9 : IntKind.i64.wrap (C.z * p.z) = C.z * p.z := IntWalk.i64_in _ (by omega)
  have rx1 : IntKind.i64.wrap (U.x * p.x + V.x * p.y) = U.x * p.x + V.x * p.y := IntWalk.i64_in _ (by omega)
  have rx2 : IntKind.i64.wrap (U.x * p.x + V.x * p.y + C.x * p.z) = U.x * p.x + V.x * p.y + C.x * p.z := IntWalk.i64_in _ (by omega)
  have ry1 : IntKind.i64.wrap (U.y * p.x + V.y * p.y) = U.y * p.x + V.y * p.y := IntWalk.i64_in _ (by omega)
  have ry2 : IntKind.i64.wrap (U.y * p.x + V.y * p.y + C.y * p.z) = U.y * p.x + V.y * p.y + C.y * p.z := IntWalk.i64_in _ (by omega)
  have rz1 : IntKind.i64.wrap (U.z * p.x + V.z * p.y) = U.z * p.x + V.z * p.y := IntWalk.i64_in _ (by omega)
  have rz2 : IntKind.i64.wrap (U.z * p.x + V.z * p.y + C.z * p.z) = U.z * p.x + V.z * p.y + C.z * p.z := IntWalk.i64_in _ (by omega)
  subst he
  clear ha hb hc h a1 a2 a3 b1 b2 b3 c1 c2 c3 p1 p2 p3
  go_enter Try.func101, Try.ntmps101
  go_wp2_with fail
  go_at_call 105; refine (HC.out _).mono ?_; rintro e w' ⟨rfl, x1, rfl⟩
  go_wp2_with fail
  refine wp_loop_rounds 4 ?_
  rw [rounds_succ]
  go_wp2_with fail
  refine wp_region_tail 25 (by kernel_rfl) (by kernel_rfl) ?_; simp only [List.take_succ_cons, List.take_zero, List.drop_succ_cons, List.drop_zero]
  repeat (go_big_quiet_step (fail))
  refine wpQuiet_nil ?_; rintro _ ⟨xq, rfl⟩
  go_wp2_with fail
  rw [rounds_succ]
  go_wp2_with fail
  refine wp_region_tail 25 (by kernel_rfl) (by kernel_rfl) ?_; simp only [List.take_succ_cons, List.take_zero, List.drop_succ_cons, List.drop_zero]
  repeat (go_big_quiet_step (fail))
  refine wpQuiet_nil ?_; rintro _ ⟨xq, rfl⟩
  go_wp2_with fail
  rw [rounds_succ]
  go_wp2_with fail
  refine wp_region_tail 25 (by kernel_rfl) (by kernel_rfl) ?_; simp only [List.take_succ_cons, List.take_zero, List.drop_succ_cons, List.drop_zero]
  repeat (go_big_quiet_step (fail))
  refine wpQuiet_nil ?_; rintro _ ⟨xq, rfl⟩
  go_wp2_with fail
  rw [rounds_succ]
  go_wp2
  refine bodyPost_ret (v := .agg #[.int .i64 (U.x * p.x + V.x * p.y + C.x * p.z), .int .i64 (U.y * p.x + V.y * p.y + C.y * p.z), .int .i64 (U.z * p.x + V.z * p.y + C.z * p.z)]) (by simp [results, Try.results101, go_sem]) rfl ?_
  exact Ret.of (by (repeat (first | exact grow_refl _ | refine grow_ext _ ?_ | refine grow_alloc _ ?_ | refine grow_drew ?_)))


end Go.Proofs.Ytofjopdcbmaijaa
