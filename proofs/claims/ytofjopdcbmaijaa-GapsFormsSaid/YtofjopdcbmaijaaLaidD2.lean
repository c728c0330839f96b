/- frame.columns. -/
import Derived.Test.YtofjopdcbmaijaaLaidD1
import Derived.Deep.RegionHeld3
namespace Go.Proofs.Ytofjopdcbmaijaa
open Go.RowKit
set_option maxRecDepth 20000

set_option maxHeartbeats 1000000 in
theorem columns_c (tx ty : Int) (h : turnB tx ty = true) (w : World) : Calls Try.prog 105 #[.agg #[.int .i64 tx, .int .i64 ty]] w (Ret w (.agg #[.int .i64 (unitP tx).x, .int .i64 (unitP tx).y, .int .i64 (unitP tx).z, .int .i64 (unitP ty).x, .int .i64 (unitP ty).y, .int .i64 (unitP ty).z, .int .i64 (crossP (unitP tx) (unitP ty)).x, .int .i64 (crossP (unitP tx) (unitP ty)).y, .int .i64 (crossP (unitP tx) (unitP ty)).z])) := by
  obtain ⟨ha, hb, hc⟩ := turn_iff.1 h
  have HU := Lib.hid (fun w => unit_c tx ha w)
  have HV := Lib.hid (fun w => unit_c ty hb w)
  have HC := Lib.hid (fun w => cross_c (unitP tx) (unitP ty) (unit_small ha) (unit_small hb) w)
  clear ha hb hc h
  generalize crossP (unitP tx) (unitP ty) = C at *
  generalize unitP tx = U at *
  generalize unitP ty = V at *
  go_enter Try.func105, Try.ntmps105
  go_wp2_with fail
  go_region_held3 (fun w' => w'.cell? ⟨w.heap.size, 0, none⟩ = some (.int .i64 tx) ∧ w'.cell? ⟨w.heap.size, 1, none⟩ = some (.int .i64 ty)) (simp [go_sem, *])
    (first
      | (go_at_call_of 107 (Value.int IntKind.i64 tx); refine Calls.mono (HU.out _) ?_; rintro e w' ⟨rfl, y1, rfl⟩)
      | (go_at_call_of 107 (Value.int IntKind.i64 ty); refine Calls.mono (HV.out _) ?_; rintro e w' ⟨rfl, y2, rfl⟩))
  all_goals
    go_wp2_with fail
    refine wp_region_tail 6 (by kernel_rfl) (by kernel_rfl) ?_; simp only [List.take_succ_cons, List.take_zero, List.drop_succ_cons, List.drop_zero]
    repeat (go_big_quiet_step ((go_at_call 108; exact Calls.quiet_ext (HC.out _))))
    refine wpQuiet_nil ?_; rintro _ ⟨xq, rfl⟩
    go_wp2
    refine bodyPost_ret (v := .agg #[.int .i64 U.x, .int .i64 U.y, .int .i64 U.z, .int .i64 V.x, .int .i64 V.y, .int .i64 V.z, .int .i64 C.x, .int .i64 C.y, .int .i64 C.z]) (by simp [results, Try.results105, go_sem]) rfl ?_
    exact Ret.of (by (repeat (first | exact grow_refl _ | refine grow_ext _ ?_ | refine grow_alloc _ ?_ | refine grow_drew ?_)))

end Go.Proofs.Ytofjopdcbmaijaa
