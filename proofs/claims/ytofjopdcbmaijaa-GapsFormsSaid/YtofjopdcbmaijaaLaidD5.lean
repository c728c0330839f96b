/- frame.placed. -/
import Derived.Test.YtofjopdcbmaijaaLaidD3
namespace Go.Proofs.Ytofjopdcbmaijaa
open Go.RowKit
set_option maxRecDepth 20000

theorem placed_c (tx ty : Int) (p : Pt) (h : turnB tx ty = true) (hp : NearP p 1048576) (w : World) : Calls Try.prog 89 #[.agg #[.int .i64 tx, .int .i64 ty], .agg #[.int .i64 0, .int .i64 0, .int .i64 0], (.agg #[.int .i64 p.x, .int .i64 p.y, .int .i64 p.z])] w (Ret w (.agg #[.int .i64 (imgP tx ty p).x, .int .i64 (imgP tx ty p).y, .int .i64 (imgP tx ty p).z])) := by
  have HI := Lib.hid (fun w => image_c tx ty p h hp w)
  obtain ⟨i1, i2, i3⟩ := img_near h hp
  generalize imgP tx ty p = I at *
  clear h hp
  go_enter Try.func89, Try.ntmps89
  go_wp2_with fail
  go_at_call 101; refine (HI.out _).mono ?_; rintro e w' ⟨rfl, x1, rfl⟩
  go_wp2
  refine bodyPost_ret (v := (.agg #[.int .i64 I.x, .int .i64 I.y, .int .i64 I.z])) (by simp [results, Try.results89, go_sem]) rfl ?_
  exact Ret.of (by (repeat (first | exact grow_refl _ | refine grow_ext _ ?_ | refine grow_alloc _ ?_ | refine grow_drew ?_)))


end Go.Proofs.Ytofjopdcbmaijaa
