/- CoverMoves: the functions that move and mirror a box. -/
import Derived.Test.YtdldbdffaffjoaaLawCv
import Derived.Test.YtdldbdffaffjoaaPlainK1
namespace Go.Proofs.Ytdldbdffaffjoaa
open Go.RowKit
set_option maxRecDepth 20000

set_option maxRecDepth 100000 in
set_option maxHeartbeats 2000000 in
theorem move18_c (b : Bx) (dx dy dz : Int) (hb : validB b = true) (hx : -32768 ≤ dx ∧ dx ≤ 32767) (hy : -32768 ≤ dy ∧ dy ≤ 32767) (hz : -32768 ≤ dz ∧ dz ≤ 32767) (g1 g2 g3 : Nat) (w : World)
    (c1 : w.cell? ⟨g1, 0, none⟩ = some (.int .i16 dx)) (c2 : w.cell? ⟨g2, 0, none⟩ = some (.int .i16 dy)) (c3 : w.cell? ⟨g3, 0, none⟩ = some (.int .i16 dz)) :
    Calls Try.prog 10 #[(.agg #[.int .i64 b.lx, .int .i64 b.ly, .int .i64 b.lz, .int .i64 b.hx, .int .i64 b.hy, .int .i64 b.hz]), .pointer (some ⟨g1, 0, none⟩), .pointer (some ⟨g2, 0, none⟩), .pointer (some ⟨g3, 0, none⟩)] w (Ret w (.agg #[.int .i64 (movedX dx dy dz b).lx, .int .i64 (movedX dx dy dz b).ly, .int .i64 (movedX dx dy dz b).lz, .int .i64 (movedX dx dy dz b).hx, .int .i64 (movedX dx dy dz b).hy, .int .i64 (movedX dx dy dz b).hz])) := by
  have hv := valid_iff.1 hb
  have w1 : IntKind.i64.wrap dx = dx := IntWalk.i64_in _ (by omega)
  have w2 : IntKind.i64.wrap dy = dy := IntWalk.i64_in _ (by omega)
  have w3 : IntKind.i64.wrap dz = dz := IntWalk.i64_in _ (by omega)
  clear hb
  go_enter Try.func10, Try.ntmps10
  go_wp2_with fail
  go_at_call 11; refine (at18_c _ _ _ _).mono ?_; rintro e w' ⟨rfl, x1, rfl⟩
  go_wp2_with fail
  refine wp_region_tail 39 (by kernel_rfl) (by kernel_rfl) ?_; simp only [List.take_succ_cons, List.take_zero, List.drop_succ_cons, List.drop_zero]
  repeat (go_big_quiet_step ((go_at_call 11; exact Calls.quiet_ext (at18_c _ _ _ _))))
  refine wpQuiet_nil ?_; rintro _ ⟨xq, rfl⟩
  go_wp2
  refine bodyPost_ret (v := (.agg #[.int .i64 (movedX dx dy dz b).lx, .int .i64 (movedX dx dy dz b).ly, .int .i64 (movedX dx dy dz b).lz, .int .i64 (movedX dx dy dz b).hx, .int .i64 (movedX dx dy dz b).hy, .int .i64 (movedX dx dy dz b).hz])) (by simp [results, Try.results10, go_sem, movedX]) rfl ?_
  exact Ret.of (by (repeat (first | exact grow_refl _ | refine grow_ext _ ?_ | refine grow_alloc _ ?_ | refine grow_drew ?_)))
theorem enters_move : Enters 10 := enters_of Try.func10 (by decide) (by simp [Try.f10])

set_option maxRecDepth 100000 in
set_option maxHeartbeats 2000000 in
theorem turn18_c (b : Bx) (hb : validB b = true) (w : World) : Calls Try.prog 12 #[(.agg #[.int .i64 b.lx, .int .i64 b.ly, .int .i64 b.lz, .int .i64 b.hx, .int .i64 b.hy, .int .i64 b.hz])] w (Ret w (.agg #[.int .i64 (turnX b).lx, .int .i64 (turnX b).ly, .int .i64 (turnX b).lz, .int .i64 (turnX b).hx, .int .i64 (turnX b).hy, .int .i64 (turnX b).hz])) := by
  have hv := valid_iff.1 hb
  clear hb
  go_enter Try.func12, Try.ntmps12
  go_wp2_with fail
  refine wp_region_tail 23 (by kernel_rfl) (by kernel_rfl) ?_; simp only [List.take_succ_cons, List.take_zero, List.drop_succ_cons, List.drop_zero]
  repeat (go_big_quiet_step ((go_at_call 11; exact Calls.quiet_ext (at18_c _ _ _ _))))
  refine wpQuiet_nil ?_; rintro _ ⟨xq, rfl⟩
  go_wp2
  refine bodyPost_ret (v := (.agg #[.int .i64 (turnX b).lx, .int .i64 (turnX b).ly, .int .i64 (turnX b).lz, .int .i64 (turnX b).hx, .int .i64 (turnX b).hy, .int .i64 (turnX b).hz])) (by simp [results, Try.results12, go_sem, turnX]) rfl ?_
  exact Ret.of (by (repeat (first | exact grow_refl _ | refine grow_ext _ ?_ | refine grow_alloc _ ?_ | refine grow_drew ?_)))
theorem enters_turn : Enters 12 := enters_of Try.func12 (by decide) (by simp [Try.f12])

end Go.Proofs.Ytdldbdffaffjoaa
