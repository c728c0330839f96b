/- The example of the chapter on boxes holds. -/
import Derived.Test.YtmmhplmomahfhaaAwake0
import Derived.Test.YtmmhplmomahfhaaRefB
import Derived.Deep.RegionHeld3
namespace Go.Proofs.Ytmmhplmomahfhaa
open Go.RowKit

set_option maxHeartbeats 400000 in
theorem cube_c (a b c d e f : Int) (w : World) : Calls Try.prog 37 #[.int .i64 a, .int .i64 b, .int .i64 c, .int .i64 d, .int .i64 e, .int .i64 f] w (Ret w (.agg #[.int .i64 (Bx.mk a b c d e f).lx, .int .i64 (Bx.mk a b c d e f).ly, .int .i64 (Bx.mk a b c d e f).lz, .int .i64 (Bx.mk a b c d e f).hx, .int .i64 (Bx.mk a b c d e f).hy, .int .i64 (Bx.mk a b c d e f).hz])) := by
  go_enter Try.func37, Try.ntmps37
  go_wp2
  refine bodyPost_ret (v := .agg #[.int .i64 a, .int .i64 b, .int .i64 c, .int .i64 d, .int .i64 e, .int .i64 f]) (by simp [results, Try.results37, go_sem]) rfl ?_
  exact Ret.of (by (repeat (first | exact grow_refl _ | refine grow_ext _ ?_ | refine grow_alloc _ ?_ | refine grow_drew ?_)))

set_option maxRecDepth 100000 in
set_option maxHeartbeats 2000000 in
theorem awake_c (w : World) : Calls Try.prog 10 #[] w (Ret w (.bool true)) := by
  go_enter Try.func10, Try.ntmps10
  go_wp2_with fail
  go_at_call 37; refine (cube_c _ _ _ _ _ _ _).mono ?_; rintro e w' ⟨rfl, x1, rfl⟩
  dsimp only
  go_wp2_with fail
  go_at_call 37; refine (cube_c _ _ _ _ _ _ _).mono ?_; rintro e w' ⟨rfl, x2, rfl⟩
  dsimp only
  go_wp2_with fail
  go_at_call 11; refine (Gap_ok ⟨0, 0, 0, 10, 10, 10⟩ ⟨13, 14, 5, 20, 20, 20⟩ (by decide) (by decide) _).mono ?_; rintro e w' ⟨rfl, x3, rfl⟩
  rw [show gapI ⟨0, 0, 0, 10, 10, 10⟩ ⟨13, 14, 5, 20, 20, 20⟩ = 4 from by decide]
  go_wp2_with fail
  go_at_call 12; refine (Square_ok ⟨0, 0, 0, 10, 10, 10⟩ ⟨13, 14, 5, 20, 20, 20⟩ (by decide) (by decide) _).mono ?_; rintro e w' ⟨rfl, x4, rfl⟩
  rw [show squareI ⟨0, 0, 0, 10, 10, 10⟩ ⟨13, 14, 5, 20, 20, 20⟩ = 25 from by decide]
  go_wp2_with fail
  go_at_call 13; refine (Nearest_ok ⟨0, 0, 0, 10, 10, 10⟩ ⟨13, 14, 5, 20, 20, 20⟩ (by decide) (by decide) _).mono ?_; rintro e w' ⟨rfl, x5, rfl⟩
  rw [show nearV ⟨0, 0, 0, 10, 10, 10⟩ ⟨13, 14, 5, 20, 20, 20⟩ = .tuple #[(.agg #[.int .i64 10, .int .i64 10, .int .i64 5]), (.agg #[.int .i64 13, .int .i64 14, .int .i64 5]), .int .i64 0] from by rfl]
  go_wp2_with fail
  go_region_held3 (fun w' => w'.cell? ⟨w.heap.size + x1.heap.size + x2.heap.size, 0, none⟩ = some (.int .i64 0) ∧ w'.cell? ⟨w.heap.size + x1.heap.size + x2.heap.size, 1, none⟩ = some (.int .i64 0) ∧ w'.cell? ⟨w.heap.size + x1.heap.size + x2.heap.size, 2, none⟩ = some (.int .i64 0) ∧ w'.cell? ⟨w.heap.size + x1.heap.size + x2.heap.size, 3, none⟩ = some (.int .i64 10) ∧ w'.cell? ⟨w.heap.size + x1.heap.size + x2.heap.size, 4, none⟩ = some (.int .i64 10) ∧ w'.cell? ⟨w.heap.size + x1.heap.size + x2.heap.size, 5, none⟩ = some (.int .i64 10)) (simp [go_sem, *])
    (first
      | (go_at_call 37; refine (cube_c _ _ _ _ _ _ _).mono ?_; rintro e w' ⟨rfl, y, rfl⟩; dsimp only)
      | (go_at_call 19; refine Calls.mono (Covers_ok [⟨0, 0, 0, 4, 10, 10⟩, ⟨4, 0, 0, 11, 10, 10⟩] _ ⟨0, 0, 0, 10, 10, 10⟩ _ ?_ (by decide) (by decide) (by decide)) ?_; exact Boxes.of_own (own_lit _ _ _ _ _ (by simp [size_ext]) (Nat.le_refl _) (by decide) rfl rfl); rintro e w' ⟨rfl, y, rfl⟩; rw [example_covers]))
  go_wp2
  go_ret
  exact Ret.of (by (repeat (first | exact grow_refl _ | refine grow_ext _ ?_ | refine grow_alloc _ ?_ | refine grow_drew ?_)))

end Go.Proofs.Ytmmhplmomahfhaa
