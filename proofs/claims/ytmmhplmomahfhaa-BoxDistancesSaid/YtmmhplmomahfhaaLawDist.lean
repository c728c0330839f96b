/- BoxDistances: the walk of the law. -/
import Derived.Test.YtmmhplmomahfhaaAwake
import Derived.Test.YtmmhplmomahfhaaRefN
namespace Go.Proofs.Ytmmhplmomahfhaa
open Go.RowKit

set_option maxRecDepth 100000 in
set_option maxHeartbeats 4000000 in
theorem lawBoxDistances_c (a b : Bx) (w : World) :
    Calls Try.prog 3 #[(.agg #[.int .i64 a.lx, .int .i64 a.ly, .int .i64 a.lz, .int .i64 a.hx, .int .i64 a.hy, .int .i64 a.hz]), (.agg #[.int .i64 b.lx, .int .i64 b.ly, .int .i64 b.lz, .int .i64 b.hx, .int .i64 b.hy, .int .i64 b.hz])] w (Ret w (.bool true)) := by
  by_cases hab : validB a = true ∧ validB b = true
  · have ka := Bd.of_valid hab.1
    have kb := Bd.of_valid hab.2
    have HA := Lib.hid hab.1
    have HB := Lib.hid hab.2
    have KA := Lib.hid ka
    have KB := Lib.hid kb
    clear hab ka kb
    go_enter Try.func3, Try.ntmps3
    go_wp2_with fail
    go_at_call 10; refine (awake_c _).mono ?_; rintro e w' ⟨rfl, x, rfl⟩
    go_wp2_with fail
    go_at_call 11; refine (Gap_ok a b HA.out HB.out _).mono ?_; rintro e w' ⟨rfl, x, rfl⟩
    go_wp2_with fail
    go_at_call 12; refine (Square_ok a b HA.out HB.out _).mono ?_; rintro e w' ⟨rfl, x, rfl⟩
    go_wp2_with fail
    go_at_call 13; refine (Nearest_ok a b HA.out HB.out _).mono ?_; rintro e w' ⟨rfl, x, rfl⟩
    unfold nearV
    go_wp2_with fail
    go_at_call 14; refine (refValid_c a _).mono ?_; rintro e w' ⟨rfl, x, rfl⟩
    rw [HA.out]
    go_wp2_with fail
    go_at_call 14; refine (refValid_c b _).mono ?_; rintro e w' ⟨rfl, x, rfl⟩
    rw [HB.out]
    go_wp2_with fail
    go_at_call 15; refine (refNearest_c a b HA.out HB.out _).mono ?_; rintro e w' ⟨rfl, x, rfl⟩
    unfold refNearV
    go_wp2_with fail
    go_at_call 16; refine (refGap_c a b KA.out KB.out _).mono ?_; rintro e w' ⟨rfl, x, rfl⟩
    go_wp2_with fail
    go_at_call 17; refine (refSquare_c a b HA.out HB.out _).mono ?_; rintro e w' ⟨rfl, x, rfl⟩
    go_wp2
    go_ret
    exact Ret.of (by (repeat (first | exact grow_refl _ | refine grow_ext _ ?_ | refine grow_alloc _ ?_ | refine grow_drew ?_)))
  · have HE := Lib.hid hab
    go_enter Try.func3, Try.ntmps3
    go_wp2_with fail
    go_at_call 10; refine (awake_c _).mono ?_; rintro e w' ⟨rfl, x, rfl⟩
    go_wp2_with fail
    go_at_call 11; refine (Gap_err a b HE.out _).mono ?_; rintro e w' ⟨rfl, x, rfl⟩
    go_wp2_with fail
    go_at_call 12; refine (Square_err a b HE.out _).mono ?_; rintro e w' ⟨rfl, x, rfl⟩
    go_wp2_with fail
    go_at_call 13; refine (Nearest_err a b HE.out _).mono ?_; rintro e w' ⟨rfl, x, rfl⟩
    cases ha : validB a
    · go_wp2_with fail
      go_at_call 14; refine (refValid_c a _).mono ?_; rintro e w' ⟨rfl, x, rfl⟩
      rw [ha]
      go_wp2
      go_ret
      exact Ret.of (by (repeat (first | exact grow_refl _ | refine grow_ext _ ?_ | refine grow_alloc _ ?_ | refine grow_drew ?_)))
    · have hb : validB b = false := by cases hb : validB b <;> simp_all
      go_wp2_with fail
      go_at_call 14; refine (refValid_c a _).mono ?_; rintro e w' ⟨rfl, x, rfl⟩
      rw [ha]
      go_wp2_with fail
      go_at_call 14; refine (refValid_c b _).mono ?_; rintro e w' ⟨rfl, x, rfl⟩
      rw [hb]
      go_wp2
      go_ret
      exact Ret.of (by (repeat (first | exact grow_refl _ | refine grow_ext _ ?_ | refine grow_alloc _ ?_ | refine grow_drew ?_)))

end Go.Proofs.Ytmmhplmomahfhaa
