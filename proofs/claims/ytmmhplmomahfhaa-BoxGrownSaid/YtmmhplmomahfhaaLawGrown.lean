/- BoxGrown: the walk of the law. -/
import Derived.Test.YtmmhplmomahfhaaAwake
import Derived.Test.YtmmhplmomahfhaaRefD
namespace Go.Proofs.Ytmmhplmomahfhaa
open Go.RowKit

theorem gap_grown (a b : Bx) (n : Int) : gapI (grownX a n) b = gapI a b - n := by
  unfold gapI alongI Bx.lo Bx.hi grownX
  simp
  omega
theorem grown_contains (a : Bx) (n : Int) (h : 0 ≤ n) : containsB (grownX a n) a = true := by
  rw [contains_iff]; simp only [grownX]; omega
theorem grown_twice (a : Bx) (m n : Int) : grownX (grownX a m) n = grownX a (m + n) := by
  simp only [grownX, Bx.mk.injEq]; omega
theorem grownR_twice (a : Bx) (m n : Int) (ha : validB a = true) (hm : 0 ≤ m ∧ m ≤ 65535) (hn : 0 ≤ n ∧ n ≤ 65535) (h : validB (grownX a m) = true) : grownR (grownX a m) n = grownR a (m + n) := by
  unfold grownR
  rw [h, ha, grown_twice]
  have e1 : ¬ (n < 0 ∨ 1048576 < n) := by omega
  have e2 : ¬ (m + n < 0 ∨ 1048576 < m + n) := by omega
  simp only [Bool.true_eq_false, e1, e2, if_false]

set_option maxRecDepth 100000 in
set_option maxHeartbeats 4000000 in
theorem lawBoxGrown_c (a b : Bx) (m n : Int) (hm : 0 ≤ m ∧ m ≤ 65535) (hn : 0 ≤ n ∧ n ≤ 65535) (w : World) :
    Calls Try.prog 7 #[(.agg #[.int .i64 a.lx, .int .i64 a.ly, .int .i64 a.lz, .int .i64 a.hx, .int .i64 a.hy, .int .i64 a.hz]), (.agg #[.int .i64 b.lx, .int .i64 b.ly, .int .i64 b.lz, .int .i64 b.hx, .int .i64 b.hy, .int .i64 b.hz]), .int .u16 m, .int .u16 n] w (Ret w (.bool true)) := by
  cases ha : validB a
  · go_enter Try.func7, Try.ntmps7
    go_wp2_with fail
    go_at_call 10; refine (awake_c _).mono ?_; rintro e w' ⟨rfl, x, rfl⟩
    go_wp2_with fail
    go_at_call 14; refine (refValid_c a _).mono ?_; rintro e w' ⟨rfl, x, rfl⟩
    rw [ha]
    go_wp2
    go_ret
    exact Ret.of (by (repeat (first | exact grow_refl _ | refine grow_ext _ ?_ | refine grow_alloc _ ?_ | refine grow_drew ?_)))
  cases hb : validB b
  · go_enter Try.func7, Try.ntmps7
    go_wp2_with fail
    go_at_call 10; refine (awake_c _).mono ?_; rintro e w' ⟨rfl, x, rfl⟩
    go_wp2_with fail
    go_at_call 14; refine (refValid_c a _).mono ?_; rintro e w' ⟨rfl, x, rfl⟩
    rw [ha]
    go_wp2_with fail
    go_at_call 14; refine (refValid_c b _).mono ?_; rintro e w' ⟨rfl, x, rfl⟩
    rw [hb]
    go_wp2
    go_ret
    exact Ret.of (by (repeat (first | exact grow_refl _ | refine grow_ext _ ?_ | refine grow_alloc _ ?_ | refine grow_drew ?_)))
  cases hg : validB (grownX a m)
  · have he : grownR a m = (zeroX, 2) := by unfold grownR; rw [ha, hg, if_neg (by simp), if_neg (by omega), if_pos rfl]
    have HE := Lib.hid he
    clear he
    go_enter Try.func7, Try.ntmps7
    go_wp2_with fail
    go_at_call 10; refine (awake_c _).mono ?_; rintro e w' ⟨rfl, x, rfl⟩
    go_wp2_with fail
    go_at_call 14; refine (refValid_c a _).mono ?_; rintro e w' ⟨rfl, x, rfl⟩
    rw [ha]
    go_wp2_with fail
    go_at_call 14; refine (refValid_c b _).mono ?_; rintro e w' ⟨rfl, x, rfl⟩
    rw [hb]
    go_wp2_with fail
    go_at_call 30; refine (Grown_c a m _).mono ?_; rintro e w' ⟨rfl, x, rfl⟩
    rw [HE.out]
    go_wp2
    go_ret
    exact Ret.of (by (repeat (first | exact grow_refl _ | refine grow_ext _ ?_ | refine grow_alloc _ ?_ | refine grow_drew ?_)))
  have he : grownR a m = (grownX a m, 0) := by unfold grownR; rw [ha, hg, if_neg (by simp), if_neg (by omega), if_neg (by simp)]
  have HE := Lib.hid he
  have HT := Lib.hid (grownR_twice a m n ha hm hn hg)
  have HG := Lib.hid (gap_grown a b m)
  have HC := Lib.hid (grown_contains a m hm.1)
  have gb1 : -9000000 ≤ gapI a b ∧ gapI a b ≤ 9000000 := by
    have h1 := valid_iff.1 ha
    have h2 := valid_iff.1 hb
    unfold gapI alongI Bx.lo Bx.hi
    simp
    omega
  clear he
  have HA := Lib.hid ha
  have HB := Lib.hid hb
  have HV := Lib.hid hg
  clear ha hb hg
  go_enter Try.func7, Try.ntmps7
  go_wp2_with fail
  go_at_call 10; refine (awake_c _).mono ?_; rintro e w' ⟨rfl, x, rfl⟩
  go_wp2_with fail
  go_at_call 14; refine (refValid_c a _).mono ?_; rintro e w' ⟨rfl, x, rfl⟩
  rw [HA.out]
  go_wp2_with fail
  go_at_call 14; refine (refValid_c b _).mono ?_; rintro e w' ⟨rfl, x, rfl⟩
  rw [HB.out]
  go_wp2_with fail
  go_at_call 30; refine (Grown_c a m _).mono ?_; rintro e w' ⟨rfl, x, rfl⟩
  rw [HE.out]
  dsimp only
  go_wp2_with fail
  go_at_call 11; refine (Gap_ok a b HA.out HB.out _).mono ?_; rintro e w' ⟨rfl, x, rfl⟩
  go_wp2_with fail
  go_at_call 11; refine (Gap_ok (grownX a m) b HV.out HB.out _).mono ?_; rintro e w' ⟨rfl, x, rfl⟩
  rw [HG.out]
  go_wp2_with fail
  go_at_call 23; refine (Contains_ok (grownX a m) a HV.out HA.out _).mono ?_; rintro e w' ⟨rfl, x, rfl⟩
  rw [HC.out]
  go_wp2_with fail
  go_at_call 30; refine (Grown_c a (m + n) _).mono ?_; rintro e w' ⟨rfl, x, rfl⟩
  go_wp2_with fail
  go_at_call 30; refine (Grown_c (grownX a m) n _).mono ?_; rintro e w' ⟨rfl, x, rfl⟩
  rw [HT.out]
  go_wp2
  go_ret
  exact Ret.of (by (repeat (first | exact grow_refl _ | refine grow_ext _ ?_ | refine grow_alloc _ ?_ | refine grow_drew ?_)))

end Go.Proofs.Ytmmhplmomahfhaa
