/- BoxCovers: the walk of the law. -/
import Derived.Test.YtmmhplmomahfhaaAwake
import Derived.Test.YtmmhplmomahfhaaRefH
import Derived.Test.YtmmhplmomahfhaaLawFns
namespace Go.Proofs.Ytmmhplmomahfhaa
open Go.RowKit

set_option maxRecDepth 100000 in
set_option maxHeartbeats 2000000 in
theorem lawBoxCovers_c (l : List Bx) (v : Value) (b : Bx) (w : World) (hl : Boxes w v l) :
    Calls Try.prog 4 #[v, (.agg #[.int .i64 b.lx, .int .i64 b.ly, .int .i64 b.lz, .int .i64 b.hx, .int .i64 b.hy, .int .i64 b.hz])] w (Ret w (.bool true)) := by
  have HL := Lib.hid hl
  clear hl
  cases hm : manyB l.length
  · have HM := Lib.hid hm
    clear hm
    cases ha : l.all validB
    · have HA := Lib.hid ha
      clear ha
      go_enter Try.func4, Try.ntmps4
      go_wp2_with fail
      go_at_call 10; refine (awake_c _).mono ?_; rintro e w' ⟨rfl, x, rfl⟩
      go_wp2_with fail
      go_at_call 18; refine (many_c l v _ (HL.out.below (by (repeat (first | exact grow_refl _ | refine grow_ext _ ?_ | refine grow_alloc _ ?_ | refine grow_drew ?_))))).mono ?_; rintro e w' ⟨rfl, x, rfl⟩
      rw [HM.out]
      go_wp2_with fail
      go_at_call 19; refine (Covers_arg l v b _ (HL.out.below (by (repeat (first | exact grow_refl _ | refine grow_ext _ ?_ | refine grow_alloc _ ?_ | refine grow_drew ?_)))) (by rw [HA.out]; simp)).mono ?_; rintro e w' ⟨rfl, x, rfl⟩
      go_wp2_with fail
      go_at_call 20; refine (refAll_c l v _ (HL.out.below (by (repeat (first | exact grow_refl _ | refine grow_ext _ ?_ | refine grow_alloc _ ?_ | refine grow_drew ?_))))).mono ?_; rintro e w' ⟨rfl, x, rfl⟩
      rw [HA.out]
      go_wp2
      go_ret
      exact Ret.of (by (repeat (first | exact grow_refl _ | refine grow_ext _ ?_ | refine grow_alloc _ ?_ | refine grow_drew ?_)))
    have HA := Lib.hid ha
    clear ha
    cases hb : validB b
    · have HB := Lib.hid hb
      clear hb
      go_enter Try.func4, Try.ntmps4
      go_wp2_with fail
      go_at_call 10; refine (awake_c _).mono ?_; rintro e w' ⟨rfl, x, rfl⟩
      go_wp2_with fail
      go_at_call 18; refine (many_c l v _ (HL.out.below (by (repeat (first | exact grow_refl _ | refine grow_ext _ ?_ | refine grow_alloc _ ?_ | refine grow_drew ?_))))).mono ?_; rintro e w' ⟨rfl, x, rfl⟩
      rw [HM.out]
      go_wp2_with fail
      go_at_call 19; refine (Covers_arg l v b _ (HL.out.below (by (repeat (first | exact grow_refl _ | refine grow_ext _ ?_ | refine grow_alloc _ ?_ | refine grow_drew ?_)))) (by rw [HB.out]; simp)).mono ?_; rintro e w' ⟨rfl, x, rfl⟩
      go_wp2_with fail
      go_at_call 20; refine (refAll_c l v _ (HL.out.below (by (repeat (first | exact grow_refl _ | refine grow_ext _ ?_ | refine grow_alloc _ ?_ | refine grow_drew ?_))))).mono ?_; rintro e w' ⟨rfl, x, rfl⟩
      rw [HA.out]
      go_wp2_with fail
      go_at_call 14; refine (refValid_c b _).mono ?_; rintro e w' ⟨rfl, x, rfl⟩
      rw [HB.out]
      go_wp2
      go_ret
      exact Ret.of (by (repeat (first | exact grow_refl _ | refine grow_ext _ ?_ | refine grow_alloc _ ?_ | refine grow_drew ?_)))
    have HB := Lib.hid hb
    clear hb
    by_cases hn : l.length ≤ 40
    · obtain ⟨a0, cap0, rfl, hcap, hcap2, _⟩ := HL.out.shape
      have HN := Lib.hid hn
      have hn2 : decide ((40 : Int) < (l.length : Int)) = false := by simp; omega
      go_enter Try.func4, Try.ntmps4
      go_wp2_with fail
      go_at_call 10; refine (awake_c _).mono ?_; rintro e w' ⟨rfl, x, rfl⟩
      go_wp2_with fail
      go_at_call 18; refine (many_c l _ _ (HL.out.below (by (repeat (first | exact grow_refl _ | refine grow_ext _ ?_ | refine grow_alloc _ ?_ | refine grow_drew ?_))))).mono ?_; rintro e w' ⟨rfl, x, rfl⟩
      rw [HM.out]
      go_wp2_with fail
      go_at_call 19; refine (Covers_ok l _ b _ (HL.out.below (by (repeat (first | exact grow_refl _ | refine grow_ext _ ?_ | refine grow_alloc _ ?_ | refine grow_drew ?_)))) HN.out HA.out HB.out).mono ?_; rintro e w' ⟨rfl, x, rfl⟩
      go_wp2_with fail
      go_at_call 20; refine (refAll_c l _ _ (HL.out.below (by (repeat (first | exact grow_refl _ | refine grow_ext _ ?_ | refine grow_alloc _ ?_ | refine grow_drew ?_))))).mono ?_; rintro e w' ⟨rfl, x, rfl⟩
      rw [HA.out]
      go_wp2_with fail
      go_at_call 14; refine (refValid_c b _).mono ?_; rintro e w' ⟨rfl, x, rfl⟩
      rw [HB.out]
      go_wp2_with fail
      go_at_call 21; refine (refCovers_c l _ b _ (HL.out.below (by (repeat (first | exact grow_refl _ | refine grow_ext _ ?_ | refine grow_alloc _ ?_ | refine grow_drew ?_)))) (by have := HN.out; omega) (Ord.of_valid HB.out)).mono ?_; rintro e w' ⟨rfl, x, rfl⟩
      go_wp2
      go_ret
      exact Ret.of (by (repeat (first | exact grow_refl _ | refine grow_ext _ ?_ | refine grow_alloc _ ?_ | refine grow_drew ?_)))
    · obtain ⟨a0, cap0, rfl, hcap, hcap2, _⟩ := HL.out.shape
      have h40 : 40 < l.length := by omega
      have HN := Lib.hid h40
      have hn2 : decide ((40 : Int) < (l.length : Int)) = true := by simp; omega
      clear hn h40
      go_enter Try.func4, Try.ntmps4
      go_wp2_with fail
      go_at_call 10; refine (awake_c _).mono ?_; rintro e w' ⟨rfl, x, rfl⟩
      go_wp2_with fail
      go_at_call 18; refine (many_c l _ _ (HL.out.below (by (repeat (first | exact grow_refl _ | refine grow_ext _ ?_ | refine grow_alloc _ ?_ | refine grow_drew ?_))))).mono ?_; rintro e w' ⟨rfl, x, rfl⟩
      rw [HM.out]
      go_wp2_with fail
      go_at_call 19; refine (Covers_full l _ b _ (HL.out.below (by (repeat (first | exact grow_refl _ | refine grow_ext _ ?_ | refine grow_alloc _ ?_ | refine grow_drew ?_)))) HA.out HB.out HN.out).mono ?_; rintro e w' ⟨rfl, x, rfl⟩
      go_wp2_with fail
      go_at_call 20; refine (refAll_c l _ _ (HL.out.below (by (repeat (first | exact grow_refl _ | refine grow_ext _ ?_ | refine grow_alloc _ ?_ | refine grow_drew ?_))))).mono ?_; rintro e w' ⟨rfl, x, rfl⟩
      rw [HA.out]
      go_wp2_with fail
      go_at_call 14; refine (refValid_c b _).mono ?_; rintro e w' ⟨rfl, x, rfl⟩
      rw [HB.out]
      go_wp2
      go_ret
      exact Ret.of (by (repeat (first | exact grow_refl _ | refine grow_ext _ ?_ | refine grow_alloc _ ?_ | refine grow_drew ?_)))
  · have HM := Lib.hid hm
    clear hm
    go_enter Try.func4, Try.ntmps4
    go_wp2_with fail
    go_at_call 10; refine (awake_c _).mono ?_; rintro e w' ⟨rfl, x, rfl⟩
    go_wp2_with fail
    go_at_call 18; refine (many_c l v _ (HL.out.below (by (repeat (first | exact grow_refl _ | refine grow_ext _ ?_ | refine grow_alloc _ ?_ | refine grow_drew ?_))))).mono ?_; rintro e w' ⟨rfl, x, rfl⟩
    rw [HM.out]
    go_wp2
    go_ret
    exact Ret.of (by (repeat (first | exact grow_refl _ | refine grow_ext _ ?_ | refine grow_alloc _ ?_ | refine grow_drew ?_)))

end Go.Proofs.Ytmmhplmomahfhaa
