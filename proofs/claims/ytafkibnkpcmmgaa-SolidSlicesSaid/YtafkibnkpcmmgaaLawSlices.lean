/- SolidSlices: the law. -/
import Derived.Test.YtafkibnkpcmmgaaLawSlic
namespace Go.Proofs.Ytafkibnkpcmmgaa
open Go.RowKit

set_option maxRecDepth 100000 in
set_option maxHeartbeats 2000000 in
theorem lawSolidSlices_c (l m : List Bx) (u t : Value) (w : World) (hl : Boxes w u l) (hm : Boxes w t m) :
    Calls Try.prog 4 #[.agg #[u, t]] w (Ret w (.bool true)) := by
  cases hr : rightB l m
  · have HL := Lib.hid hl
    have HM := Lib.hid hm
    have HR := Lib.hid hr
    clear hl hm hr
    go_enter Try.func4, Try.ntmps4
    go_wp2_with fail
    go_at_call 9; refine (awake17_c _).mono ?_; rintro e w' ⟨rfl, x0, rfl⟩
    go_wp2_with fail
    go_at_call 10; refine (right17_v l m _ _ _ HR.out _ (HL.out.below (by (repeat (first | exact grow_refl _ | refine grow_ext _ ?_ | refine grow_alloc _ ?_ | refine grow_drew ?_)))) (HM.out.below (by (repeat (first | exact grow_refl _ | refine grow_ext _ ?_ | refine grow_alloc _ ?_ | refine grow_drew ?_))))).mono ?_; rintro e w' ⟨rfl, x1, rfl⟩
    go_wp2
    go_ret
    exact Ret.of (by (repeat (first | exact grow_refl _ | refine grow_ext _ ?_ | refine grow_alloc _ ?_ | refine grow_drew ?_)))
  cases hv : modestS l m
  · have HL := Lib.hid hl
    have HM := Lib.hid hm
    have HR := Lib.hid hr
    have HV := Lib.hid hv
    obtain ⟨⟨n1, n2⟩, _⟩ := right_iff.1 hr
    clear hl hm hr hv
    go_enter Try.func4, Try.ntmps4
    go_wp2_with fail
    go_at_call 9; refine (awake17_c _).mono ?_; rintro e w' ⟨rfl, x0, rfl⟩
    go_wp2_with fail
    go_at_call 10; refine (right17_v l m _ _ _ HR.out _ (HL.out.below (by (repeat (first | exact grow_refl _ | refine grow_ext _ ?_ | refine grow_alloc _ ?_ | refine grow_drew ?_)))) (HM.out.below (by (repeat (first | exact grow_refl _ | refine grow_ext _ ?_ | refine grow_alloc _ ?_ | refine grow_drew ?_))))).mono ?_; rintro e w' ⟨rfl, x1, rfl⟩
    go_wp2_with fail
    go_at_call 17; refine (modest17_v l m _ _ _ HV.out (by omega) (by omega) _ (HL.out.below (by (repeat (first | exact grow_refl _ | refine grow_ext _ ?_ | refine grow_alloc _ ?_ | refine grow_drew ?_)))) (HM.out.below (by (repeat (first | exact grow_refl _ | refine grow_ext _ ?_ | refine grow_alloc _ ?_ | refine grow_drew ?_))))).mono ?_; rintro e w' ⟨rfl, x2, rfl⟩
    go_wp2
    go_ret
    exact Ret.of (by (repeat (first | exact grow_refl _ | refine grow_ext _ ?_ | refine grow_alloc _ ?_ | refine grow_drew ?_)))
  exact lawSlices_ok l m u t hr hv w hl hm

end Go.Proofs.Ytafkibnkpcmmgaa
