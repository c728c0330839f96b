/- SolidCells: the law. -/
import Derived.Test.YtafkibnkpcmmgaaLawCells
namespace Go.Proofs.Ytafkibnkpcmmgaa
open Go.RowKit

set_option maxRecDepth 100000 in
set_option maxHeartbeats 2000000 in
theorem lawSolidCells_c (l m : List Bx) (u t : Value) (qx qy qz : Int) (w : World) (hl : Boxes w u l) (hm : Boxes w t m) :
    Calls Try.prog 8 #[.agg #[u, t], (.agg #[.int .i64 qx, .int .i64 qy, .int .i64 qz])] w (Ret w (.bool true)) := by
  cases hr : rightB l m
  · have HL := Lib.hid hl
    have HM := Lib.hid hm
    have HR := Lib.hid hr
    clear hl hm hr
    go_enter Try.func8, Try.ntmps8
    go_wp2_with fail
    go_at_call 9; refine (awake17_c _).mono ?_; rintro e w' ⟨rfl, x0, rfl⟩
    go_wp2_with fail
    go_at_call 10; refine (right17_v l m _ _ _ HR.out _ (HL.out.below (by (repeat (first | exact grow_refl _ | refine grow_ext _ ?_ | refine grow_alloc _ ?_ | refine grow_drew ?_)))) (HM.out.below (by (repeat (first | exact grow_refl _ | refine grow_ext _ ?_ | refine grow_alloc _ ?_ | refine grow_drew ?_))))).mono ?_; rintro e w' ⟨rfl, x1, rfl⟩
    go_wp2
    go_ret
    exact Ret.of (by (repeat (first | exact grow_refl _ | refine grow_ext _ ?_ | refine grow_alloc _ ?_ | refine grow_drew ?_)))
  cases hv : modestS l m
  · have HL := Lib.hid hl
    have HM := Lib.hid hm
    have HR := Lib.hid hr
    have HV := Lib.hid hv
    obtain ⟨⟨n1, n2⟩, _⟩ := right_iff.1 hr
    clear hl hm hr hv
    go_enter Try.func8, Try.ntmps8
    go_wp2_with fail
    go_at_call 9; refine (awake17_c _).mono ?_; rintro e w' ⟨rfl, x0, rfl⟩
    go_wp2_with fail
    go_at_call 10; refine (right17_v l m _ _ _ HR.out _ (HL.out.below (by (repeat (first | exact grow_refl _ | refine grow_ext _ ?_ | refine grow_alloc _ ?_ | refine grow_drew ?_)))) (HM.out.below (by (repeat (first | exact grow_refl _ | refine grow_ext _ ?_ | refine grow_alloc _ ?_ | refine grow_drew ?_))))).mono ?_; rintro e w' ⟨rfl, x1, rfl⟩
    go_wp2_with fail
    go_at_call 17; refine (modest17_v l m _ _ _ HV.out (by omega) (by omega) _ (HL.out.below (by (repeat (first | exact grow_refl _ | refine grow_ext _ ?_ | refine grow_alloc _ ?_ | refine grow_drew ?_)))) (HM.out.below (by (repeat (first | exact grow_refl _ | refine grow_ext _ ?_ | refine grow_alloc _ ?_ | refine grow_drew ?_))))).mono ?_; rintro e w' ⟨rfl, x2, rfl⟩
    go_wp2
    go_ret
    exact Ret.of (by (repeat (first | exact grow_refl _ | refine grow_ext _ ?_ | refine grow_alloc _ ?_ | refine grow_drew ?_)))
  by_cases hlen : (cellsL l m).length ≤ 1000
  · exact lawCells_ok l m u t qx qy qz hr hv hlen w hl hm
  · obtain ⟨⟨n1, n2⟩, hs⟩ := right_iff.1 hr
    have C1 := Lib.hid (fun w hl hm => volume_c l m u t w hl hm)
    have C2 := Lib.hid (fun w hl hm => solidCells_c l m u t w hl hm)
    rw [show cellsR l m = ([], 4) by unfold cellsR; rw [if_pos hs, if_neg hlen]] at C2
    generalize (volR l m).1 = v1 at *
    generalize (volR l m).2 = v2 at *
    have HL := Lib.hid hl
    have HM := Lib.hid hm
    have HR := Lib.hid hr
    have HV := Lib.hid hv
    clear hl hm hr hv hs hlen
    go_enter Try.func8, Try.ntmps8
    go_wp2_with fail
    go_at_call 9; refine (awake17_c _).mono ?_; rintro e w' ⟨rfl, x0, rfl⟩
    go_wp2_with fail
    go_at_call 10; refine (right17_v l m _ _ _ HR.out _ (HL.out.below (by (repeat (first | exact grow_refl _ | refine grow_ext _ ?_ | refine grow_alloc _ ?_ | refine grow_drew ?_)))) (HM.out.below (by (repeat (first | exact grow_refl _ | refine grow_ext _ ?_ | refine grow_alloc _ ?_ | refine grow_drew ?_))))).mono ?_; rintro e w' ⟨rfl, x1, rfl⟩
    go_wp2_with fail
    go_at_call 17; refine (modest17_v l m _ _ _ HV.out (by omega) (by omega) _ (HL.out.below (by (repeat (first | exact grow_refl _ | refine grow_ext _ ?_ | refine grow_alloc _ ?_ | refine grow_drew ?_)))) (HM.out.below (by (repeat (first | exact grow_refl _ | refine grow_ext _ ?_ | refine grow_alloc _ ?_ | refine grow_drew ?_))))).mono ?_; rintro e w' ⟨rfl, x2, rfl⟩
    go_wp2_with fail
    go_at_call 36; refine Calls.mono (C2.out _ (HL.out.below (by (repeat (first | exact grow_refl _ | refine grow_ext _ ?_ | refine grow_alloc _ ?_ | refine grow_drew ?_)))) (HM.out.below (by (repeat (first | exact grow_refl _ | refine grow_ext _ ?_ | refine grow_alloc _ ?_ | refine grow_drew ?_))))) ?_; rintro e w' ⟨v0, rfl, hown1, x3, rfl⟩
    obtain ⟨a1, cap1, rfl, hc1, hc2, hc9⟩ := own_shape hown1
    clear hown1 hc2 hc9 hc1
    go_wp2_with fail
    go_at_call 18; refine (C1.out _ (HL.out.below (by (repeat (first | exact grow_refl _ | refine grow_ext _ ?_ | refine grow_alloc _ ?_ | refine grow_drew ?_)))) (HM.out.below (by (repeat (first | exact grow_refl _ | refine grow_ext _ ?_ | refine grow_alloc _ ?_ | refine grow_drew ?_))))).mono ?_; rintro e w' ⟨rfl, x4, rfl⟩
    go_wp2
    go_ret
    exact Ret.of (by (repeat (first | exact grow_refl _ | refine grow_ext _ ?_ | refine grow_alloc _ ?_ | refine grow_drew ?_)))

end Go.Proofs.Ytafkibnkpcmmgaa
