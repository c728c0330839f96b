/- SolidHalves: the law. -/
import Derived.Test.YtafkibnkpcmmgaaLawHalves
namespace Go.Proofs.Ytafkibnkpcmmgaa
open Go.RowKit

set_option maxRecDepth 100000 in
set_option maxHeartbeats 2000000 in
theorem lawSolidHalves_c (l m : List Bx) (u t : Value) (b : Bx) (qa qn qx qy : Int) (ha : 0 ≤ qa ∧ qa ≤ 255) (hn : 0 ≤ qn ∧ qn ≤ 65535) (hx : 0 ≤ qx ∧ qx ≤ 65535) (hy : 0 ≤ qy ∧ qy ≤ 65535)
    (w : World) (hl : Boxes w u l) (hm : Boxes w t m) :
    Calls Try.prog 3 #[.agg #[u, t], (.agg #[.int .i64 b.lx, .int .i64 b.ly, .int .i64 b.lz, .int .i64 b.hx, .int .i64 b.hy, .int .i64 b.hz]), .int .u8 qa, .int .u16 qn, .int .u16 qx, .int .u16 qy] w (Ret w (.bool true)) := by
  cases hr : rightB l m
  · have HL := Lib.hid hl
    have HM := Lib.hid hm
    have HR := Lib.hid hr
    clear hl hm hr
    go_enter Try.func3, Try.ntmps3
    go_wp2_with fail
    go_at_call 9; refine (awake17_c _).mono ?_; rintro e w' ⟨rfl, x0, rfl⟩
    go_wp2_with fail
    go_at_call 10; refine (right17_v l m _ _ _ HR.out _ (HL.out.below (by (repeat (first | exact grow_refl _ | refine grow_ext _ ?_ | refine grow_alloc _ ?_ | refine grow_drew ?_)))) (HM.out.below (by (repeat (first | exact grow_refl _ | refine grow_ext _ ?_ | refine grow_alloc _ ?_ | refine grow_drew ?_))))).mono ?_; rintro e w' ⟨rfl, x1, rfl⟩
    go_wp2
    go_ret
    exact Ret.of (by (repeat (first | exact grow_refl _ | refine grow_ext _ ?_ | refine grow_alloc _ ?_ | refine grow_drew ?_)))
  cases hv : validB b
  · have HL := Lib.hid hl
    have HM := Lib.hid hm
    have HR := Lib.hid hr
    have HV := Lib.hid hv
    clear hl hm hr hv
    go_enter Try.func3, Try.ntmps3
    go_wp2_with fail
    go_at_call 9; refine (awake17_c _).mono ?_; rintro e w' ⟨rfl, x0, rfl⟩
    go_wp2_with fail
    go_at_call 10; refine (right17_v l m _ _ _ HR.out _ (HL.out.below (by (repeat (first | exact grow_refl _ | refine grow_ext _ ?_ | refine grow_alloc _ ?_ | refine grow_drew ?_)))) (HM.out.below (by (repeat (first | exact grow_refl _ | refine grow_ext _ ?_ | refine grow_alloc _ ?_ | refine grow_drew ?_))))).mono ?_; rintro e w' ⟨rfl, x1, rfl⟩
    go_wp2_with fail
    go_at_call 11; refine (refValid17_v b _ HV.out _).mono ?_; rintro e w' ⟨rfl, x2, rfl⟩
    go_wp2
    go_ret
    exact Ret.of (by (repeat (first | exact grow_refl _ | refine grow_ext _ ?_ | refine grow_alloc _ ?_ | refine grow_drew ?_)))
  exact lawHalves_ok l m u t b qa qn qx qy ha hn hx hy hr hv w hl hm

end Go.Proofs.Ytafkibnkpcmmgaa
