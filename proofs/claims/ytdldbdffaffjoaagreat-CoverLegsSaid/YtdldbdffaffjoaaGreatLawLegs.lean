/- CoverLegs: the walk of the law. -/
import Derived.Test.YtdldbdffaffjoaaGreatLawCv
import Derived.Test.YtdldbdffaffjoaaGreatRefCovK
import Derived.RegionTactic
namespace Go.Proofs.YtdldbdffaffjoaaGreat
open Go.RowKit
set_option maxRecDepth 20000

attribute [local go_sem] eq_arr6

set_option maxRecDepth 100000 in
set_option maxHeartbeats 4000000 in
theorem lawCoverLegs_c (q : Mb) (d : Int) (leg : Bx) (hdi : -9223372036854775808 ≤ d ∧ d ≤ 9223372036854775807) (w : World) (hq : MbAt w q) :
    Calls Tryz.prog 3 #[(.agg #[.string q.name, q.u, q.t, .int .i64 q.cover, .int .i64 q.agg, .int .i64 q.poker]), .int .i64 d, (.agg #[.int .i64 leg.lx, .int .i64 leg.ly, .int .i64 leg.lz, .int .i64 leg.hx, .int .i64 leg.hy, .int .i64 leg.hz])] w (Ret w (.bool true)) := by
  have HQ := Lib.hid hq
  clear hq
  cases hf : fewB q
  · have HF := Lib.hid hf
    clear hf
    go_enter Tryz.func3, Tryz.ntmps3
    go_wp2_with fail
    go_at_call 7; refine (awake18_c _).mono ?_; rintro e w' ⟨rfl, x0, rfl⟩
    go_wp2_with fail
    go_at_call 8; refine (few_v q _ HF.out _ (HQ.out.below (by (repeat (first | exact grow_refl _ | refine grow_ext _ ?_ | refine grow_alloc _ ?_ | refine grow_drew ?_))))).mono ?_; rintro e w' ⟨rfl, x1, rfl⟩
    go_wp2
    go_ret
    exact Ret.of (by (repeat (first | exact grow_refl _ | refine grow_ext _ ?_ | refine grow_alloc _ ?_ | refine grow_drew ?_)))
  have HF := Lib.hid hf
  clear hf
  have HO := Lib.hid (fun w hq => Of_c q d leg w hq)
  have HS := Lib.hid (fun w hq => Sides_c q d leg w hq)
  have HM := Lib.hid (fun r h w hs hl hm => refMember_v q.name q.l q.m q.u q.t q.cover q.agg q.poker r h hs w hl hm)
  by_cases h0 : givenI q d leg = 0
  · obtain ⟨h1, h2, h3⟩ := given_zero.1 h0
    have hs := mb_solid h1
    have H1 := Lib.hid (show memberB q.name q.l q.m q.cover q.agg q.poker = true from h1)
    have H2 := Lib.hid h2
    have H3 := Lib.hid h3
    have RO := Lib.hid (fun w hq => refOf_c q d leg _ rfl hs h2 h3 w hq)
    have RS := Lib.hid (fun w hq => refSides_c q d leg _ _ _ _ _ _ hs h2 h3 rfl rfl rfl rfl rfl rfl w hq)
    unfold ofI at HO
    unfold sideI at HS
    simp only [h0, if_true] at HO HS
    generalize coverC q.l q.m (coreX d leg) = c at *
    generalize sideC q.l q.m (coreX d leg) 0 = s0 at *
    generalize sideC q.l q.m (coreX d leg) 1 = s1 at *
    generalize sideC q.l q.m (coreX d leg) 2 = s2 at *
    generalize sideC q.l q.m (coreX d leg) 3 = s3 at *
    generalize sideC q.l q.m (coreX d leg) 4 = s4 at *
    generalize sideC q.l q.m (coreX d leg) 5 = s5 at *
    clear h0 h1 h2 h3 hs
    go_enter Tryz.func3, Tryz.ntmps3
    go_wp2_with fail
    go_at_call 7; refine (awake18_c _).mono ?_; rintro e w' ⟨rfl, x0, rfl⟩
    go_wp2_with fail
    go_at_call 8; refine (few_v q _ HF.out _ (HQ.out.below (by (repeat (first | exact grow_refl _ | refine grow_ext _ ?_ | refine grow_alloc _ ?_ | refine grow_drew ?_))))).mono ?_; rintro e w' ⟨rfl, x1, rfl⟩
    go_wp2_with fail
    go_at_call 9; refine (HO.out _ (HQ.out.below (by (repeat (first | exact grow_refl _ | refine grow_ext _ ?_ | refine grow_alloc _ ?_ | refine grow_drew ?_))))).mono ?_; rintro e w' ⟨rfl, x2, rfl⟩
    go_wp2_with fail
    go_at_call 10; refine (HS.out _ (HQ.out.below (by (repeat (first | exact grow_refl _ | refine grow_ext _ ?_ | refine grow_alloc _ ?_ | refine grow_drew ?_))))).mono ?_; rintro e w' ⟨rfl, x3, rfl⟩
    go_wp2_with fail
    go_at_call 11; refine (HM.out _ H1.out _ HQ.out.name (HQ.out.boxes.below (by (repeat (first | exact grow_refl _ | refine grow_ext _ ?_ | refine grow_alloc _ ?_ | refine grow_drew ?_)))) (HQ.out.holes.below (by (repeat (first | exact grow_refl _ | refine grow_ext _ ?_ | refine grow_alloc _ ?_ | refine grow_drew ?_))))).mono ?_; rintro e w' ⟨rfl, x4, rfl⟩
    go_wp2_with fail
    go_at_call 12; refine (refValidB_v leg _ H2.out _).mono ?_; rintro e w' ⟨rfl, x5, rfl⟩
    go_wp2_with fail
    go_at_call 13; refine (refSize_v d _ H3.out _).mono ?_; rintro e w' ⟨rfl, x6, rfl⟩
    go_wp2_with fail
    refine wp_region_grows (by kernel_rfl) (by kernel_rfl) ?_
    repeat (go_big_quiet_step (first
      | (go_at_call 14; exact Calls.quiet_ext (RO.out _ (HQ.out.below (by (repeat (first | exact grow_refl _ | refine grow_ext _ ?_ | refine grow_alloc _ ?_ | refine grow_drew ?_))))))
      | (go_at_call 15; exact Calls.quiet_ext (RS.out _ (HQ.out.below (by (repeat (first | exact grow_refl _ | refine grow_ext _ ?_ | refine grow_alloc _ ?_ | refine grow_drew ?_))))))))
    refine wpQuiet_nil ?_; rintro _ ⟨xq, rfl⟩
    go_wp2
    go_ret
    exact Ret.of (by (repeat (first | exact grow_refl _ | refine grow_ext _ ?_ | refine grow_alloc _ ?_ | refine grow_drew ?_)))
  · unfold ofI at HO
    unfold sideI at HS
    simp only [h0, if_false] at HO HS
    cases hm : memberB q.name q.l q.m q.cover q.agg q.poker
    · have hg : givenI q d leg = 1 := by unfold givenI mbB; rw [hm]; simp
      rw [hg] at HO HS
      have H1 := Lib.hid hm
      clear h0 hm hg
      go_enter Tryz.func3, Tryz.ntmps3
      go_wp2_with fail
      go_at_call 7; refine (awake18_c _).mono ?_; rintro e w' ⟨rfl, x0, rfl⟩
      go_wp2_with fail
      go_at_call 8; refine (few_v q _ HF.out _ (HQ.out.below (by (repeat (first | exact grow_refl _ | refine grow_ext _ ?_ | refine grow_alloc _ ?_ | refine grow_drew ?_))))).mono ?_; rintro e w' ⟨rfl, x1, rfl⟩
      go_wp2_with fail
      go_at_call 9; refine (HO.out _ (HQ.out.below (by (repeat (first | exact grow_refl _ | refine grow_ext _ ?_ | refine grow_alloc _ ?_ | refine grow_drew ?_))))).mono ?_; rintro e w' ⟨rfl, x2, rfl⟩
      go_wp2_with fail
      go_at_call 10; refine (HS.out _ (HQ.out.below (by (repeat (first | exact grow_refl _ | refine grow_ext _ ?_ | refine grow_alloc _ ?_ | refine grow_drew ?_))))).mono ?_; rintro e w' ⟨rfl, x3, rfl⟩
      go_wp2_with fail
      go_at_call 11; refine (HM.out _ H1.out _ HQ.out.name (HQ.out.boxes.below (by (repeat (first | exact grow_refl _ | refine grow_ext _ ?_ | refine grow_alloc _ ?_ | refine grow_drew ?_)))) (HQ.out.holes.below (by (repeat (first | exact grow_refl _ | refine grow_ext _ ?_ | refine grow_alloc _ ?_ | refine grow_drew ?_))))).mono ?_; rintro e w' ⟨rfl, x4, rfl⟩
      go_wp2
      go_ret
      exact Ret.of (by (repeat (first | exact grow_refl _ | refine grow_ext _ ?_ | refine grow_alloc _ ?_ | refine grow_drew ?_)))
    have H1 := Lib.hid hm
    cases hv : validB leg
    · have hg : givenI q d leg = 1 := by unfold givenI mbB; rw [hm, hv]; simp
      rw [hg] at HO HS
      have H2 := Lib.hid hv
      clear h0 hm hg hv
      go_enter Tryz.func3, Tryz.ntmps3
      go_wp2_with fail
      go_at_call 7; refine (awake18_c _).mono ?_; rintro e w' ⟨rfl, x0, rfl⟩
      go_wp2_with fail
      go_at_call 8; refine (few_v q _ HF.out _ (HQ.out.below (by (repeat (first | exact grow_refl _ | refine grow_ext _ ?_ | refine grow_alloc _ ?_ | refine grow_drew ?_))))).mono ?_; rintro e w' ⟨rfl, x1, rfl⟩
      go_wp2_with fail
      go_at_call 9; refine (HO.out _ (HQ.out.below (by (repeat (first | exact grow_refl _ | refine grow_ext _ ?_ | refine grow_alloc _ ?_ | refine grow_drew ?_))))).mono ?_; rintro e w' ⟨rfl, x2, rfl⟩
      go_wp2_with fail
      go_at_call 10; refine (HS.out _ (HQ.out.below (by (repeat (first | exact grow_refl _ | refine grow_ext _ ?_ | refine grow_alloc _ ?_ | refine grow_drew ?_))))).mono ?_; rintro e w' ⟨rfl, x3, rfl⟩
      go_wp2_with fail
      go_at_call 11; refine (HM.out _ H1.out _ HQ.out.name (HQ.out.boxes.below (by (repeat (first | exact grow_refl _ | refine grow_ext _ ?_ | refine grow_alloc _ ?_ | refine grow_drew ?_)))) (HQ.out.holes.below (by (repeat (first | exact grow_refl _ | refine grow_ext _ ?_ | refine grow_alloc _ ?_ | refine grow_drew ?_))))).mono ?_; rintro e w' ⟨rfl, x4, rfl⟩
      go_wp2_with fail
      go_at_call 12; refine (refValidB_v leg _ H2.out _).mono ?_; rintro e w' ⟨rfl, x5, rfl⟩
      go_wp2
      go_ret
      exact Ret.of (by (repeat (first | exact grow_refl _ | refine grow_ext _ ?_ | refine grow_alloc _ ?_ | refine grow_drew ?_)))
    have H2 := Lib.hid hv
    cases hd : sizeB d
    · have hg : givenI q d leg = 11 := by unfold givenI mbB; rw [hm, hv, hd]; simp
      rw [hg] at HO HS
      have H3 := Lib.hid hd
      clear h0 hm hg hv hd
      go_enter Tryz.func3, Tryz.ntmps3
      go_wp2_with fail
      go_at_call 7; refine (awake18_c _).mono ?_; rintro e w' ⟨rfl, x0, rfl⟩
      go_wp2_with fail
      go_at_call 8; refine (few_v q _ HF.out _ (HQ.out.below (by (repeat (first | exact grow_refl _ | refine grow_ext _ ?_ | refine grow_alloc _ ?_ | refine grow_drew ?_))))).mono ?_; rintro e w' ⟨rfl, x1, rfl⟩
      go_wp2_with fail
      go_at_call 9; refine (HO.out _ (HQ.out.below (by (repeat (first | exact grow_refl _ | refine grow_ext _ ?_ | refine grow_alloc _ ?_ | refine grow_drew ?_))))).mono ?_; rintro e w' ⟨rfl, x2, rfl⟩
      go_wp2_with fail
      go_at_call 10; refine (HS.out _ (HQ.out.below (by (repeat (first | exact grow_refl _ | refine grow_ext _ ?_ | refine grow_alloc _ ?_ | refine grow_drew ?_))))).mono ?_; rintro e w' ⟨rfl, x3, rfl⟩
      go_wp2_with fail
      go_at_call 11; refine (HM.out _ H1.out _ HQ.out.name (HQ.out.boxes.below (by (repeat (first | exact grow_refl _ | refine grow_ext _ ?_ | refine grow_alloc _ ?_ | refine grow_drew ?_)))) (HQ.out.holes.below (by (repeat (first | exact grow_refl _ | refine grow_ext _ ?_ | refine grow_alloc _ ?_ | refine grow_drew ?_))))).mono ?_; rintro e w' ⟨rfl, x4, rfl⟩
      go_wp2_with fail
      go_at_call 12; refine (refValidB_v leg _ H2.out _).mono ?_; rintro e w' ⟨rfl, x5, rfl⟩
      go_wp2_with fail
      go_at_call 13; refine (refSize_v d _ H3.out _).mono ?_; rintro e w' ⟨rfl, x6, rfl⟩
      go_wp2
      go_ret
      exact Ret.of (by (repeat (first | exact grow_refl _ | refine grow_ext _ ?_ | refine grow_alloc _ ?_ | refine grow_drew ?_)))
    · exact absurd (given_zero.2 ⟨hm, hv, hd⟩) h0

end Go.Proofs.YtdldbdffaffjoaaGreat
