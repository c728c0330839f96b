/- GapsForms: the walk of the law. -/
import Derived.Test.YtofjopdcbmaijaaAwake21
import Derived.Test.YtofjopdcbmaijaaRefSz
namespace Go.Proofs.Ytofjopdcbmaijaa
open Go.RowKit
set_option maxRecDepth 20000

theorem refAgg_v (a : Int) (r : Bool) (h : inI a 1 100 = r) (w : World) : Calls Try.prog 11 #[.int .i64 a] w (Ret w (.bool r)) := by
  unfold inI at h
  by_cases h1 : 1 ≤ a
  · rw [decide_eq_true h1, Bool.true_and] at h
    have HR := Lib.hid h
    clear h
    go_enter Try.func11, Try.ntmps11
    go_wp2
    go_ret
    rw [← HR.out]
    exact Ret.of (by (repeat (first | exact grow_refl _ | refine grow_ext _ ?_ | refine grow_alloc _ ?_ | refine grow_drew ?_)))
  · rw [decide_eq_false h1, Bool.false_and] at h
    subst h
    go_enter Try.func11, Try.ntmps11
    go_wp2
    go_ret
    exact Ret.of (by (repeat (first | exact grow_refl _ | refine grow_ext _ ?_ | refine grow_alloc _ ?_ | refine grow_drew ?_)))
theorem refLeast21_c (d a : Int) (ha : 1 ≤ a ∧ a ≤ 100) (w : World) : Calls Try.prog 12 #[.int .i64 d, .int .i64 a] w (Ret w (.int .i64 (leastI d a))) := by
  have HE := Lib.hid (show leastI d a = max d (max (a + 5) 20) from rfl)
  obtain ⟨a1, a2⟩ := ha
  go_enter Try.func12, Try.ntmps12
  go_wp2
  go_ret
  rw [HE.out]
  exact Ret.of (by (repeat (first | exact grow_refl _ | refine grow_ext _ ?_ | refine grow_alloc _ ?_ | refine grow_drew ?_)))
set_option maxHeartbeats 1000000 in
theorem refMost21_v (wd c d a r : Int) (hr : mostI wd c d a = r) (hs : sizeB d = true) (hw : 1 ≤ wd ∧ wd ≤ 1048576) (hc : 0 ≤ c ∧ c ≤ 200) (ha : 1 ≤ a ∧ a ≤ 100) (w : World) : Calls Try.prog 13 #[.int .i64 wd, .int .i64 c, .int .i64 d, .int .i64 a] w (Ret w (.int .i64 r)) := by
  have HL := Lib.hid (fun w => refLeast21_c d a ha w)
  have g1 := leastI_ge d a
  have g2 := leastI_le hs ha.2
  have hd := size_iff.1 hs
  have d1 : 6 ≤ d ∧ d ≤ 40 := by omega
  obtain ⟨w1, w2⟩ := hw
  obtain ⟨c1, c2⟩ := hc
  obtain ⟨d1, d2⟩ := d1
  unfold mostI at hr
  clear hs hd ha
  generalize leastI d a = L at *
  by_cases hlt : wd - 2 * c < d
  · rw [if_pos hlt] at hr
    subst hr
    have hlt2 : wd - 2 * c + L < d + L := by omega
    clear hlt
    go_enter Try.func13, Try.ntmps13
    go_wp2_with fail
    go_at_call 12; refine (HL.out _).mono ?_; rintro e w' ⟨rfl, x1, rfl⟩
    go_wp2
    go_ret
    exact Ret.of (by (repeat (first | exact grow_refl _ | refine grow_ext _ ?_ | refine grow_alloc _ ?_ | refine grow_drew ?_)))
  · rw [if_neg hlt] at hr
    subst hr
    have hlt2 : d + L ≤ wd - 2 * c + L := by omega
    have k1 : 0 ≤ wd - 2 * c + L := by omega
    have k2 : 0 < d + L := by omega
    have k3 : 0 ≤ (wd - 2 * c + L) / (d + L) ∧ (wd - 2 * c + L) / (d + L) ≤ wd - 2 * c + L := ⟨Int.ediv_nonneg k1 (by omega), Int.ediv_le_self _ k1⟩
    have k4 : (wd - 2 * c + L).tdiv (d + L) = (wd - 2 * c + L) / (d + L) := Int.tdiv_eq_ediv_of_nonneg k1
    clear hlt
    go_enter Try.func13, Try.ntmps13
    go_wp2_with fail
    go_at_call 12; refine (HL.out _).mono ?_; rintro e w' ⟨rfl, x1, rfl⟩
    go_wp2
    go_ret
    exact Ret.of (by (repeat (first | exact grow_refl _ | refine grow_ext _ ?_ | refine grow_alloc _ ?_ | refine grow_drew ?_)))

set_option maxHeartbeats 4000000 in
theorem lawGapsForms_c (wd c d a : Int) (_ : -9223372036854775808 ≤ wd ∧ wd ≤ 9223372036854775807) (_ : -9223372036854775808 ≤ c ∧ c ≤ 9223372036854775807) (_ : -9223372036854775808 ≤ d ∧ d ≤ 9223372036854775807) (_ : -9223372036854775808 ≤ a ∧ a ≤ 9223372036854775807) (w : World) :
    Calls Try.prog 3 #[.int .i64 wd, .int .i64 c, .int .i64 d, .int .i64 a] w (Ret w (.bool true)) := by
  have HW := Lib.hid (fun w => awake21_c w)
  have HL := Lib.hid (fun w => gLeast_c d a w)
  have HM := Lib.hid (fun r e h w => gMost_v wd c d a r e h w)
  have HZ := Lib.hid (fun r h w => refSize_v d r h w)
  have HA := Lib.hid (fun r h w => refAgg_v a r h w)
  unfold leastE at HL
  unfold mostE at HM
  cases hs : sizeB d
  · rw [hs] at HL HM
    simp only [Bool.false_eq_true, if_false] at HL HM
    have HS := Lib.hid hs
    clear hs
    go_enter Try.func3, Try.ntmps3
    go_wp2_with fail
    go_at_call 7; refine (HW.out _).mono ?_; rintro e w' ⟨rfl, x1, rfl⟩
    go_wp2_with fail
    go_at_call 8; refine (HL.out _).mono ?_; rintro e w' ⟨rfl, x2, rfl⟩
    go_wp2_with fail
    go_at_call 9; refine (HM.out _ _ rfl _).mono ?_; rintro e w' ⟨rfl, x3, rfl⟩
    go_wp2_with fail
    go_at_call 10; refine (HZ.out _ HS.out _).mono ?_; rintro e w' ⟨rfl, x4, rfl⟩
    go_wp2
    go_ret
    exact Ret.of (by (repeat (first | exact grow_refl _ | refine grow_ext _ ?_ | refine grow_alloc _ ?_ | refine grow_drew ?_)))
  rw [hs] at HL HM
  simp only [if_true] at HL HM
  have HS := Lib.hid hs
  cases ha : inI a 1 100
  · rw [ha] at HL HM
    simp only [Bool.false_eq_true, if_false, and_false] at HL HM
    have H3 := Lib.hid ha
    clear hs ha
    go_enter Try.func3, Try.ntmps3
    go_wp2_with fail
    go_at_call 7; refine (HW.out _).mono ?_; rintro e w' ⟨rfl, x1, rfl⟩
    go_wp2_with fail
    go_at_call 8; refine (HL.out _).mono ?_; rintro e w' ⟨rfl, x2, rfl⟩
    go_wp2_with fail
    go_at_call 9; refine (HM.out _ _ rfl _).mono ?_; rintro e w' ⟨rfl, x3, rfl⟩
    go_wp2_with fail
    go_at_call 10; refine (HZ.out _ HS.out _).mono ?_; rintro e w' ⟨rfl, x4, rfl⟩
    go_wp2_with fail
    go_at_call 11; refine (HA.out _ H3.out _).mono ?_; rintro e w' ⟨rfl, x5, rfl⟩
    go_wp2
    go_ret
    exact Ret.of (by (repeat (first | exact grow_refl _ | refine grow_ext _ ?_ | refine grow_alloc _ ?_ | refine grow_drew ?_)))
  rw [ha] at HL HM
  simp only [if_true, and_true] at HL HM
  have H3 := Lib.hid ha
  have HRL := Lib.hid (fun w => refLeast21_c d a (inI_iff.1 ha) w)
  by_cases hwc : inI wd 1 1048576 = true ∧ inI c 0 200 = true
  · simp only [if_pos hwc] at HM
    have HRM := Lib.hid (fun r hr w => refMost21_v wd c d a r hr hs (inI_iff.1 hwc.1) (inI_iff.1 hwc.2) (inI_iff.1 ha) w)
    obtain ⟨w1, w2⟩ := inI_iff.1 hwc.1
    obtain ⟨c1, c2⟩ := inI_iff.1 hwc.2
    obtain ⟨M, hM⟩ : ∃ M, mostI wd c d a = M := ⟨_, rfl⟩
    rw [hM] at HM HRM
    clear hs ha hwc hM
    generalize leastI d a = L at *
    go_enter Try.func3, Try.ntmps3
    go_wp2_with fail
    go_at_call 7; refine (HW.out _).mono ?_; rintro e w' ⟨rfl, x1, rfl⟩
    go_wp2_with fail
    go_at_call 8; refine (HL.out _).mono ?_; rintro e w' ⟨rfl, x2, rfl⟩
    go_wp2_with fail
    go_at_call 9; refine (HM.out _ _ rfl _).mono ?_; rintro e w' ⟨rfl, x3, rfl⟩
    go_wp2_with fail
    go_at_call 10; refine (HZ.out _ HS.out _).mono ?_; rintro e w' ⟨rfl, x4, rfl⟩
    go_wp2_with fail
    go_at_call 11; refine (HA.out _ H3.out _).mono ?_; rintro e w' ⟨rfl, x5, rfl⟩
    go_wp2_with fail
    go_at_call 12; refine (HRL.out _).mono ?_; rintro e w' ⟨rfl, x6, rfl⟩
    go_wp2_with fail
    go_at_call 13; refine (HRM.out _ rfl _).mono ?_; rintro e w' ⟨rfl, x7, rfl⟩
    go_wp2
    go_ret
    exact Ret.of (by (repeat (first | exact grow_refl _ | refine grow_ext _ ?_ | refine grow_alloc _ ?_ | refine grow_drew ?_)))
  · simp only [if_neg hwc] at HM
    have hc4 : wd < 1 ∨ (1 ≤ wd ∧ 1048576 < wd) ∨ ((1 ≤ wd ∧ wd ≤ 1048576) ∧ c < 0) ∨ ((1 ≤ wd ∧ wd ≤ 1048576) ∧ 0 ≤ c ∧ 200 < c) := by
      rw [inI_iff, inI_iff] at hwc; omega
    generalize leastI d a = L at *
    clear hs ha hwc
    rcases hc4 with h | ⟨h, h'⟩ | ⟨⟨h, h'⟩, h2⟩ | ⟨⟨h, h'⟩, h2, h3⟩
    · go_enter Try.func3, Try.ntmps3
      go_wp2_with fail
      go_at_call 7; refine (HW.out _).mono ?_; rintro e w' ⟨rfl, x1, rfl⟩
      go_wp2_with fail
      go_at_call 8; refine (HL.out _).mono ?_; rintro e w' ⟨rfl, x2, rfl⟩
      go_wp2_with fail
      go_at_call 9; refine (HM.out _ _ rfl _).mono ?_; rintro e w' ⟨rfl, x3, rfl⟩
      go_wp2_with fail
      go_at_call 10; refine (HZ.out _ HS.out _).mono ?_; rintro e w' ⟨rfl, x4, rfl⟩
      go_wp2_with fail
      go_at_call 11; refine (HA.out _ H3.out _).mono ?_; rintro e w' ⟨rfl, x5, rfl⟩
      go_wp2_with fail
      go_at_call 12; refine (HRL.out _).mono ?_; rintro e w' ⟨rfl, x6, rfl⟩
      go_wp2
      go_ret
      exact Ret.of (by (repeat (first | exact grow_refl _ | refine grow_ext _ ?_ | refine grow_alloc _ ?_ | refine grow_drew ?_)))
    · go_enter Try.func3, Try.ntmps3
      go_wp2_with fail
      go_at_call 7; refine (HW.out _).mono ?_; rintro e w' ⟨rfl, x1, rfl⟩
      go_wp2_with fail
      go_at_call 8; refine (HL.out _).mono ?_; rintro e w' ⟨rfl, x2, rfl⟩
      go_wp2_with fail
      go_at_call 9; refine (HM.out _ _ rfl _).mono ?_; rintro e w' ⟨rfl, x3, rfl⟩
      go_wp2_with fail
      go_at_call 10; refine (HZ.out _ HS.out _).mono ?_; rintro e w' ⟨rfl, x4, rfl⟩
      go_wp2_with fail
      go_at_call 11; refine (HA.out _ H3.out _).mono ?_; rintro e w' ⟨rfl, x5, rfl⟩
      go_wp2_with fail
      go_at_call 12; refine (HRL.out _).mono ?_; rintro e w' ⟨rfl, x6, rfl⟩
      go_wp2
      go_ret
      exact Ret.of (by (repeat (first | exact grow_refl _ | refine grow_ext _ ?_ | refine grow_alloc _ ?_ | refine grow_drew ?_)))
    · go_enter Try.func3, Try.ntmps3
      go_wp2_with fail
      go_at_call 7; refine (HW.out _).mono ?_; rintro e w' ⟨rfl, x1, rfl⟩
      go_wp2_with fail
      go_at_call 8; refine (HL.out _).mono ?_; rintro e w' ⟨rfl, x2, rfl⟩
      go_wp2_with fail
      go_at_call 9; refine (HM.out _ _ rfl _).mono ?_; rintro e w' ⟨rfl, x3, rfl⟩
      go_wp2_with fail
      go_at_call 10; refine (HZ.out _ HS.out _).mono ?_; rintro e w' ⟨rfl, x4, rfl⟩
      go_wp2_with fail
      go_at_call 11; refine (HA.out _ H3.out _).mono ?_; rintro e w' ⟨rfl, x5, rfl⟩
      go_wp2_with fail
      go_at_call 12; refine (HRL.out _).mono ?_; rintro e w' ⟨rfl, x6, rfl⟩
      go_wp2
      go_ret
      exact Ret.of (by (repeat (first | exact grow_refl _ | refine grow_ext _ ?_ | refine grow_alloc _ ?_ | refine grow_drew ?_)))
    · go_enter Try.func3, Try.ntmps3
      go_wp2_with fail
      go_at_call 7; refine (HW.out _).mono ?_; rintro e w' ⟨rfl, x1, rfl⟩
      go_wp2_with fail
      go_at_call 8; refine (HL.out _).mono ?_; rintro e w' ⟨rfl, x2, rfl⟩
      go_wp2_with fail
      go_at_call 9; refine (HM.out _ _ rfl _).mono ?_; rintro e w' ⟨rfl, x3, rfl⟩
      go_wp2_with fail
      go_at_call 10; refine (HZ.out _ HS.out _).mono ?_; rintro e w' ⟨rfl, x4, rfl⟩
      go_wp2_with fail
      go_at_call 11; refine (HA.out _ H3.out _).mono ?_; rintro e w' ⟨rfl, x5, rfl⟩
      go_wp2_with fail
      go_at_call 12; refine (HRL.out _).mono ?_; rintro e w' ⟨rfl, x6, rfl⟩
      go_wp2
      go_ret
      exact Ret.of (by (repeat (first | exact grow_refl _ | refine grow_ext _ ?_ | refine grow_alloc _ ?_ | refine grow_drew ?_)))

end Go.Proofs.Ytofjopdcbmaijaa
