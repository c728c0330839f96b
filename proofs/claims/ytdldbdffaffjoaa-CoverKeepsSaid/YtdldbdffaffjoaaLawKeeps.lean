/- CoverKeeps: the walk of the law. -/
import Derived.Test.YtdldbdffaffjoaaLawCv
namespace Go.Proofs.Ytdldbdffaffjoaa
open Go.RowKit

attribute [local go_sem] eq_arr6

theorem grown_core (leg : Bx) (d n : Int) : grownX leg (halfI d + n) = grownX (coreX d leg) n := by
  unfold coreX; simp only [grownX, Bx.mk.injEq]; omega
theorem keeps_facts {l m : List Bx} {d : Int} {leg : Bx} (hs : solidB l m = true) (hv : validB leg = true) (hd : sizeB d = true) {c : Int} (hc : coverC l m (coreX d leg) = c) :
    (-1 ≤ c ∧ c ≤ 1048576) ∧ (0 ≤ c → containsS l m (grownX leg (halfI d + c)) = true ∧ containsS l m (grownX leg (halfI d + c + 1)) = false) ∧
      (c < 0 → containsS l m (grownX leg (halfI d)) = false) := by
  have ho := core_ord hv hd
  have h1 := topC_in fun n => containsS l m (grownX (coreX d leg) n)
  have h2 := cover_top (m := m) (solid_iff.1 hs).2.2.1 ho
  rw [hc] at h2
  have h3 : -1 ≤ c := by rw [← hc]; exact h1.1
  refine ⟨⟨h3, h2⟩, fun h0 => ⟨?_, ?_⟩, fun h0 => ?_⟩
  · have := topC_has (p := fun n => containsS l m (grownX (coreX d leg) n)) (by show 0 ≤ coverC l m (coreX d leg); omega)
    rw [show (topC fun n => containsS l m (grownX (coreX d leg) n)) = c from hc, Int.toNat_of_nonneg h0] at this
    rw [grown_core]; exact this
  · have e : (topC fun n => containsS l m (grownX (coreX d leg) n)) = c := hc
    have := topC_next (p := fun n => containsS l m (grownX (coreX d leg) n)) (by rw [e]; omega)
    rw [e, Int.toNat_of_nonneg (by omega)] at this
    rw [Int.add_assoc, grown_core]; exact this
  · cases hn : containsS l m (grownX leg (halfI d))
    · rfl
    · have := topC_ge (p := fun n => containsS l m (grownX (coreX d leg) n)) (c := 0) (by decide) (by rw [Int.ofNat_zero, grown_zero]; exact hn)
      rw [show (topC fun n => containsS l m (grownX (coreX d leg) n)) = c from hc] at this
      omega

set_option maxRecDepth 100000 in
set_option maxHeartbeats 4000000 in
theorem lawCoverKeeps_c (q : Mb) (d : Int) (leg : Bx) (hdi : -9223372036854775808 ≤ d ∧ d ≤ 9223372036854775807) (w : World) (hq : MbAt w q) :
    Calls Try.prog 5 #[(.agg #[.string q.name, q.u, q.t, .int .i64 q.cover, .int .i64 q.agg, .int .i64 q.poker]), .int .i64 d, (.agg #[.int .i64 leg.lx, .int .i64 leg.ly, .int .i64 leg.lz, .int .i64 leg.hx, .int .i64 leg.hy, .int .i64 leg.hz])] w (Ret w (.bool true)) := by
  have HQ := Lib.hid hq
  clear hq
  cases hf : fewB q
  · have HF := Lib.hid hf
    clear hf
    go_enter Try.func5, Try.ntmps5
    go_wp2_with fail
    go_at_call 6; refine (awake18_c _).mono ?_; rintro e w' ⟨rfl, x0, rfl⟩
    go_wp2_with fail
    go_at_call 7; refine (few_v q _ HF.out _ (HQ.out.below (by (repeat (first | exact grow_refl _ | refine grow_ext _ ?_ | refine grow_alloc _ ?_ | refine grow_drew ?_))))).mono ?_; rintro e w' ⟨rfl, x1, rfl⟩
    go_wp2
    go_ret
    exact Ret.of (by (repeat (first | exact grow_refl _ | refine grow_ext _ ?_ | refine grow_alloc _ ?_ | refine grow_drew ?_)))
  have HF := Lib.hid hf
  clear hf
  have HO := Lib.hid (fun w hq => Of_c q d leg w hq)
  by_cases h0 : givenI q d leg = 0
  · obtain ⟨h1, h2, h3⟩ := given_zero.1 h0
    have hs := mb_solid h1
    have HR := Lib.hid (fun w => Round_c d w)
    unfold roundR at HR
    rw [if_pos h3] at HR
    have HS := Lib.hid (fun w hq => Sides_c q d leg w hq)
    have e : ofI q d leg = coverC q.l q.m (coreX d leg) := by unfold ofI; rw [if_pos h0]
    have g0 : ∀ i, coverC q.l q.m (coreX d leg) ≤ sideI q d leg i := fun i => by unfold sideI; rw [if_pos h0]; exact side_ge (core_ord h2 h3) i
    have gn : coverC q.l q.m (coreX d leg) < 0 → ∀ i, sideI q d leg i = -1 := fun hn i => by
      unfold sideI
      rw [if_pos h0]
      refine side_none (core_ord h2 h3) i ?_
      exact (keeps_facts hs h2 h3 rfl).2.2 hn
    rw [e, h0] at HO
    rw [h0] at HS
    obtain ⟨c, hc⟩ : ∃ c, coverC q.l q.m (coreX d leg) = c := ⟨_, rfl⟩
    obtain ⟨k1, k2, k3⟩ := keeps_facts hs h2 h3 hc
    rw [hc] at HO g0 gn
    have hh := halfD_in h3
    rw [show (d + 1) / 2 = halfI d from rfl] at HR
    have HL := Lib.hid (fun n r (hr : containsS q.l q.m (grownX leg n) = r) (hn : 0 ≤ n) w hq => heldL_c q leg n r hr hs h2 hn w hq)
    generalize halfI d = half at *
    by_cases hn : c < 0
    · have hc1 : c = -1 := by omega
      subst hc1
      have k4 := Lib.hid (k3 (by omega))
      have g1 := gn (by omega)
      simp only [g1] at HS
      clear e g0 gn hc k1 k2 k3 h0 h1 h2 h3 hs g1
      go_enter Try.func5, Try.ntmps5
      go_wp2_with fail
      go_at_call 6; refine (awake18_c _).mono ?_; rintro e w' ⟨rfl, x0, rfl⟩
      go_wp2_with fail
      go_at_call 7; refine (few_v q _ HF.out _ (HQ.out.below (by (repeat (first | exact grow_refl _ | refine grow_ext _ ?_ | refine grow_alloc _ ?_ | refine grow_drew ?_))))).mono ?_; rintro e w' ⟨rfl, x1, rfl⟩
      go_wp2_with fail
      go_at_call 8; refine (HO.out _ (HQ.out.below (by (repeat (first | exact grow_refl _ | refine grow_ext _ ?_ | refine grow_alloc _ ?_ | refine grow_drew ?_))))).mono ?_; rintro e w' ⟨rfl, x2, rfl⟩
      go_wp2_with fail
      go_at_call 13; refine (HR.out _).mono ?_; rintro e w' ⟨rfl, x3, rfl⟩
      go_wp2_with fail
      go_at_call 9; refine (HS.out _ (HQ.out.below (by (repeat (first | exact grow_refl _ | refine grow_ext _ ?_ | refine grow_alloc _ ?_ | refine grow_drew ?_))))).mono ?_; rintro e w' ⟨rfl, x4, rfl⟩
      go_wp2_with fail
      go_at_call 14; refine (HL.out _ _ k4.out (by omega) _ (HQ.out.below (by (repeat (first | exact grow_refl _ | refine grow_ext _ ?_ | refine grow_alloc _ ?_ | refine grow_drew ?_))))).mono ?_; rintro e w' ⟨rfl, x5, rfl⟩
      go_wp2
      go_ret
      exact Ret.of (by (repeat (first | exact grow_refl _ | refine grow_ext _ ?_ | refine grow_alloc _ ?_ | refine grow_drew ?_)))
    · obtain ⟨k5, k6⟩ := k2 (by omega)
      have K5 := Lib.hid k5
      have K6 := Lib.hid k6
      have HM := Lib.hid (fun w v hv => minI_c [sideI q d leg 0, sideI q d leg 1, sideI q d leg 2, sideI q d leg 3, sideI q d leg 4, sideI q d leg 5] c v (by simp) (by simp [g0]) w hv)
      have hn0 : 0 ≤ c := by omega
      generalize sideI q d leg 0 = s0 at *
      generalize sideI q d leg 1 = s1 at *
      generalize sideI q d leg 2 = s2 at *
      generalize sideI q d leg 3 = s3 at *
      generalize sideI q d leg 4 = s4 at *
      generalize sideI q d leg 5 = s5 at *
      clear e g0 gn hc k2 k3 k5 k6 h0 h1 h2 h3 hs hn
      have d1 : decide (c < -1) = false := by simp; omega
      have d2 : decide (c < 0) = false := by simp; omega
      go_enter Try.func5, Try.ntmps5
      go_wp2_with fail
      go_at_call 6; refine (awake18_c _).mono ?_; rintro e w' ⟨rfl, x0, rfl⟩
      go_wp2_with fail
      go_at_call 7; refine (few_v q _ HF.out _ (HQ.out.below (by (repeat (first | exact grow_refl _ | refine grow_ext _ ?_ | refine grow_alloc _ ?_ | refine grow_drew ?_))))).mono ?_; rintro e w' ⟨rfl, x1, rfl⟩
      go_wp2_with fail
      go_at_call 8; refine (HO.out _ (HQ.out.below (by (repeat (first | exact grow_refl _ | refine grow_ext _ ?_ | refine grow_alloc _ ?_ | refine grow_drew ?_))))).mono ?_; rintro e w' ⟨rfl, x2, rfl⟩
      go_wp2_with fail
      go_at_call 13; refine (HR.out _).mono ?_; rintro e w' ⟨rfl, x3, rfl⟩
      go_wp2_with fail
      go_at_call 9; refine (HS.out _ (HQ.out.below (by (repeat (first | exact grow_refl _ | refine grow_ext _ ?_ | refine grow_alloc _ ?_ | refine grow_drew ?_))))).mono ?_; rintro e w' ⟨rfl, x4, rfl⟩
      go_wp2_with fail
      go_at_call 14; refine (HL.out _ _ K5.out (by omega) _ (HQ.out.below (by (repeat (first | exact grow_refl _ | refine grow_ext _ ?_ | refine grow_alloc _ ?_ | refine grow_drew ?_))))).mono ?_; rintro e w' ⟨rfl, x5, rfl⟩
      go_wp2_with fail
      go_at_call 14; refine (HL.out _ _ K6.out (by omega) _ (HQ.out.below (by (repeat (first | exact grow_refl _ | refine grow_ext _ ?_ | refine grow_alloc _ ?_ | refine grow_drew ?_))))).mono ?_; rintro e w' ⟨rfl, x6, rfl⟩
      go_wp2_with fail
      go_at_call 15
      refine Calls.mono (HM.out _ _ ⟨_, 0, 6, rfl, Nat.le_refl 6, by decide, fun i hi => ?_⟩) ?_
      · have hi6 : i < 6 := hi
        rcases (show i = 0 ∨ i = 1 ∨ i = 2 ∨ i = 3 ∨ i = 4 ∨ i = 5 by omega) with rfl | rfl | rfl | rfl | rfl | rfl
        all_goals simp [go_sem]
      rintro e w' ⟨m, rfl, hm, x7, rfl⟩
      have d3 : decide (c ≤ m) = true := by simp; omega
      clear hm
      go_wp2
      go_ret
      exact Ret.of (by (repeat (first | exact grow_refl _ | refine grow_ext _ ?_ | refine grow_alloc _ ?_ | refine grow_drew ?_)))
  · have e : ofI q d leg = 0 := by unfold ofI; rw [if_neg h0]
    rw [e] at HO
    clear e
    generalize givenI q d leg = g at *
    have d1 : (g != 0) = true := by simpa using h0
    clear h0
    go_enter Try.func5, Try.ntmps5
    go_wp2_with fail
    go_at_call 6; refine (awake18_c _).mono ?_; rintro e w' ⟨rfl, x0, rfl⟩
    go_wp2_with fail
    go_at_call 7; refine (few_v q _ HF.out _ (HQ.out.below (by (repeat (first | exact grow_refl _ | refine grow_ext _ ?_ | refine grow_alloc _ ?_ | refine grow_drew ?_))))).mono ?_; rintro e w' ⟨rfl, x1, rfl⟩
    go_wp2_with fail
    go_at_call 8; refine (HO.out _ (HQ.out.below (by (repeat (first | exact grow_refl _ | refine grow_ext _ ?_ | refine grow_alloc _ ?_ | refine grow_drew ?_))))).mono ?_; rintro e w' ⟨rfl, x2, rfl⟩
    go_wp2
    go_ret
    exact Ret.of (by (repeat (first | exact grow_refl _ | refine grow_ext _ ?_ | refine grow_alloc _ ?_ | refine grow_drew ?_)))

end Go.Proofs.Ytdldbdffaffjoaa
