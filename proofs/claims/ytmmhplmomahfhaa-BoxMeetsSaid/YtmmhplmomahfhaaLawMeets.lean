/- BoxMeets: the walk of the law. -/
import Derived.Test.YtmmhplmomahfhaaAwake
import Derived.Test.YtmmhplmomahfhaaRefD
import Derived.Test.YtmmhplmomahfhaaHull
namespace Go.Proofs.Ytmmhplmomahfhaa
open Go.RowKit

theorem meets_gap {a b : Bx} (ha : validB a = true) (hb : validB b = true) : validB (meetX a b) = true ↔ gapI a b ≤ 0 := by
  have h1 := valid_iff.1 ha
  have h2 := valid_iff.1 hb
  rw [valid_iff]
  unfold gapI alongI Bx.lo Bx.hi meetX
  simp
  omega
theorem square_zero {a b : Bx} (ha : validB a = true) (hb : validB b = true) (h : gapI a b ≤ 0) : squareI a b = 0 := by
  unfold gapI at h
  unfold squareI
  rw [show max 0 (alongI a b 0) = 0 by omega, show max 0 (alongI a b 1) = 0 by omega, show max 0 (alongI a b 2) = 0 by omega]
  rfl
theorem square_pos {a b : Bx} (ha : validB a = true) (hb : validB b = true) (h : ¬ gapI a b ≤ 0) : 0 < squareI a b := by
  unfold gapI at h
  have q0 := pos_sq ha hb 0
  have q1 := pos_sq ha hb 1
  have q2 := pos_sq ha hb 2
  have key : ∀ n : Int, 0 < n → 0 < max 0 n * max 0 n := fun n hn => by
    rw [show max 0 n = n by omega]; exact Int.mul_pos hn hn
  unfold squareI
  rcases Int.lt_or_le 0 (alongI a b 0) with h0 | h0
  · have := key _ h0; omega
  · rcases Int.lt_or_le 0 (alongI a b 1) with h1 | h1
    · have := key _ h1; omega
    · have := key (alongI a b 2) (by omega); omega
theorem hull_two (a b : Bx) : hullX [a, b] = joinX a b := by
  unfold hullX joinX
  simp [joinX]
theorem join_valid {a b : Bx} (ha : validB a = true) (hb : validB b = true) : validB (joinX a b) = true := by
  have h1 := valid_iff.1 ha
  have h2 := valid_iff.1 hb
  rw [valid_iff]; unfold joinX; simp only; omega
theorem join_left (a b : Bx) : containsB (joinX a b) a = true := by rw [contains_iff]; unfold joinX; simp only; omega
theorem join_right (a b : Bx) : containsB (joinX a b) b = true := by rw [contains_iff]; unfold joinX; simp only; omega
theorem meet_left (a b : Bx) : containsB a (meetX a b) = true := by rw [contains_iff]; unfold meetX; simp only; omega
theorem meet_right (a b : Bx) : containsB b (meetX a b) = true := by rw [contains_iff]; unfold meetX; simp only; omega

set_option maxRecDepth 100000 in
set_option maxHeartbeats 4000000 in
theorem lawBoxMeets_c (a b : Bx) (w : World) : Calls Try.prog 8 #[(.agg #[.int .i64 a.lx, .int .i64 a.ly, .int .i64 a.lz, .int .i64 a.hx, .int .i64 a.hy, .int .i64 a.hz]), (.agg #[.int .i64 b.lx, .int .i64 b.ly, .int .i64 b.lz, .int .i64 b.hx, .int .i64 b.hy, .int .i64 b.hz])] w (Ret w (.bool true)) := by
  cases ha : validB a
  · go_enter Try.func8, Try.ntmps8
    go_wp2_with fail
    go_at_call 10; refine (awake_c _).mono ?_; rintro e w' ⟨rfl, x, rfl⟩
    go_wp2_with fail
    go_at_call 14; refine (refValid_c a _).mono ?_; rintro e w' ⟨rfl, x, rfl⟩
    rw [ha]
    go_wp2
    go_ret
    exact Ret.of (by (repeat (first | exact grow_refl _ | refine grow_ext _ ?_ | refine grow_alloc _ ?_ | refine grow_drew ?_)))
  cases hb : validB b
  · go_enter Try.func8, Try.ntmps8
    go_wp2_with fail
    go_at_call 10; refine (awake_c _).mono ?_; rintro e w' ⟨rfl, x, rfl⟩
    go_wp2_with fail
    go_at_call 14; refine (refValid_c a _).mono ?_; rintro e w' ⟨rfl, x, rfl⟩
    rw [ha]
    go_wp2_with fail
    go_at_call 14; refine (refValid_c b _).mono ?_; rintro e w' ⟨rfl, x, rfl⟩
    rw [hb]
    go_wp2
    go_ret
    exact Ret.of (by (repeat (first | exact grow_refl _ | refine grow_ext _ ?_ | refine grow_alloc _ ?_ | refine grow_drew ?_)))
  have HA := Lib.hid ha
  have HB := Lib.hid hb
  have HV := Lib.hid (join_valid ha hb)
  have HJA := Lib.hid (join_left a b)
  have HJB := Lib.hid (join_right a b)
  have HU := Lib.hid (hull_two a b)
  have HALL := Lib.hid (show [a, b].all validB = true by simp [ha, hb])
  by_cases hg : gapI a b ≤ 0
  · have hmv := (meets_gap ha hb).2 hg
    have HMV := Lib.hid hmv
    have HM := Lib.hid (show meetR a b = (meetX a b, 0) by unfold meetR; rw [ha, hb, hmv]; simp)
    have HS := Lib.hid (square_zero ha hb hg)
    have HCA := Lib.hid (meet_left a b)
    have HCB := Lib.hid (meet_right a b)
    clear ha hb hmv
    go_enter Try.func8, Try.ntmps8
    go_wp2_with fail
    go_at_call 10; refine (awake_c _).mono ?_; rintro e w' ⟨rfl, x, rfl⟩
    go_wp2_with fail
    go_at_call 14; refine (refValid_c a _).mono ?_; rintro e w' ⟨rfl, x, rfl⟩
    rw [HA.out]
    go_wp2_with fail
    go_at_call 14; refine (refValid_c b _).mono ?_; rintro e w' ⟨rfl, x, rfl⟩
    rw [HB.out]
    go_wp2_with fail
    go_at_call 11; refine (Gap_ok a b HA.out HB.out _).mono ?_; rintro e w' ⟨rfl, x, rfl⟩
    go_wp2_with fail
    go_at_call 12; refine (Square_ok a b HA.out HB.out _).mono ?_; rintro e w' ⟨rfl, x, rfl⟩
    rw [HS.out]
    go_wp2_with fail
    go_at_call 31; refine (Meet_c a b _).mono ?_; rintro e w' ⟨rfl, x, rfl⟩
    rw [HM.out]
    dsimp only
    go_wp2_with fail
    go_at_call 32; refine Calls.mono (Hull_ok [a, b] _ _ (Boxes.of_own (own_lit _ _ _ _ _ (by simp [size_ext]) (Nat.le_refl _) (by decide) rfl rfl)) HALL.out (by simp)) ?_; rintro e w' ⟨rfl, x, rfl⟩
    rw [HU.out]
    go_wp2_with fail
    go_at_call 23; refine (Contains_ok (joinX a b) a HV.out HA.out _).mono ?_; rintro e w' ⟨rfl, x, rfl⟩
    rw [HJA.out]
    go_wp2_with fail
    go_at_call 23; refine (Contains_ok (joinX a b) b HV.out HB.out _).mono ?_; rintro e w' ⟨rfl, x, rfl⟩
    rw [HJB.out]
    go_wp2_with fail
    go_at_call 23; refine (Contains_ok a (meetX a b) HA.out HMV.out _).mono ?_; rintro e w' ⟨rfl, x, rfl⟩
    rw [HCA.out]
    go_wp2_with fail
    go_at_call 23; refine (Contains_ok b (meetX a b) HB.out HMV.out _).mono ?_; rintro e w' ⟨rfl, x, rfl⟩
    rw [HCB.out]
    go_wp2
    go_ret
    exact Ret.of (by (repeat (first | exact grow_refl _ | refine grow_ext _ ?_ | refine grow_alloc _ ?_ | refine grow_drew ?_)))
  · have hmv : validB (meetX a b) = false := by
      cases h : validB (meetX a b)
      · rfl
      · exact absurd ((meets_gap ha hb).1 h) hg
    have HM := Lib.hid (show meetR a b = (zeroX, 12) by unfold meetR; rw [ha, hb, hmv]; simp)
    have hs := square_pos ha hb hg
    have hs2 : ¬ squareI a b = 0 := by omega
    have hs3 : (squareI a b == 0) = false := by simp; omega
    have hg2 : decide (gapI a b ≤ 0) = false := by simp; omega
    clear ha hb hmv
    go_enter Try.func8, Try.ntmps8
    go_wp2_with fail
    go_at_call 10; refine (awake_c _).mono ?_; rintro e w' ⟨rfl, x, rfl⟩
    go_wp2_with fail
    go_at_call 14; refine (refValid_c a _).mono ?_; rintro e w' ⟨rfl, x, rfl⟩
    rw [HA.out]
    go_wp2_with fail
    go_at_call 14; refine (refValid_c b _).mono ?_; rintro e w' ⟨rfl, x, rfl⟩
    rw [HB.out]
    go_wp2_with fail
    go_at_call 11; refine (Gap_ok a b HA.out HB.out _).mono ?_; rintro e w' ⟨rfl, x, rfl⟩
    go_wp2_with fail
    go_at_call 12; refine (Square_ok a b HA.out HB.out _).mono ?_; rintro e w' ⟨rfl, x, rfl⟩
    go_wp2_with fail
    go_at_call 31; refine (Meet_c a b _).mono ?_; rintro e w' ⟨rfl, x, rfl⟩
    rw [HM.out]
    dsimp only [zeroX]
    go_wp2_with fail
    go_at_call 32; refine Calls.mono (Hull_ok [a, b] _ _ (Boxes.of_own (own_lit _ _ _ _ _ (by simp [size_ext]) (Nat.le_refl _) (by decide) rfl rfl)) HALL.out (by simp)) ?_; rintro e w' ⟨rfl, x, rfl⟩
    rw [HU.out]
    go_wp2_with fail
    go_at_call 23; refine (Contains_ok (joinX a b) a HV.out HA.out _).mono ?_; rintro e w' ⟨rfl, x, rfl⟩
    rw [HJA.out]
    go_wp2_with fail
    go_at_call 23; refine (Contains_ok (joinX a b) b HV.out HB.out _).mono ?_; rintro e w' ⟨rfl, x, rfl⟩
    rw [HJB.out]
    go_wp2
    go_ret
    exact Ret.of (by (repeat (first | exact grow_refl _ | refine grow_ext _ ?_ | refine grow_alloc _ ?_ | refine grow_drew ?_)))

end Go.Proofs.Ytmmhplmomahfhaa
