/- FabricReaches: the walk of the law. -/
import Derived.Test.YtolcpkpfndnkbaaFabI
import Derived.Test.YtolcpkpfndnkbaaPlainR
namespace Go.Proofs.Ytolcpkpfndnkbaa
open Go.RowKit

theorem row_bounds {t s l : Int} (h : rangeB t s l = true) (i : Nat) (hi : i < (rowL t s l).length) : 0 ≤ (rowL t s l)[i].1 ∧ (rowL t s l)[i].2 ≤ t := by
  rw [rowL_get h]
  obtain ⟨h1, h2, h3⟩ := range_iff.1 h
  exact ⟨Int.mul_nonneg (by omega) (by omega), by dsimp only; omega⟩

set_option maxRecDepth 100000 in
set_option maxHeartbeats 4000000 in
theorem lawFabricReaches_c (t s l : Int) (_h1 : -9223372036854775808 ≤ t ∧ t ≤ 9223372036854775807) (_h2 : -9223372036854775808 ≤ s ∧ s ≤ 9223372036854775807) (_h3 : -9223372036854775808 ≤ l ∧ l ≤ 9223372036854775807) (w : World) :
    Calls Try.prog 5 #[.int .i64 t, .int .i64 s, .int .i64 l] w (Ret w (.bool true)) := by
  have R1 := Lib.hid (fun w => Row_c t s l w)
  cases hr : rangeB t s l
  · rw [show rowR t s l = ([], 2) by unfold rowR; rw [hr]; rfl] at R1
    clear hr
    go_enter Try.func5, Try.ntmps5
    go_wp2_with fail
    go_at_call 11; refine (fabAwake_c _).mono ?_; rintro e w' ⟨rfl, x0, rfl⟩
    go_wp2_with fail
    go_at_call 12; refine Calls.mono (R1.out _) ?_; rintro e w' ⟨v1, rfl, hown1, x1, rfl⟩
    obtain ⟨a1, cap1, rfl, _, _, _⟩ := own_shape hown1
    clear hown1
    go_wp2
    go_ret
    exact Ret.of (by (repeat (first | exact grow_refl _ | refine grow_ext _ ?_ | refine grow_alloc _ ?_ | refine grow_drew ?_)))
  · by_cases hn : 1000 < numI t s l
    · rw [show rowR t s l = ([], 4) by unfold rowR; rw [if_pos hr, if_pos hn]] at R1
      clear hr
      go_enter Try.func5, Try.ntmps5
      go_wp2_with fail
      go_at_call 11; refine (fabAwake_c _).mono ?_; rintro e w' ⟨rfl, x0, rfl⟩
      go_wp2_with fail
      go_at_call 12; refine Calls.mono (R1.out _) ?_; rintro e w' ⟨v1, rfl, hown1, x1, rfl⟩
      obtain ⟨a1, cap1, rfl, _, _, _⟩ := own_shape hown1
      clear hown1
      go_wp2
      go_ret
      exact Ret.of (by (repeat (first | exact grow_refl _ | refine grow_ext _ ?_ | refine grow_alloc _ ?_ | refine grow_drew ?_)))
    · rw [show rowR t s l = (rowL t s l, 0) by unfold rowR; rw [if_pos hr, if_neg hn]] at R1
      obtain ⟨g1, g2, g3⟩ := range_iff.1 hr
      have hlen := rowL_length' hr
      have hnb := num_bound hr
      have F1 := Lib.hid (fun i hi => row_in hr i hi)
      have F2 := Lib.hid (fun i hi hi' => row_next hr i hi hi')
      have F3 := Lib.hid (fun i hi => row_bounds hr i hi)
      have F4 := Lib.hid (fun hi => row_first hr hi)
      have F5 := Lib.hid (fun i hi he => row_end hr i hi he)
      have hlen1 : 1 ≤ (rowL t s l).length ∧ (rowL t s l).length ≤ 1000 := by omega
      clear hr hlen hnb hn
      dsimp only at R1
      generalize rowL t s l = P at *
      go_enter Try.func5, Try.ntmps5
      go_wp2_with fail
      go_at_call 11; refine (fabAwake_c _).mono ?_; rintro e w' ⟨rfl, x0, rfl⟩
      go_wp2_with fail
      go_at_call 12; refine Calls.mono (R1.out _) ?_; rintro e w' ⟨v1, rfl, hown1, x1, rfl⟩
      have P1 := Pairs.of_own hown1
      clear hown1
      obtain ⟨a1, cap1, rfl, hc1, hc2, hcell⟩ := P1
      obtain ⟨ga, rfl, c0, c0'⟩ := hcell 0 (by omega)
      obtain ⟨ga', e', c1', c1⟩ := hcell (P.length - 1) (by omega)
      cases e'
      clear c0' c1'
      rw [F4.out (by omega)] at c0
      rw [F5.out (P.length - 1) (by omega) (by omega)] at c1
      have HCell := Lib.hid hcell
      clear hcell
      have k0 : (((P.length : Nat) : Int) == 0) = false := beq_eq_false_iff_ne.2 (by omega)
      have k1 : (0 : Int) < (P.length : Int) := by omega
      have k2 : (0 : Int) ≤ (P.length : Int) - 1 := by omega
      have k3 : (P.length : Int) - 1 < (P.length : Int) := by omega
      have k4 : ((P.length : Int) - 1).toNat = P.length - 1 := by omega
      simp only [Nat.zero_mul] at c0
      go_wp2_with fail
      clear c0 c1 k0 k1 k2 k3 k4
      go_loopw [57] (fun i wr => ∃ k : Nat, k ≤ P.length ∧ i = .int .i64 k ∧ (∃ x, wr = ext (ext (ext w x0) x1) x)) (fun i _ => P.length - (intOf i).toNat)
      case atStart => exact ⟨0, Nat.zero_le _, rfl, ext_of (by (repeat (first | exact grow_refl _ | refine grow_ext _ ?_ | refine grow_alloc _ ?_ | refine grow_drew ?_)))⟩
      case round =>
        obtain ⟨k, hk, rfl, ⟨x, rfl⟩⟩ := hrel
        by_cases hlt : k < P.length
        · obtain ⟨_, e', c0, c1⟩ := HCell.out k hlt
          cases e'
          obtain ⟨f1, f2⟩ := F1.out k hlt
          obtain ⟨f3, f4⟩ := F3.out k hlt
          rcases Nat.eq_zero_or_pos k with h0 | h0
          · subst h0
            obtain ⟨p, hp⟩ : ∃ p, p = P[0] := ⟨_, rfl⟩
            rw [← hp] at c0 c1 f1 f2 f3 f4
            clear hp
            obtain ⟨p1, p2⟩ := p
            dsimp only at c0 c1 f1 f2 f3 f4
            simp only [Nat.zero_mul, Nat.zero_add] at c0 c1
            have d1 : decide (p2 ≤ p1) = false := by simp; omega
            have d2 : decide (s < p2 - p1) = false := by simp; omega
            go_wp2
            go_roundw
            case rel => exact ⟨1, by omega, rfl, ext_of (by (repeat (first | exact grow_refl _ | refine grow_ext _ ?_ | refine grow_alloc _ ?_ | refine grow_drew ?_)))⟩
            case measure => simp [intOf]; omega
          · obtain ⟨m, rfl⟩ : ∃ m, k = m + 1 := ⟨k - 1, by omega⟩
            obtain ⟨_, e', d0, d1⟩ := HCell.out m (by omega)
            cases e'
            obtain ⟨q1, q2, q3⟩ := F2.out m hlt (by omega)
            obtain ⟨f5, f7⟩ := F3.out m (by omega)
            obtain ⟨f6, f8⟩ := F1.out m (by omega)
            clear f7 f8
            obtain ⟨p, hp⟩ : ∃ p, p = P[m + 1] := ⟨_, rfl⟩
            obtain ⟨q, hq⟩ : ∃ q, q = P[m] := ⟨_, rfl⟩
            rw [← hp] at c0 c1 f1 f2 f3 f4 q1
            rw [← hq] at d0 d1 q1 q2 q3 f5 f6
            clear hp hq
            obtain ⟨p1, p2⟩ := p
            obtain ⟨b1, b2⟩ := q
            dsimp only at c0 c1 d0 d1 f1 f2 f3 f4 f5 f6 q1 q2 q3
            have i1 : (((m + 1 : Nat) : Int) == 0) = false := beq_eq_false_iff_ne.2 (by omega)
            have i2 : ((m + 1 : Nat) : Int) - 1 = (m : Int) := by omega
            have i3 : (m : Int) < (P.length : Int) := by omega
            have i4 : (0 : Int) ≤ (m : Int) := by omega
            have b2b : 0 ≤ b2 ∧ b2 ≤ 1048576 := by omega
            have d4 : decide (p2 ≤ p1) = false := by simp; omega
            have d5 : decide (s < p2 - p1) = false := by simp; omega
            have d6 : decide (t ≤ b2) = false := by simp; omega
            go_wp2
            go_roundw
            case rel => exact ⟨m + 1 + 1, by omega, by go_num, ext_of (by (repeat (first | exact grow_refl _ | refine grow_ext _ ?_ | refine grow_alloc _ ?_ | refine grow_drew ?_)))⟩
            case measure => simp [intOf]; omega
        · obtain rfl : k = P.length := by omega
          go_wp2
          go_ret
          exact Ret.of (by (repeat (first | exact grow_refl _ | refine grow_ext _ ?_ | refine grow_alloc _ ?_ | refine grow_drew ?_)))

end Go.Proofs.Ytolcpkpfndnkbaa
