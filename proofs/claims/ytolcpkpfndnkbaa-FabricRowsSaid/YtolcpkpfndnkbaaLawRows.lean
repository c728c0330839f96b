/- FabricRows: the walk of the law. -/
import Derived.Test.YtolcpkpfndnkbaaFabI
namespace Go.Proofs.Ytolcpkpfndnkbaa
open Go.RowKit

set_option maxRecDepth 100000 in
set_option maxHeartbeats 2000000 in
theorem lawFabricRows_c (t s l : Int) (_h1 : -9223372036854775808 ≤ t ∧ t ≤ 9223372036854775807) (_h2 : -9223372036854775808 ≤ s ∧ s ≤ 9223372036854775807) (_h3 : -9223372036854775808 ≤ l ∧ l ≤ 9223372036854775807) (w : World) :
    Calls Try.prog 3 #[.int .i64 t, .int .i64 s, .int .i64 l] w (Ret w (.bool true)) := by
  have R1 := Lib.hid (fun w => Row_c t s l w)
  cases hr : rangeB t s l
  · rw [show rowR t s l = ([], 2) by unfold rowR; rw [hr]; rfl] at R1
    have HR := Lib.hid hr
    clear hr
    go_enter Try.func3, Try.ntmps3
    go_wp2_with fail
    go_at_call 11; refine (fabAwake_c _).mono ?_; rintro e w' ⟨rfl, x0, rfl⟩
    go_wp2_with fail
    go_at_call 12; refine Calls.mono (R1.out _) ?_; rintro e w' ⟨v1, rfl, hown1, x1, rfl⟩
    obtain ⟨a1, cap1, rfl, _, _, _⟩ := own_shape hown1
    clear hown1
    go_wp2_with fail
    go_at_call 13; refine (refRange_v t s l _ HR.out _).mono ?_; rintro e w' ⟨rfl, x2, rfl⟩
    go_wp2
    go_ret
    exact Ret.of (by (repeat (first | exact grow_refl _ | refine grow_ext _ ?_ | refine grow_alloc _ ?_ | refine grow_drew ?_)))
  · have HR := Lib.hid hr
    have HC := Lib.hid (fun w => refCount_c t s l hr w)
    have HRR := Lib.hid (fun w => refRow_c t s l hr w)
    by_cases hn : 1000 < numI t s l
    · rw [show rowR t s l = ([], 4) by unfold rowR; rw [if_pos hr, if_pos hn]] at R1
      clear hr
      go_enter Try.func3, Try.ntmps3
      go_wp2_with fail
      go_at_call 11; refine (fabAwake_c _).mono ?_; rintro e w' ⟨rfl, x0, rfl⟩
      go_wp2_with fail
      go_at_call 12; refine Calls.mono (R1.out _) ?_; rintro e w' ⟨v1, rfl, hown1, x1, rfl⟩
      obtain ⟨a1, cap1, rfl, _, _, _⟩ := own_shape hown1
      clear hown1
      go_wp2_with fail
      go_at_call 13; refine (refRange_v t s l _ HR.out _).mono ?_; rintro e w' ⟨rfl, x2, rfl⟩
      go_wp2_with fail
      go_at_call 14; refine (HC.out _).mono ?_; rintro e w' ⟨rfl, x3, rfl⟩
      go_wp2
      go_ret
      exact Ret.of (by (repeat (first | exact grow_refl _ | refine grow_ext _ ?_ | refine grow_alloc _ ?_ | refine grow_drew ?_)))
    · rw [show rowR t s l = (rowL t s l, 0) by unfold rowR; rw [if_pos hr, if_neg hn]] at R1
      have hd : decide (1000 < numI t s l) = false := by simp; omega
      clear hr
      dsimp only at R1
      generalize rowL t s l = P at *
      go_enter Try.func3, Try.ntmps3
      go_wp2_with fail
      go_at_call 11; refine (fabAwake_c _).mono ?_; rintro e w' ⟨rfl, x0, rfl⟩
      go_wp2_with fail
      go_at_call 12; refine Calls.mono (R1.out _) ?_; rintro e w' ⟨v1, rfl, hown1, x1, rfl⟩
      have P1 := Lib.hid (Pairs.of_own hown1)
      obtain ⟨a1, cap1, rfl, _, _, _⟩ := own_shape hown1
      clear hown1
      go_wp2_with fail
      go_at_call 13; refine (refRange_v t s l _ HR.out _).mono ?_; rintro e w' ⟨rfl, x2, rfl⟩
      go_wp2_with fail
      go_at_call 14; refine (HC.out _).mono ?_; rintro e w' ⟨rfl, x3, rfl⟩
      go_wp2_with fail
      go_at_call 16; refine Calls.mono (HRR.out _) ?_; rintro e w' ⟨v2, rfl, hown2, x4, rfl⟩
      have P2 := Lib.hid (Pairs.of_own hown2)
      clear hown2
      go_wp2_with fail
      go_at_call 15; refine Calls.mono (equalSpans_same P _ _ _ (P1.out.below (by (repeat (first | exact grow_refl _ | refine grow_ext _ ?_ | refine grow_alloc _ ?_ | refine grow_drew ?_)))) P2.out) ?_; rintro e w' ⟨rfl, x8, rfl⟩
      go_wp2
      go_ret
      exact Ret.of (by (repeat (first | exact grow_refl _ | refine grow_ext _ ?_ | refine grow_alloc _ ?_ | refine grow_drew ?_)))

end Go.Proofs.Ytolcpkpfndnkbaa
