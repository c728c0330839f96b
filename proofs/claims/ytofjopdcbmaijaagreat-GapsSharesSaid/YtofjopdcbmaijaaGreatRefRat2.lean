/- The reference's fractions: stirrupref02.Div, Made, Make. -/
import Derived.Test.YtofjopdcbmaijaaGreatRefRat
import Derived.RegionTactic
namespace Go.Proofs.YtofjopdcbmaijaaGreat
open Go.RowKit
set_option maxRecDepth 20000

set_option maxHeartbeats 2000000 in
theorem divU_c (a b : Nat) (ha : a < 18446744073709551616) (hb0 : 0 < b) (w : World) :
    Calls Tryz.prog 97 #[.agg #[.int .u64 0, .int .u64 a], .agg #[.int .u64 0, .int .u64 b]] w (Ret w (.tuple #[.agg #[.int .u64 0, .int .u64 ((a / b : Nat) : Int)], .agg #[.int .u64 0, .int .u64 ((a % b : Nat) : Int)]])) := by
  have t1 : Int.tdiv (a : Int) (b : Int) = ((a / b : Nat) : Int) := rfl
  have t2 : Int.tmod (a : Int) (b : Int) = ((a % b : Nat) : Int) := rfl
  have h1 := Nat.div_le_self a b
  have h2 := Nat.mod_le a b
  obtain ⟨q, hq⟩ : ∃ q, a / b = q := ⟨_, rfl⟩
  obtain ⟨r, hr⟩ : ∃ r, a % b = r := ⟨_, rfl⟩
  rw [hq] at t1 h1 ⊢
  rw [hr] at t2 h2 ⊢
  have w1 : IntKind.u64.wrap (q : Int) = (q : Int) := by rw [IntKind.wrap_u64]; omega
  have w2 : IntKind.u64.wrap (r : Int) = (r : Int) := by rw [IntKind.wrap_u64]; omega
  have hbi : (b : Int) ≠ 0 := by omega
  clear hq hr
  go_enter Tryz.func97, Tryz.ntmps97
  go_wp2_with fail
  go_region
  go_wp2
  refine bodyPost_ret (v := .tuple #[.agg #[.int .u64 0, .int .u64 (q : Int)], .agg #[.int .u64 0, .int .u64 (r : Int)]]) (by simp [results, Tryz.results97, go_sem]) rfl ?_
  exact Ret.of (by (repeat (first | exact grow_refl _ | refine grow_ext _ ?_ | refine grow_alloc _ ?_ | refine grow_drew ?_)))

set_option maxHeartbeats 1000000 in
theorem refSizeU_c (n : Nat) (hn : n ≤ 9223372036854775807) (w : World) : Calls Tryz.prog 52 #[.int .i64 n] w (Ret w (.int .u64 n)) := by
  have hw : IntKind.u64.wrap (n : Int) = (n : Int) := by rw [IntKind.wrap_u64]; omega
  have d1 : decide ((n : Int) < 0) = false := by simp
  go_enter Tryz.func52, Tryz.ntmps52
  go_wp2
  go_ret
  exact Ret.of (by (repeat (first | exact grow_refl _ | refine grow_ext _ ?_ | refine grow_alloc _ ?_ | refine grow_drew ?_)))

set_option maxRecDepth 100000 in
set_option maxHeartbeats 4000000 in
theorem made_c (a b : Nat) (ha : a ≤ 1152921504606846976) (hb : b ≤ 1152921504606846976) (hb0 : 0 < b) (w : World) :
    Calls Tryz.prog 51 #[.agg #[.int .u64 0, .int .u64 a], .bool false, .agg #[.int .u64 0, .int .u64 b]] w (Ret w (.tuple #[fracV a b, .int .i64 0])) := by
  have HG := Lib.hid (fun w => gcdRef_c a b (by omega) (by omega) hb0 w)
  have hg0 := Nat.gcd_pos_of_pos_right a hb0
  have HF := Lib.hid (show fracV a b = .agg #[.int .i64 ((a / Nat.gcd a b : Nat) : Int), .int .i64 ((b / Nat.gcd a b : Nat) : Int)] from rfl)
  have hda := Nat.div_le_self a (Nat.gcd a b)
  have hdb := Nat.div_le_self b (Nat.gcd a b)
  obtain ⟨g, hg⟩ : ∃ g, Nat.gcd a b = g := ⟨_, rfl⟩
  rw [hg] at HG hg0 HF hda hdb
  have HD1 := Lib.hid (fun w => divU_c a g (by omega) hg0 w)
  have HD2 := Lib.hid (fun w => divU_c b g (by omega) hg0 w)
  obtain ⟨p, hp⟩ : ∃ p, a / g = p := ⟨_, rfl⟩
  obtain ⟨q, hq⟩ : ∃ q, b / g = q := ⟨_, rfl⟩
  rw [hp] at hda HF HD1
  rw [hq] at hdb HF HD2
  obtain ⟨r1, hr1⟩ : ∃ r, a % g = r := ⟨_, rfl⟩
  obtain ⟨r2, hr2⟩ : ∃ r, b % g = r := ⟨_, rfl⟩
  rw [hr1] at HD1
  rw [hr2] at HD2
  have w1 : IntKind.i64.wrap (p : Int) = (p : Int) := IntWalk.i64_in _ (by omega)
  have w2 : IntKind.i64.wrap (q : Int) = (q : Int) := IntWalk.i64_in _ (by omega)
  have d0 : ((b : Int) == 0) = false := by simp; omega
  have d1 : decide ((1152921504606846976 : Int) < (p : Int)) = false := by simp; omega
  have d2 : decide ((1152921504606846976 : Int) < (q : Int)) = false := by simp; omega
  clear hg hp hq hr1 hr2
  go_enter Tryz.func51, Tryz.ntmps51
  go_wp2_with fail
  go_at_call 96; refine (HG.out _).mono ?_; rintro e w' ⟨rfl, x1, rfl⟩
  go_wp2_with fail
  go_at_call 97; refine (HD1.out _).mono ?_; rintro e w' ⟨rfl, x2, rfl⟩
  go_wp2_with fail
  go_at_call 97; refine (HD2.out _).mono ?_; rintro e w' ⟨rfl, x3, rfl⟩
  go_wp2
  rw [HF.out]
  refine bodyPost_ret (v := .tuple #[.agg #[.int .i64 p, .int .i64 q], .int .i64 0]) (by simp [results, Tryz.results51, go_sem]) rfl ?_
  exact Ret.of (by (repeat (first | exact grow_refl _ | refine grow_ext _ ?_ | refine grow_alloc _ ?_ | refine grow_drew ?_)))

set_option maxHeartbeats 2000000 in
theorem refMake_c (a b : Nat) (ha : a ≤ 1152921504606846976) (hb : b ≤ 1152921504606846976) (hb0 : 0 < b) (w : World) :
    Calls Tryz.prog 22 #[.int .i64 a, .int .i64 b] w (Ret w (.tuple #[fracV a b, .int .i64 0])) := by
  have HM := Lib.hid (fun w => made_c a b ha hb hb0 w)
  have HSA := Lib.hid (fun w => refSizeU_c a (by omega) w)
  have HSB := Lib.hid (fun w => refSizeU_c b (by omega) w)
  obtain ⟨f1, f2, hF⟩ : ∃ f1 f2 : Int, fracV a b = .agg #[.int .i64 f1, .int .i64 f2] := ⟨_, _, rfl⟩
  rw [hF] at HM ⊢
  have d1 : decide ((a : Int) < 0) = false := by simp
  have d2 : decide ((b : Int) < 0) = false := by simp
  have e0 : (false != false) = false := rfl
  clear hF
  go_enter Tryz.func22, Tryz.ntmps22
  go_wp2_with fail
  go_at_call 52; refine (HSA.out _).mono ?_; rintro e w' ⟨rfl, x1, rfl⟩
  go_wp2_with fail
  go_at_call 52; refine (HSB.out _).mono ?_; rintro e w' ⟨rfl, x2, rfl⟩
  go_wp2_with fail
  go_at_call 51; refine (HM.out _).mono ?_; rintro e w' ⟨rfl, x3, rfl⟩
  go_wp2
  refine bodyPost_ret (v := .tuple #[.agg #[.int .i64 f1, .int .i64 f2], .int .i64 0]) (by simp [results, Tryz.results22, go_sem]) rfl ?_
  exact Ret.of (by (repeat (first | exact grow_refl _ | refine grow_ext _ ?_ | refine grow_alloc _ ?_ | refine grow_drew ?_)))

end Go.Proofs.YtofjopdcbmaijaaGreat
