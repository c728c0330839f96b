/- FabricCovers: the walk of the law. -/
import Derived.Test.YtolcpkpfndnkbaaFabI
namespace Go.Proofs.Ytolcpkpfndnkbaa
open Go.RowKit

set_option maxRecDepth 100000 in
set_option maxHeartbeats 2000000 in
theorem lawFabricCovers_c (f : Fb) (L W lap : Int) (hn : f.name.size ≤ 9223372036854775807) (_h1 : -9223372036854775808 ≤ L ∧ L ≤ 9223372036854775807) (_h2 : -9223372036854775808 ≤ W ∧ W ≤ 9223372036854775807) (_h3 : -9223372036854775808 ≤ lap ∧ lap ≤ 9223372036854775807) (w : World) :
    Calls Try.prog 6 #[(.agg #[.string f.name, .int .i64 f.main, .int .i64 f.cross, .int .i64 f.length, .int .i64 f.width, .int .i64 f.mass]), .int .i64 L, .int .i64 W, .int .i64 lap] w (Ret w (.bool true)) := by
  by_cases h60 : 60 < f.name.size
  · have hd : decide ((60 : Int) < (f.name.size : Int)) = true := by simp; omega
    go_enter Try.func6, Try.ntmps6
    go_wp2_with fail
    go_at_call 11; refine (fabAwake_c _).mono ?_; rintro e w' ⟨rfl, x0, rfl⟩
    go_wp2
    go_ret
    exact Ret.of (by (repeat (first | exact grow_refl _ | refine grow_ext _ ?_ | refine grow_alloc _ ?_ | refine grow_drew ?_)))
  have hd : decide ((60 : Int) < (f.name.size : Int)) = false := by simp; omega
  have R1 := Lib.hid (fun w => sheets_c f L W lap hn w)
  have R2 := Lib.hid (fun w => mass_c f L W lap hn w)
  have R3 := Lib.hid (fun w => cover_c f L W lap hn w)
  have R4 := Lib.hid (fun w => refCounted_c f L W lap hn w)
  have R5 := Lib.hid (fun w => refCover_c f L W lap hn w)
  have hok := @sheets_ok f L W lap
  have her := @sheets_err f L W lap
  unfold massR at R2
  generalize sheetsR f L W lap = r at *
  generalize coverR f L W lap = q at *
  obtain ⟨n, e0⟩ := r
  obtain ⟨P, e1⟩ := q
  dsimp only at *
  by_cases h0 : e0 = 0
  · obtain ⟨a1, a2, hv, hrest⟩ := hok h0
    clear hrest
    have hb := (fb_bounds (fabs_one hv)).2.2.2.2
    have hp : 0 ≤ n * f.mass ∧ n * f.mass ≤ 16777216000000 := ⟨Int.mul_nonneg (by omega) (by omega), Int.le_trans (Int.mul_le_mul a2 hb.2 (by omega) (by omega)) (by decide)⟩
    subst h0
    clear hok her hv
    go_enter Try.func6, Try.ntmps6
    go_wp2_with fail
    go_at_call 11; refine (fabAwake_c _).mono ?_; rintro e w' ⟨rfl, x0, rfl⟩
    go_wp2_with fail
    go_at_call 20; refine (R1.out _).mono ?_; rintro e w' ⟨rfl, x1, rfl⟩
    go_wp2_with fail
    go_at_call 21; refine (R2.out _).mono ?_; rintro e w' ⟨rfl, x2, rfl⟩
    go_wp2_with fail
    go_at_call 22; refine Calls.mono (R3.out _) ?_; rintro e w' ⟨v3, rfl, hown3, x3, rfl⟩
    have P3 := Lib.hid (Boxes.of_own hown3)
    clear hown3
    go_wp2_with fail
    go_at_call 23; refine (R4.out _).mono ?_; rintro e w' ⟨rfl, x4, rfl⟩
    go_wp2_with fail
    go_at_call 24; refine Calls.mono (R5.out _) ?_; rintro e w' ⟨v5, rfl, hown5, x5, rfl⟩
    have P5 := Lib.hid (Boxes.of_own hown5)
    clear hown5
    go_wp2_with fail
    go_at_call 25; refine Calls.mono (equalBoxes_same P _ _ _ (P3.out.below (by (repeat (first | exact grow_refl _ | refine grow_ext _ ?_ | refine grow_alloc _ ?_ | refine grow_drew ?_)))) (P5.out.below (by (repeat (first | exact grow_refl _ | refine grow_ext _ ?_ | refine grow_alloc _ ?_ | refine grow_drew ?_))))) ?_; rintro e w' ⟨rfl, x8, rfl⟩
    go_wp2
    go_ret
    exact Ret.of (by (repeat (first | exact grow_refl _ | refine grow_ext _ ?_ | refine grow_alloc _ ?_ | refine grow_drew ?_)))
  · have hn0 := her h0
    subst hn0
    rw [Int.zero_mul] at R2
    have hb0 : (e0 == 0) = false := by simpa using h0
    have hz := Int.zero_mul f.mass
    clear hok her
    go_enter Try.func6, Try.ntmps6
    go_wp2_with fail
    go_at_call 11; refine (fabAwake_c _).mono ?_; rintro e w' ⟨rfl, x0, rfl⟩
    go_wp2_with fail
    go_at_call 20; refine (R1.out _).mono ?_; rintro e w' ⟨rfl, x1, rfl⟩
    go_wp2_with fail
    go_at_call 21; refine (R2.out _).mono ?_; rintro e w' ⟨rfl, x2, rfl⟩
    go_wp2_with fail
    go_at_call 22; refine Calls.mono (R3.out _) ?_; rintro e w' ⟨v3, rfl, hown3, x3, rfl⟩
    have P3 := Lib.hid (Boxes.of_own hown3)
    clear hown3
    go_wp2_with fail
    go_at_call 23; refine (R4.out _).mono ?_; rintro e w' ⟨rfl, x4, rfl⟩
    go_wp2_with fail
    go_at_call 24; refine Calls.mono (R5.out _) ?_; rintro e w' ⟨v5, rfl, hown5, x5, rfl⟩
    have P5 := Lib.hid (Boxes.of_own hown5)
    clear hown5
    go_wp2_with fail
    go_at_call 25; refine Calls.mono (equalBoxes_same P _ _ _ (P3.out.below (by (repeat (first | exact grow_refl _ | refine grow_ext _ ?_ | refine grow_alloc _ ?_ | refine grow_drew ?_)))) (P5.out.below (by (repeat (first | exact grow_refl _ | refine grow_ext _ ?_ | refine grow_alloc _ ?_ | refine grow_drew ?_))))) ?_; rintro e w' ⟨rfl, x8, rfl⟩
    go_wp2
    go_ret
    exact Ret.of (by (repeat (first | exact grow_refl _ | refine grow_ext _ ?_ | refine grow_alloc _ ?_ | refine grow_drew ?_)))

end Go.Proofs.Ytolcpkpfndnkbaa
