/- FabricMore: the walk of the law. -/
import Derived.Test.YtolcpkpfndnkbaaFabI
import Derived.Test.YtolcpkpfndnkbaaPlainR
namespace Go.Proofs.Ytolcpkpfndnkbaa
open Go.RowKit

theorem fab_mul_mono {a b c d : Int} (h1 : a ≤ b) (h2 : c ≤ d) (h3 : 1 ≤ a) (h4 : 1 ≤ c) : a * c ≤ b * d := Int.mul_le_mul h1 h2 (by omega) (by omega)
/-- A greater lap, or a greater slab, never needs fewer sheets. -/
theorem sheets_mono {f : Fb} {L W lap L' W' lap' : Int} (hL : L ≤ L') (hW : W ≤ W') (hl : lap ≤ lap') (h0 : givenI f L W lap = 0) (h : (sheetsR f L' W' lap').2 = 0) :
    (sheetsR f L W lap).2 = 0 ∧ (sheetsR f L W lap).1 ≤ (sheetsR f L' W' lap').1 := by
  obtain ⟨_, _, hv', hg', m1', m2', e'⟩ := sheets_ok h
  obtain ⟨_, r1, r2⟩ := given_zero h0
  obtain ⟨_, r1', r2'⟩ := given_zero hg'
  have a := num_mono r1 r1' hL hl
  have b := num_mono r2 r2' hW hl
  have c := (num_bound r1).1
  have d := (num_bound r2).1
  rw [e']
  unfold sheetsR
  rw [if_pos h0, if_neg (by omega)]
  exact ⟨rfl, fab_mul_mono a b c d⟩
theorem sheets_errs {f : Fb} {L W lap : Int} (h : ¬ (sheetsR f L W lap).2 = 0) : (sheetsR f L W lap).1 = 0 := sheets_err h

set_option maxRecDepth 100000 in
set_option maxHeartbeats 4000000 in
theorem more_ok (f : Fb) (L W lap L' W' lap' q z : Int) (hn : f.name.size ≤ 60) (hg : givenI f L W lap = 0)
    (hq : (z = 0 ∧ L' = L + q ∧ W' = W ∧ lap' = lap) ∨ (z = 1 ∧ L' = L ∧ W' = W + q ∧ lap' = lap) ∨ (z = 2 ∧ L' = L ∧ W' = W ∧ lap' = lap + q)) (k : Int) (hz : k % 3 = z) (hk : 0 ≤ k ∧ k ≤ 255) (hq0 : 0 ≤ q ∧ q ≤ 65535) (w : World) :
    Calls Try.prog 7 #[(.agg #[.string f.name, .int .i64 f.main, .int .i64 f.cross, .int .i64 f.length, .int .i64 f.width, .int .i64 f.mass]), .int .i64 L, .int .i64 W, .int .i64 lap, .int .u16 q, .int .u8 k] w (Ret w (.bool true)) := by
  obtain ⟨hv, r1, r2⟩ := given_zero hg
  obtain ⟨b1, b2, b3⟩ := range_iff.1 r1
  obtain ⟨b4, b5, _⟩ := range_iff.1 r2
  have hn' : f.name.size ≤ 9223372036854775807 := by omega
  have hd : decide ((60 : Int) < (f.name.size : Int)) = false := by simp; omega
  have hmono := @sheets_mono f L W lap L' W' lap' (by omega) (by omega) (by omega) hg
  have R1 := Lib.hid (fun w => sheets_c f L W lap hn' w)
  have R2 := Lib.hid (fun w => mass_c f L W lap hn' w)
  have R3 := Lib.hid (fun w => sheets_c f L' W' lap' hn' w)
  have R4 := Lib.hid (fun w => refGiven_c f L W lap hn' w)
  rw [hg] at R4
  have hok := @sheets_ok f L W lap
  have her := @sheets_err f L W lap
  have her' := @sheets_err f L' W' lap'
  have hok' := @sheets_ok f L' W' lap'
  unfold massR at R2
  generalize sheetsR f L W lap = r at *
  generalize sheetsR f L' W' lap' = r' at *
  obtain ⟨n, e0⟩ := r
  obtain ⟨m, e1⟩ := r'
  dsimp only at *
  have hp : e0 = 0 → 0 ≤ n * f.mass ∧ n * f.mass ≤ 16777216000000 := fun h => by
    obtain ⟨a1, a2, hv, _⟩ := hok h
    have hb := (fb_bounds (fabs_one hv)).2.2.2.2
    exact ⟨Int.mul_nonneg (by omega) (by omega), Int.le_trans (Int.mul_le_mul a2 hb.2 (by omega) (by omega)) (by decide)⟩
  have hm3 : k.tmod 3 = z := by rw [Int.tmod_eq_emod_of_nonneg hk.1]; exact hz
  clear hv r1 r2 hg
  by_cases h0 : e0 = 0
  · have hp := hp h0
    subst h0
    by_cases h1 : e1 = 0
    · have hle := (hmono h1).2
      subst h1
      clear hok her her' hok' hmono
      rcases hq with ⟨rfl, rfl, rfl, rfl⟩ | ⟨rfl, rfl, rfl, rfl⟩ | ⟨rfl, rfl, rfl, rfl⟩
      all_goals
        go_enter Try.func7, Try.ntmps7
        go_wp2_with fail
        go_at_call 11; refine (fabAwake_c _).mono ?_; rintro e w' ⟨rfl, x0, rfl⟩
        go_wp2_with fail
        go_at_call 18; refine (R4.out _).mono ?_; rintro e w' ⟨rfl, x1, rfl⟩
        go_wp2_with fail
        go_at_call 20; refine (R1.out _).mono ?_; rintro e w' ⟨rfl, x2, rfl⟩
        go_wp2_with fail
        go_at_call 21; refine (R2.out _).mono ?_; rintro e w' ⟨rfl, x3, rfl⟩
        go_wp2_with fail
        go_at_call 20; refine (R3.out _).mono ?_; rintro e w' ⟨rfl, x4, rfl⟩
        go_wp2
        go_ret
        exact Ret.bool (by simp <;> omega) (by (repeat (first | exact grow_refl _ | refine grow_ext _ ?_ | refine grow_alloc _ ?_ | refine grow_drew ?_)))
    · have hm0 := her' h1
      subst hm0
      have hb1 : (e1 == 0) = false := by simpa using h1
      clear hok her her' hok' hmono
      rcases hq with ⟨rfl, rfl, rfl, rfl⟩ | ⟨rfl, rfl, rfl, rfl⟩ | ⟨rfl, rfl, rfl, rfl⟩
      all_goals
        go_enter Try.func7, Try.ntmps7
        go_wp2_with fail
        go_at_call 11; refine (fabAwake_c _).mono ?_; rintro e w' ⟨rfl, x0, rfl⟩
        go_wp2_with fail
        go_at_call 18; refine (R4.out _).mono ?_; rintro e w' ⟨rfl, x1, rfl⟩
        go_wp2_with fail
        go_at_call 20; refine (R1.out _).mono ?_; rintro e w' ⟨rfl, x2, rfl⟩
        go_wp2_with fail
        go_at_call 21; refine (R2.out _).mono ?_; rintro e w' ⟨rfl, x3, rfl⟩
        go_wp2_with fail
        go_at_call 20; refine (R3.out _).mono ?_; rintro e w' ⟨rfl, x4, rfl⟩
        go_wp2
        go_ret
        exact Ret.bool (by simp <;> omega) (by (repeat (first | exact grow_refl _ | refine grow_ext _ ?_ | refine grow_alloc _ ?_ | refine grow_drew ?_)))
  · have hn0 := her h0
    subst hn0
    have h1 : ¬ e1 = 0 := fun h => h0 (hmono h).1
    have hm0 := her' h1
    subst hm0
    rw [Int.zero_mul] at R2
    have hb0 : (e0 == 0) = false := by simpa using h0
    have hb1 : (e1 == 0) = false := by simpa using h1
    clear hok her her' hok' hmono hp
    rcases hq with ⟨rfl, rfl, rfl, rfl⟩ | ⟨rfl, rfl, rfl, rfl⟩ | ⟨rfl, rfl, rfl, rfl⟩
    all_goals
      go_enter Try.func7, Try.ntmps7
      go_wp2_with fail
      go_at_call 11; refine (fabAwake_c _).mono ?_; rintro e w' ⟨rfl, x0, rfl⟩
      go_wp2_with fail
      go_at_call 18; refine (R4.out _).mono ?_; rintro e w' ⟨rfl, x1, rfl⟩
      go_wp2_with fail
      go_at_call 20; refine (R1.out _).mono ?_; rintro e w' ⟨rfl, x2, rfl⟩
      go_wp2_with fail
      go_at_call 21; refine (R2.out _).mono ?_; rintro e w' ⟨rfl, x3, rfl⟩
      go_wp2_with fail
      go_at_call 20; refine (R3.out _).mono ?_; rintro e w' ⟨rfl, x4, rfl⟩
      go_wp2
      go_ret
      exact Ret.bool (by simp <;> omega) (by (repeat (first | exact grow_refl _ | refine grow_ext _ ?_ | refine grow_alloc _ ?_ | refine grow_drew ?_)))

set_option maxRecDepth 100000 in
set_option maxHeartbeats 2000000 in
theorem lawFabricMore_c (f : Fb) (L W lap q k : Int) (hn : f.name.size ≤ 9223372036854775807) (_h1 : -9223372036854775808 ≤ L ∧ L ≤ 9223372036854775807) (_h2 : -9223372036854775808 ≤ W ∧ W ≤ 9223372036854775807) (_h3 : -9223372036854775808 ≤ lap ∧ lap ≤ 9223372036854775807) (hq : 0 ≤ q ∧ q ≤ 65535) (hk : 0 ≤ k ∧ k ≤ 255) (w : World) :
    Calls Try.prog 7 #[(.agg #[.string f.name, .int .i64 f.main, .int .i64 f.cross, .int .i64 f.length, .int .i64 f.width, .int .i64 f.mass]), .int .i64 L, .int .i64 W, .int .i64 lap, .int .u16 q, .int .u8 k] w (Ret w (.bool true)) := by
  by_cases h60 : 60 < f.name.size
  · have hd : decide ((60 : Int) < (f.name.size : Int)) = true := by simp; omega
    go_enter Try.func7, Try.ntmps7
    go_wp2_with fail
    go_at_call 11; refine (fabAwake_c _).mono ?_; rintro e w' ⟨rfl, x0, rfl⟩
    go_wp2
    go_ret
    exact Ret.of (by (repeat (first | exact grow_refl _ | refine grow_ext _ ?_ | refine grow_alloc _ ?_ | refine grow_drew ?_)))
  by_cases hg : givenI f L W lap = 0
  · have h3 : k % 3 = 0 ∨ k % 3 = 1 ∨ k % 3 = 2 := by omega
    rcases h3 with h | h | h
    · exact more_ok f L W lap (L + q) W lap q 0 (by omega) hg (.inl ⟨rfl, rfl, rfl, rfl⟩) k h hk hq w
    · exact more_ok f L W lap L (W + q) lap q 1 (by omega) hg (.inr (.inl ⟨rfl, rfl, rfl, rfl⟩)) k h hk hq w
    · exact more_ok f L W lap L W (lap + q) q 2 (by omega) hg (.inr (.inr ⟨rfl, rfl, rfl, rfl⟩)) k h hk hq w
  · have hd : decide ((60 : Int) < (f.name.size : Int)) = false := by simp; omega
    have R4 := Lib.hid (fun w => refGiven_c f L W lap hn w)
    generalize givenI f L W lap = e0 at *
    have hb0 : (e0 == 0) = false := by simpa using hg
    go_enter Try.func7, Try.ntmps7
    go_wp2_with fail
    go_at_call 11; refine (fabAwake_c _).mono ?_; rintro e w' ⟨rfl, x0, rfl⟩
    go_wp2_with fail
    go_at_call 18; refine (R4.out _).mono ?_; rintro e w' ⟨rfl, x1, rfl⟩
    go_wp2
    go_ret
    exact Ret.of (by (repeat (first | exact grow_refl _ | refine grow_ext _ ?_ | refine grow_alloc _ ?_ | refine grow_drew ?_)))

end Go.Proofs.Ytolcpkpfndnkbaa
