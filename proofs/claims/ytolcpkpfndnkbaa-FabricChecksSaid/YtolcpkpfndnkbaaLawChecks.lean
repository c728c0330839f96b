/- FabricChecks: the walk of the law. -/
import Derived.Test.YtolcpkpfndnkbaaFabJ
namespace Go.Proofs.Ytolcpkpfndnkbaa
open Go.RowKit

theorem checkR_bad {f : Fb} {L W lap : Int} {l : List Bx} (h : ¬ givenI f L W lap = 0) : checkR f L W lap l = (false, givenI f L W lap) := by
  unfold checkR; rw [if_neg h]
theorem checkR_many {f : Fb} {L W lap : Int} {l : List Bx} (h : givenI f L W lap = 0) (h2 : 40 < l.length) : checkR f L W lap l = (false, 4) := by
  unfold checkR; rw [if_pos h, if_pos h2]
theorem checkR_suff {f : Fb} {L W lap : Int} {l : List Bx} (h : givenI f L W lap = 0) (h2 : l.length ≤ 40) : checkR f L W lap l = (suffB f L W lap l, 0) := by
  unfold checkR suffB
  rw [if_pos h, if_neg (by omega)]
  by_cases ha : l.any (fun b => !sheetB f b) = true
  · rw [if_pos ha]
    have : l.all (sheetB f) = false := by
      obtain ⟨b, hb, hb2⟩ := List.any_eq_true.1 ha
      rw [List.all_eq_false]
      exact ⟨b, hb, by simpa using hb2⟩
    rw [this]; rfl
  · rw [if_neg ha]
    have : l.all (sheetB f) = true := List.all_eq_true.2 (any_take_none (by simpa using ha))
    rw [this]; rfl

set_option maxRecDepth 100000 in
set_option maxHeartbeats 2000000 in
theorem lawFabricChecks_c (f : Fb) (L W lap : Int) (l : List Bx) (v : Value) (hn : f.name.size ≤ 9223372036854775807) (_h1 : -9223372036854775808 ≤ L ∧ L ≤ 9223372036854775807) (_h2 : -9223372036854775808 ≤ W ∧ W ≤ 9223372036854775807) (_h3 : -9223372036854775808 ≤ lap ∧ lap ≤ 9223372036854775807) (w : World) (hl : Boxes w v l) :
    Calls Try.prog 4 #[(.agg #[.string f.name, .int .i64 f.main, .int .i64 f.cross, .int .i64 f.length, .int .i64 f.width, .int .i64 f.mass]), .int .i64 L, .int .i64 W, .int .i64 lap, v] w (Ret w (.bool true)) := by
  obtain ⟨av, cap, rfl, hcap, hcap2, _⟩ := hl.shape
  have HL := Lib.hid hl
  by_cases h60 : 60 < f.name.size
  · have hd : decide ((60 : Int) < (f.name.size : Int)) = true := by simp; omega
    clear hl
    go_enter Try.func4, Try.ntmps4
    go_wp2_with fail
    go_at_call 11; refine (fabAwake_c _).mono ?_; rintro e w' ⟨rfl, x0, rfl⟩
    go_wp2
    go_ret
    exact Ret.of (by (repeat (first | exact grow_refl _ | refine grow_ext _ ?_ | refine grow_alloc _ ?_ | refine grow_drew ?_)))
  have hd : decide ((60 : Int) < (f.name.size : Int)) = false := by simp; omega
  by_cases hmid : 12 < l.length ∧ l.length ≤ 40
  · have d12 : decide ((12 : Int) < (l.length : Int)) = true := by simp; omega
    have d40 : decide ((l.length : Int) ≤ 40) = true := by simp; omega
    clear hl
    go_enter Try.func4, Try.ntmps4
    go_wp2_with fail
    go_at_call 11; refine (fabAwake_c _).mono ?_; rintro e w' ⟨rfl, x0, rfl⟩
    go_wp2
    go_ret
    exact Ret.of (by (repeat (first | exact grow_refl _ | refine grow_ext _ ?_ | refine grow_alloc _ ?_ | refine grow_drew ?_)))
  by_cases hbig : 45 < l.length
  · have d12 : decide ((12 : Int) < (l.length : Int)) = true := by simp; omega
    have d40 : decide ((l.length : Int) ≤ 40) = false := by simp; omega
    have d45 : decide ((45 : Int) < (l.length : Int)) = true := by simp; omega
    clear hl
    go_enter Try.func4, Try.ntmps4
    go_wp2_with fail
    go_at_call 11; refine (fabAwake_c _).mono ?_; rintro e w' ⟨rfl, x0, rfl⟩
    go_wp2
    go_ret
    exact Ret.of (by (repeat (first | exact grow_refl _ | refine grow_ext _ ?_ | refine grow_alloc _ ?_ | refine grow_drew ?_)))
  have d45 : decide ((45 : Int) < (l.length : Int)) = false := by simp; omega
  by_cases hg : givenI f L W lap = 0
  · by_cases h40 : 40 < l.length
    · have d12 : decide ((12 : Int) < (l.length : Int)) = true := by simp; omega
      have d40 : decide ((l.length : Int) ≤ 40) = false := by simp; omega
      have d41 : decide ((40 : Int) < (l.length : Int)) = true := by simp; omega
      have HR := Lib.hid (checkR_many (l := l) hg h40)
      have HG := Lib.hid hg
      clear hl hg
      go_enter Try.func4, Try.ntmps4
      go_wp2_with fail
      go_at_call 11; refine (fabAwake_c _).mono ?_; rintro e w' ⟨rfl, x0, rfl⟩
      go_wp2_with fail
      go_at_call 17; refine (check_c f L W lap l _ hn _ (HL.out.below (by (repeat (first | exact grow_refl _ | refine grow_ext _ ?_ | refine grow_alloc _ ?_ | refine grow_drew ?_))))).mono ?_; rintro e w' ⟨rfl, x1, rfl⟩
      rw [HR.out]
      go_wp2_with fail
      go_at_call 18; refine (refGiven_c f L W lap hn _).mono ?_; rintro e w' ⟨rfl, x2, rfl⟩
      rw [HG.out]
      go_wp2
      go_ret
      exact Ret.of (by (repeat (first | exact grow_refl _ | refine grow_ext _ ?_ | refine grow_alloc _ ?_ | refine grow_drew ?_)))
    · have d12 : decide ((12 : Int) < (l.length : Int)) = false := by simp; omega
      have d41 : decide ((40 : Int) < (l.length : Int)) = false := by simp; omega
      have HR := Lib.hid (checkR_suff (l := l) hg (by omega))
      have HG := Lib.hid hg
      have hl40 : l.length ≤ 40 := by omega
      clear hl hg
      generalize suffB f L W lap l = z at HR
      go_enter Try.func4, Try.ntmps4
      go_wp2_with fail
      go_at_call 11; refine (fabAwake_c _).mono ?_; rintro e w' ⟨rfl, x0, rfl⟩
      go_wp2_with fail
      go_at_call 17; refine (check_c f L W lap l _ hn _ (HL.out.below (by (repeat (first | exact grow_refl _ | refine grow_ext _ ?_ | refine grow_alloc _ ?_ | refine grow_drew ?_))))).mono ?_; rintro e w' ⟨rfl, x1, rfl⟩
      rw [HR.out]
      go_wp2_with fail
      go_at_call 18; refine (refGiven_c f L W lap hn _).mono ?_; rintro e w' ⟨rfl, x2, rfl⟩
      rw [HG.out]
      go_wp2_with fail
      go_at_call 19; refine (refSuffice_c f L W lap l _ HG.out hl40 _ (HL.out.below (by (repeat (first | exact grow_refl _ | refine grow_ext _ ?_ | refine grow_alloc _ ?_ | refine grow_drew ?_))))).mono ?_; rintro e w' ⟨rfl, x3, rfl⟩
      rw [show suffB f L W lap l = z from (Prod.mk.inj ((checkR_suff (l := l) HG.out hl40).symm.trans HR.out)).1]
      go_wp2
      go_ret
      exact Ret.of (by (repeat (first | exact grow_refl _ | refine grow_ext _ ?_ | refine grow_alloc _ ?_ | refine grow_drew ?_)))
  · have HR := Lib.hid (checkR_bad (l := l) hg)
    have HGC := Lib.hid (fun w => refGiven_c f L W lap hn w)
    have HCC := Lib.hid (fun (w : World) (hb : Boxes w (.slice av l.length cap) l) => check_c f L W lap l _ hn w hb)
    rw [HR.out] at HCC
    clear hl HR
    generalize givenI f L W lap = e0 at *
    have hb : (e0 == 0) = false := by simpa using hg
    by_cases h12 : 12 < l.length
    · have d12 : decide ((12 : Int) < (l.length : Int)) = true := by simp; omega
      have d40 : decide ((l.length : Int) ≤ 40) = false := by simp; omega
      go_enter Try.func4, Try.ntmps4
      go_wp2_with fail
      go_at_call 11; refine (fabAwake_c _).mono ?_; rintro e w' ⟨rfl, x0, rfl⟩
      go_wp2_with fail
      go_at_call 17; refine (HCC.out _ (HL.out.below (by (repeat (first | exact grow_refl _ | refine grow_ext _ ?_ | refine grow_alloc _ ?_ | refine grow_drew ?_))))).mono ?_; rintro e w' ⟨rfl, x1, rfl⟩
      go_wp2_with fail
      go_at_call 18; refine (HGC.out _).mono ?_; rintro e w' ⟨rfl, x2, rfl⟩
      go_wp2
      go_ret
      exact Ret.of (by (repeat (first | exact grow_refl _ | refine grow_ext _ ?_ | refine grow_alloc _ ?_ | refine grow_drew ?_)))
    · have d12 : decide ((12 : Int) < (l.length : Int)) = false := by simp; omega
      go_enter Try.func4, Try.ntmps4
      go_wp2_with fail
      go_at_call 11; refine (fabAwake_c _).mono ?_; rintro e w' ⟨rfl, x0, rfl⟩
      go_wp2_with fail
      go_at_call 17; refine (HCC.out _ (HL.out.below (by (repeat (first | exact grow_refl _ | refine grow_ext _ ?_ | refine grow_alloc _ ?_ | refine grow_drew ?_))))).mono ?_; rintro e w' ⟨rfl, x1, rfl⟩
      go_wp2_with fail
      go_at_call 18; refine (HGC.out _).mono ?_; rintro e w' ⟨rfl, x2, rfl⟩
      go_wp2
      go_ret
      exact Ret.of (by (repeat (first | exact grow_refl _ | refine grow_ext _ ?_ | refine grow_alloc _ ?_ | refine grow_drew ?_)))

end Go.Proofs.Ytolcpkpfndnkbaa
