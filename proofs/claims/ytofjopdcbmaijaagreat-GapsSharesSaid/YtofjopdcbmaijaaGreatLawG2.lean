/- GapsNear: the walk of the law. -/
import Derived.Test.YtofjopdcbmaijaaGreatGapK3
import Derived.Test.YtofjopdcbmaijaaGreatRefLK3
import Derived.Deep.DeepCutAuto
import Derived.Deep.CutBlock
namespace Go.Proofs.YtofjopdcbmaijaaGreat
open Go.RowKit
set_option maxRecDepth 20000

theorem small21_c (l : List Br) (rs : List Rn) (v u : Value) (w : World) (hl : Bars w v l) (hr : Runs w u rs) : Calls Tryz.prog 7 #[v, u] w (RetB w) := by
  have HS := Lib.hid (refSmall16_c l rs v u 6 16 (by omega) (by omega) w hl hr)
  clear hl hr
  go_enter Tryz.func7, Tryz.ntmps7
  go_wp2_with fail
  go_at_call 32; refine HS.out.mono ?_; rintro e w' ⟨q, rfl, x, rfl⟩
  go_wp2
  go_ret
  exact ⟨_, rfl, ext_of (by (repeat (first | exact grow_refl _ | refine grow_ext _ ?_ | refine grow_alloc _ ?_ | refine grow_drew ?_)))⟩

/-- A Bool comes back; true only if the runs are laid, and x is a length. -/
def RetR (w : World) (l : List Br) (rs : List Rn) (x : Int) : Ending → World → Prop := fun e W => ∃ q, e = .returned (.bool q) ∧ (q = true → laidB l rs = true ∧ -1048576 ≤ x ∧ x ≤ 1048576) ∧ ∃ y, W = ext w y

set_option maxHeartbeats 2000000 in
theorem right21_c (l : List Br) (rs : List Rn) (v u : Value) (x : Int) (w : World) (hl : Bars w v l) (hr : Runs w u rs) : Calls Tryz.prog 24 #[v, u, .int .i64 x] w (RetR w l rs x) := by
  have HL := Lib.hid hl
  have HR := Lib.hid hr
  clear hl hr
  cases hv : laidB l rs
  all_goals
    have HV := Lib.hid hv
    clear hv
    go_enter Tryz.func24, Tryz.ntmps24
    go_wp2_with fail
    go_at_call 7; refine (small21_c l rs v u _ (HL.out.below (by (repeat (first | exact grow_refl _ | refine grow_ext _ ?_ | refine grow_alloc _ ?_ | refine grow_drew ?_)))) (HR.out.below (by (repeat (first | exact grow_refl _ | refine grow_ext _ ?_ | refine grow_alloc _ ?_ | refine grow_drew ?_))))).mono ?_; rintro e w' ⟨q, rfl, x1, rfl⟩
    cases q
    · go_wp2
      go_ret
      exact ⟨_, rfl, fun h => (by cases h), ext_of (by (repeat (first | exact grow_refl _ | refine grow_ext _ ?_ | refine grow_alloc _ ?_ | refine grow_drew ?_)))⟩
    go_wp2_with fail
    go_at_call 10; refine (refLaid_v l rs v u _ HV.out _ (HL.out.below (by (repeat (first | exact grow_refl _ | refine grow_ext _ ?_ | refine grow_alloc _ ?_ | refine grow_drew ?_)))) (HR.out.below (by (repeat (first | exact grow_refl _ | refine grow_ext _ ?_ | refine grow_alloc _ ?_ | refine grow_drew ?_))))).mono ?_; rintro e w' ⟨rfl, x2, rfl⟩
  · go_wp2
    go_ret
    exact ⟨_, rfl, fun h => (by cases h), ext_of (by (repeat (first | exact grow_refl _ | refine grow_ext _ ?_ | refine grow_alloc _ ?_ | refine grow_drew ?_)))⟩
  · obtain ⟨q, hq⟩ : ∃ q, decide (-1048576 ≤ x ∧ x ≤ 1048576) = q := ⟨_, rfl⟩
    have HQ := Lib.hid hq
    clear hq
    go_wp2_with fail
    go_at_call 11; refine (refIsLen_v x q HQ.out _).mono ?_; rintro e w' ⟨rfl, x3, rfl⟩
    go_wp2
    go_ret
    exact ⟨_, rfl, fun h => ⟨HV.out, by have h1 := HQ.out; rw [h] at h1; simpa using h1⟩, ext_of (by (repeat (first | exact grow_refl _ | refine grow_ext _ ?_ | refine grow_alloc _ ?_ | refine grow_drew ?_)))⟩

theorem gapB_bound {a b : Bx} (ha : SmallB a) (hb : SmallB b) : -4000000 ≤ gapB a b ∧ gapB a b ≤ 4000000 := by
  unfold gapB; unfold SmallB at ha hb; omega

attribute [local go_sem] run_max_int4

end Go.Proofs.YtofjopdcbmaijaaGreat
