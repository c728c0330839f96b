/- right, and the reference box validity in the laws of solids. -/
import Derived.Test.YtafkibnkpcmmgaaSolW
namespace Go.Proofs.Ytafkibnkpcmmgaa
open Go.RowKit
set_option maxRecDepth 20000

theorem refValid17_v (b : Bx) (r : Bool) (h : validB b = r) (w : World) : Calls Try.prog 11 #[(.agg #[.int .i64 b.lx, .int .i64 b.ly, .int .i64 b.lz, .int .i64 b.hx, .int .i64 b.hy, .int .i64 b.hz])] w (Ret w (.bool r)) := by subst h; exact refValid_c b w

def rightB (l m : List Bx) : Bool := decide (l.length ≤ 4) && decide (m.length ≤ 4) && solidB l m
set_option maxHeartbeats 2000000 in
theorem right17_c (l m : List Bx) (u t : Value) (w : World) (hl : Boxes w u l) (hm : Boxes w t m) :
    Calls Try.prog 10 #[.agg #[u, t]] w (Ret w (.bool (rightB l m))) := by
  obtain ⟨ua, uc, rfl, _, _, _⟩ := hl.shape
  obtain ⟨ta, tc, rfl, _, _, _⟩ := hm.shape
  have HL := Lib.hid hl
  have HM := Lib.hid hm
  have HV := Lib.hid (fun w hl hm => refSolid_c l m (.slice ua l.length uc) (.slice ta m.length tc) w hl hm)
  clear hl hm
  by_cases h1 : l.length ≤ 4
  · have d1 : decide ((l.length : Int) ≤ 4) = true := by simp; omega
    by_cases h2 : m.length ≤ 4
    · have d2 : decide ((m.length : Int) ≤ 4) = true := by simp; omega
      have HR := Lib.hid (show rightB l m = solidB l m by unfold rightB; rw [decide_eq_true h1, decide_eq_true h2]; rfl)
      go_enter Try.func10, Try.ntmps10
      go_wp2_with fail
      go_at_call 24; refine (HV.out _ (HL.out.below (by (repeat (first | exact grow_refl _ | refine grow_ext _ ?_ | refine grow_alloc _ ?_ | refine grow_drew ?_)))) (HM.out.below (by (repeat (first | exact grow_refl _ | refine grow_ext _ ?_ | refine grow_alloc _ ?_ | refine grow_drew ?_))))).mono ?_; rintro e w' ⟨rfl, x1, rfl⟩
      go_wp2
      go_ret
      rw [HR.out]
      exact Ret.of (by (repeat (first | exact grow_refl _ | refine grow_ext _ ?_ | refine grow_alloc _ ?_ | refine grow_drew ?_)))
    · have d2 : decide ((m.length : Int) ≤ 4) = false := by simp; omega
      have HR := Lib.hid (show rightB l m = false by unfold rightB; rw [decide_eq_false h2]; simp)
      go_enter Try.func10, Try.ntmps10
      go_wp2
      go_ret
      rw [HR.out]
      exact Ret.of (by (repeat (first | exact grow_refl _ | refine grow_ext _ ?_ | refine grow_alloc _ ?_ | refine grow_drew ?_)))
  · have d1 : decide ((l.length : Int) ≤ 4) = false := by simp; omega
    have HR := Lib.hid (show rightB l m = false by unfold rightB; rw [decide_eq_false h1]; simp)
    go_enter Try.func10, Try.ntmps10
    go_wp2
    go_ret
    rw [HR.out]
    exact Ret.of (by (repeat (first | exact grow_refl _ | refine grow_ext _ ?_ | refine grow_alloc _ ?_ | refine grow_drew ?_)))
theorem right17_v (l m : List Bx) (u t : Value) (r : Bool) (h : rightB l m = r) (w : World) (hl : Boxes w u l) (hm : Boxes w t m) :
    Calls Try.prog 10 #[.agg #[u, t]] w (Ret w (.bool r)) := by subst h; exact right17_c l m u t w hl hm
theorem right_iff {l m : List Bx} : rightB l m = true ↔ (l.length ≤ 4 ∧ m.length ≤ 4) ∧ solidB l m = true := by unfold rightB; simp only [Bool.and_eq_true, decide_eq_true_iff]

end Go.Proofs.Ytafkibnkpcmmgaa
