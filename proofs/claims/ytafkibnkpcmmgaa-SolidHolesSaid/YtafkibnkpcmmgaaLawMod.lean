/- Modest solids. -/
import Derived.Test.YtafkibnkpcmmgaaRight
import Derived.Test.YtafkibnkpcmmgaaPlainK0
namespace Go.Proofs.Ytafkibnkpcmmgaa
open Go.RowKit
set_option maxRecDepth 20000

set_option maxHeartbeats 1000000 in
theorem modest1_c (b : Bx) (w : World) : Calls Try.prog 49 #[(.agg #[.int .i64 b.lx, .int .i64 b.ly, .int .i64 b.lz, .int .i64 b.hx, .int .i64 b.hy, .int .i64 b.hz])] w (Ret w (.bool (!modestB b))) := by
  have HI := Lib.hid (modest_iff (b := b))
  go_enter Try.func49, Try.ntmps49
  go_wp2
  all_goals
    go_ret
    exact Ret.bool (by have h := HI.out; cases hm : modestB b <;> rw [hm] at h <;> simp at h ⊢ <;> omega) (by (repeat (first | exact grow_refl _ | refine grow_ext _ ?_ | refine grow_alloc _ ?_ | refine grow_drew ?_)))
theorem enters_modest1 : Enters 49 := enters_of Try.func49 (by decide) (by simp [Try.f49])

def modestS (l m : List Bx) : Bool := (l ++ m).all modestB
set_option maxHeartbeats 1000000 in
theorem modest17_c (l m : List Bx) (u t : Value) (hll : l.length ≤ 1000) (hml : m.length ≤ 1000) (w : World) (hl : Boxes w u l) (hm : Boxes w t m) :
    Calls Try.prog 17 #[.agg #[u, t]] w (Ret w (.bool (modestS l m))) := by
  obtain ⟨ua, uc, rfl, _, _, _⟩ := hl.shape
  obtain ⟨ta, tc, rfl, _, _, _⟩ := hm.shape
  have HL := Lib.hid hl
  have HM := Lib.hid hm
  have HA := Lib.hid (show modestS l m = !((l ++ m).any fun c => !modestB c) by unfold modestS; rw [List.all_eq_not_any_not])
  clear hl hm
  go_enter Try.func17, Try.ntmps17
  go_wp2_with fail
  go_at_call 20; refine Calls.mono (concat_c l m _ _ _ _ (HL.out.below (by (repeat (first | exact grow_refl _ | refine grow_ext _ ?_ | refine grow_alloc _ ?_ | refine grow_drew ?_)))) (HM.out.below (by (repeat (first | exact grow_refl _ | refine grow_ext _ ?_ | refine grow_alloc _ ?_ | refine grow_drew ?_)))) (by omega) (by omega) (by simp [go_sem]) (by simp [go_sem])) ?_; rintro e w' ⟨v1, rfl, hown1, x1, rfl⟩
  have P1 := Lib.hid (Boxes.of_own hown1)
  clear hown1
  go_wp2_with fail
  go_at_call 45
  refine Calls.mono (containsFunc_c 49 enters_modest1 #[] (fun c => !modestB c) (l ++ m) _ _ (P1.out.below (by (repeat (first | exact grow_refl _ | refine grow_ext _ ?_ | refine grow_alloc _ ?_ | refine grow_drew ?_)))) (fun c y _ => modest1_c c _)) ?_
  rintro e w' ⟨rfl, x2, rfl⟩
  go_wp2
  go_ret
  exact Ret.bool (by rw [HA.out]; try simp) (by (repeat (first | exact grow_refl _ | refine grow_ext _ ?_ | refine grow_alloc _ ?_ | refine grow_drew ?_)))
theorem modest17_v (l m : List Bx) (u t : Value) (r : Bool) (h : modestS l m = r) (hll : l.length ≤ 1000) (hml : m.length ≤ 1000) (w : World) (hl : Boxes w u l) (hm : Boxes w t m) :
    Calls Try.prog 17 #[.agg #[u, t]] w (Ret w (.bool r)) := by subst h; exact modest17_c l m u t hll hml w hl hm

end Go.Proofs.Ytafkibnkpcmmgaa
