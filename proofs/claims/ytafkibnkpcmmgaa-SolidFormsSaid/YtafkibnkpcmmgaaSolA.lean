/- Thick boxes, valid solids, what a hole opens: the program's functions and the reference's. -/
import Derived.Test.YtafkibnkpcmmgaaPlainC
import Derived.Test.YtafkibnkpcmmgaaRefC
namespace Go.Proofs.Ytafkibnkpcmmgaa
open Go.RowKit

theorem thick_val {b : Bx} (h : validB b = true) : thickB b = decide (b.lx < b.hx ∧ b.ly < b.hy ∧ b.lz < b.hz) := by unfold thickB; rw [h]; rfl

set_option maxHeartbeats 1000000 in
theorem thick_c (b : Bx) (w : World) : Calls Try.prog 61 #[(.agg #[.int .i64 b.lx, .int .i64 b.ly, .int .i64 b.lz, .int .i64 b.hx, .int .i64 b.hy, .int .i64 b.hz])] w (Ret w (.bool (thickB b))) := by
  cases hv : validB b
  · have HR := Lib.hid (show thickB b = false by unfold thickB; rw [hv]; rfl)
    have HV := Lib.hid hv
    clear hv
    go_enter Try.func61, Try.ntmps61
    go_wp2_with fail
    go_at_call 44; refine (valid_v b _ HV.out _).mono ?_; rintro e w' ⟨rfl, x1, rfl⟩
    go_wp2
    go_ret
    rw [HR.out]
    exact Ret.of (by (repeat (first | exact grow_refl _ | refine grow_ext _ ?_ | refine grow_alloc _ ?_ | refine grow_drew ?_)))
  · have HR := Lib.hid (thick_val hv)
    have HV := Lib.hid hv
    clear hv
    go_enter Try.func61, Try.ntmps61
    go_wp2_with fail
    go_at_call 44; refine (valid_v b _ HV.out _).mono ?_; rintro e w' ⟨rfl, x1, rfl⟩
    go_wp2
    all_goals
      go_ret
      rw [HR.out]
      exact Ret.bool (by first | (simp [*]; done) | (simp; omega)) (by (repeat (first | exact grow_refl _ | refine grow_ext _ ?_ | refine grow_alloc _ ?_ | refine grow_drew ?_)))
theorem thick_v (b : Bx) (r : Bool) (h : thickB b = r) (w : World) : Calls Try.prog 61 #[(.agg #[.int .i64 b.lx, .int .i64 b.ly, .int .i64 b.lz, .int .i64 b.hx, .int .i64 b.hy, .int .i64 b.hz])] w (Ret w (.bool r)) := by subst h; exact thick_c b w

set_option maxHeartbeats 1000000 in
theorem refThick_c (b : Bx) (w : World) : Calls Try.prog 57 #[(.agg #[.int .i64 b.lx, .int .i64 b.ly, .int .i64 b.lz, .int .i64 b.hx, .int .i64 b.hy, .int .i64 b.hz])] w (Ret w (.bool (thickB b))) := by
  cases hv : validB b
  · have HR := Lib.hid (show thickB b = false by unfold thickB; rw [hv]; rfl)
    have HV := Lib.hid hv
    clear hv
    go_enter Try.func57, Try.ntmps57
    go_wp2_with fail
    go_at_call 11; refine (refValid_c b _).mono ?_; rintro e w' ⟨rfl, x1, rfl⟩
    rw [HV.out]
    go_wp2
    go_ret
    rw [HR.out]
    exact Ret.of (by (repeat (first | exact grow_refl _ | refine grow_ext _ ?_ | refine grow_alloc _ ?_ | refine grow_drew ?_)))
  · have HR := Lib.hid (thick_val hv)
    have HV := Lib.hid hv
    clear hv
    go_enter Try.func57, Try.ntmps57
    go_wp2_with fail
    go_at_call 11; refine (refValid_c b _).mono ?_; rintro e w' ⟨rfl, x1, rfl⟩
    rw [HV.out]
    go_wp2
    all_goals
      go_ret
      rw [HR.out]
      exact Ret.bool (by first | (simp [*]; done) | (simp; omega)) (by (repeat (first | exact grow_refl _ | refine grow_ext _ ?_ | refine grow_alloc _ ?_ | refine grow_drew ?_)))
theorem refThick_v (b : Bx) (r : Bool) (h : thickB b = r) (w : World) : Calls Try.prog 57 #[(.agg #[.int .i64 b.lx, .int .i64 b.ly, .int .i64 b.lz, .int .i64 b.hx, .int .i64 b.hy, .int .i64 b.hz])] w (Ret w (.bool r)) := by subst h; exact refThick_c b w

set_option maxHeartbeats 1000000 in
theorem valid1_c (b : Bx) (w : World) : Calls Try.prog 60 #[(.agg #[.int .i64 b.lx, .int .i64 b.ly, .int .i64 b.lz, .int .i64 b.hx, .int .i64 b.hy, .int .i64 b.hz])] w (Ret w (.bool (!thickB b))) := by
  go_enter Try.func60, Try.ntmps60
  go_wp2_with fail
  go_at_call 61; refine (thick_c b _).mono ?_; rintro e w' ⟨rfl, x1, rfl⟩
  go_wp2
  go_ret
  exact Ret.of (by (repeat (first | exact grow_refl _ | refine grow_ext _ ?_ | refine grow_alloc _ ?_ | refine grow_drew ?_)))
theorem enters_valid1 : Enters 60 := enters_of Try.func60 (by decide) (by simp [Try.f60])

set_option maxHeartbeats 2000000 in
theorem opens_c (h b : Bx) (w : World) : Calls Try.prog 47 #[(.agg #[.int .i64 h.lx, .int .i64 h.ly, .int .i64 h.lz, .int .i64 h.hx, .int .i64 h.hy, .int .i64 h.hz]), (.agg #[.int .i64 b.lx, .int .i64 b.ly, .int .i64 b.lz, .int .i64 b.hx, .int .i64 b.hy, .int .i64 b.hz])] w (Ret w (.bool (opensB h b))) := by
  go_enter Try.func47, Try.ntmps47
  go_wp2
  all_goals
    go_ret
    exact Ret.bool (by unfold opensB; first | (simp [*]; done) | (simp; omega)) (by (repeat (first | exact grow_refl _ | refine grow_ext _ ?_ | refine grow_alloc _ ?_ | refine grow_drew ?_)))

theorem any_thin (l : List Bx) : (l.any fun b => !thickB b) = !l.all thickB := by
  induction l with
  | nil => rfl
  | cons a l ih => rw [List.any_cons, List.all_cons, ih, Bool.not_and]
theorem thin_c (l : List Bx) (v : Value) (w : World) (hl : Boxes w v l) :
    Calls Try.prog 45 #[v, .func (.func 60) #[] #[]] w (Ret w (.bool (!l.all thickB))) := by
  rw [← any_thin]
  exact containsFunc_c 60 enters_valid1 #[] (fun b => !thickB b) l v w hl (fun b x _ => valid1_c b _)

set_option maxHeartbeats 2000000 in
theorem solidValid_c (l m : List Bx) (u t : Value) (w : World) (hl : Boxes w u l) (hm : Boxes w t m) : Calls Try.prog 30 #[.agg #[u, t]] w (Ret w (.bool (solidB l m))) := by
  obtain ⟨a, cap, rfl, hcap, hcap2, _⟩ := hl.shape
  obtain ⟨a', cap', rfl, hcap', hcap2', _⟩ := hm.shape
  have HL := Lib.hid hl
  have HM := Lib.hid hm
  clear hl hm
  by_cases h1 : 1 ≤ l.length ∧ l.length ≤ 20 ∧ m.length ≤ 20
  · obtain ⟨h1, h2, h3⟩ := h1
    have d1 : decide ((1 : Int) ≤ (l.length : Int)) = true := by simp; omega
    have d2 : decide ((l.length : Int) ≤ 20) = true := by simp; omega
    have d3 : decide ((m.length : Int) ≤ 20) = true := by simp; omega
    have HR := Lib.hid (show solidB l m = (l.all thickB && m.all thickB) by unfold solidB; simp [h1, h2, h3])
    have HA := Lib.hid (fun w hl => thin_c l (.slice a l.length cap) w hl)
    have HB := Lib.hid (fun w hm => thin_c m (.slice a' m.length cap') w hm)
    clear h1 h2 h3
    generalize l.all thickB = p at *
    generalize m.all thickB = q at *
    cases p
    · go_enter Try.func30, Try.ntmps30
      go_wp2_with fail
      go_at_call 45; refine (HA.out _ (HL.out.below (by (repeat (first | exact grow_refl _ | refine grow_ext _ ?_ | refine grow_alloc _ ?_ | refine grow_drew ?_))))).mono ?_; rintro e w' ⟨rfl, x1, rfl⟩
      go_wp2
      go_ret
      rw [HR.out]
      exact Ret.of (by (repeat (first | exact grow_refl _ | refine grow_ext _ ?_ | refine grow_alloc _ ?_ | refine grow_drew ?_)))
    · cases q
      all_goals
        go_enter Try.func30, Try.ntmps30
        go_wp2_with fail
        go_at_call 45; refine (HA.out _ (HL.out.below (by (repeat (first | exact grow_refl _ | refine grow_ext _ ?_ | refine grow_alloc _ ?_ | refine grow_drew ?_))))).mono ?_; rintro e w' ⟨rfl, x1, rfl⟩
        go_wp2_with fail
        go_at_call 45; refine (HB.out _ (HM.out.below (by (repeat (first | exact grow_refl _ | refine grow_ext _ ?_ | refine grow_alloc _ ?_ | refine grow_drew ?_))))).mono ?_; rintro e w' ⟨rfl, x2, rfl⟩
        go_wp2
        go_ret
        rw [HR.out]
        exact Ret.of (by (repeat (first | exact grow_refl _ | refine grow_ext _ ?_ | refine grow_alloc _ ?_ | refine grow_drew ?_)))
  · have HR := Lib.hid (show solidB l m = false by
      cases hs : solidB l m
      · rfl
      · have := solid_iff.1 hs; omega)
    by_cases g1 : 1 ≤ l.length
    · have d1 : decide ((1 : Int) ≤ (l.length : Int)) = true := by simp; omega
      by_cases g2 : l.length ≤ 20
      · have d2 : decide ((l.length : Int) ≤ 20) = true := by simp; omega
        have d3 : decide ((m.length : Int) ≤ 20) = false := by simp; omega
        clear h1 g1 g2
        go_enter Try.func30, Try.ntmps30
        go_wp2
        go_ret
        rw [HR.out]
        exact Ret.of (by (repeat (first | exact grow_refl _ | refine grow_ext _ ?_ | refine grow_alloc _ ?_ | refine grow_drew ?_)))
      · have d2 : decide ((l.length : Int) ≤ 20) = false := by simp; omega
        clear h1 g1 g2
        go_enter Try.func30, Try.ntmps30
        go_wp2
        go_ret
        rw [HR.out]
        exact Ret.of (by (repeat (first | exact grow_refl _ | refine grow_ext _ ?_ | refine grow_alloc _ ?_ | refine grow_drew ?_)))
    · have d1 : decide ((1 : Int) ≤ (l.length : Int)) = false := by simp; omega
      clear h1 g1
      go_enter Try.func30, Try.ntmps30
      go_wp2
      go_ret
      rw [HR.out]
      exact Ret.of (by (repeat (first | exact grow_refl _ | refine grow_ext _ ?_ | refine grow_alloc _ ?_ | refine grow_drew ?_)))
theorem solidValid_v (l m : List Bx) (u t : Value) (r : Bool) (h : solidB l m = r) (w : World) (hl : Boxes w u l) (hm : Boxes w t m) : Calls Try.prog 30 #[.agg #[u, t]] w (Ret w (.bool r)) := by subst h; exact solidValid_c l m u t w hl hm

end Go.Proofs.Ytafkibnkpcmmgaa
