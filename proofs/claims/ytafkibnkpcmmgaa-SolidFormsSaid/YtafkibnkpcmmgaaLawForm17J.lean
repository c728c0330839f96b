/- Right, LawForm17 in one text. -/
import Derived.Test.YtafkibnkpcmmgaaSolW
import Derived.Test.YtafkibnkpcmmgaaSolR
import Derived.Test.YtafkibnkpcmmgaaMemA
import Derived.Test.YtafkibnkpcmmgaaOpenM
namespace Go.Proofs.Ytafkibnkpcmmgaa
open Go.RowKit

theorem refValid17_v (b : Bx) (r : Bool) (h : validB b = r) (w : World) : Calls Try.prog 11 #[(.agg #[.int .i64 b.lx, .int .i64 b.ly, .int .i64 b.lz, .int .i64 b.hx, .int .i64 b.hy, .int .i64 b.hz])] w (Ret w (.bool r)) := by subst h; exact refValid_c b w

def rightB (l m : List Bx) : Bool := decide (l.length ≤ 4) && decide (m.length ≤ 4) && solidB l m
set_option maxHeartbeats 2000000 in
theorem right17_c (l m : List Bx) (u t : Value) (w : World) (hl : Boxes w u l) (hm : Boxes w t m) :
    Calls Try.prog 10 #[.agg #[u, t]] w (Ret w (.bool (rightB l m))) := by
  obtain ⟨ua, uc, rfl, _, _, _⟩ := hl.shape
  obtain ⟨ta, tc, rfl, _, _, _⟩ := hm.shape
  have HL := Lib.hid hl
  have HM := Lib.hid hm
  have HV := Lib.hid (fun w hl hm => refSolid_c l m (.slice ua l.length uc) (.slice ta m.length tc) w hl hm)
  clear hl hm
  by_cases h1 : l.length ≤ 4
  · have d1 : decide ((l.length : Int) ≤ 4) = true := by simp; omega
    by_cases h2 : m.length ≤ 4
    · have d2 : decide ((m.length : Int) ≤ 4) = true := by simp; omega
      have HR := Lib.hid (show rightB l m = solidB l m by unfold rightB; rw [decide_eq_true h1, decide_eq_true h2]; rfl)
      go_enter Try.func10, Try.ntmps10
      go_wp2_with fail
      go_at_call 24; refine (HV.out _ (HL.out.below (by (repeat (first | exact grow_refl _ | refine grow_ext _ ?_ | refine grow_alloc _ ?_ | refine grow_drew ?_)))) (HM.out.below (by (repeat (first | exact grow_refl _ | refine grow_ext _ ?_ | refine grow_alloc _ ?_ | refine grow_drew ?_))))).mono ?_; rintro e w' ⟨rfl, x1, rfl⟩
      go_wp2
      go_ret
      rw [HR.out]
      exact Ret.of (by (repeat (first | exact grow_refl _ | refine grow_ext _ ?_ | refine grow_alloc _ ?_ | refine grow_drew ?_)))
    · have d2 : decide ((m.length : Int) ≤ 4) = false := by simp; omega
      have HR := Lib.hid (show rightB l m = false by unfold rightB; rw [decide_eq_false h2]; simp)
      go_enter Try.func10, Try.ntmps10
      go_wp2
      go_ret
      rw [HR.out]
      exact Ret.of (by (repeat (first | exact grow_refl _ | refine grow_ext _ ?_ | refine grow_alloc _ ?_ | refine grow_drew ?_)))
  · have d1 : decide ((l.length : Int) ≤ 4) = false := by simp; omega
    have HR := Lib.hid (show rightB l m = false by unfold rightB; rw [decide_eq_false h1]; simp)
    go_enter Try.func10, Try.ntmps10
    go_wp2
    go_ret
    rw [HR.out]
    exact Ret.of (by (repeat (first | exact grow_refl _ | refine grow_ext _ ?_ | refine grow_alloc _ ?_ | refine grow_drew ?_)))
theorem right17_v (l m : List Bx) (u t : Value) (r : Bool) (h : rightB l m = r) (w : World) (hl : Boxes w u l) (hm : Boxes w t m) :
    Calls Try.prog 10 #[.agg #[u, t]] w (Ret w (.bool r)) := by subst h; exact right17_c l m u t w hl hm
theorem right_iff {l m : List Bx} : rightB l m = true ↔ (l.length ≤ 4 ∧ m.length ≤ 4) ∧ solidB l m = true := by unfold rightB; simp only [Bool.and_eq_true, decide_eq_true_iff]

end Go.Proofs.Ytafkibnkpcmmgaa

namespace Go.Proofs.Ytafkibnkpcmmgaa
open Go.RowKit

set_option maxHeartbeats 1000000 in
theorem smallS_v (l m : List Bx) (u t : Value) (r : Bool) (h : smallB l.length m.length 4 = r) (w : World) (hl : Boxes w u l) (hm : Boxes w t m) :
    Calls Try.prog 29 #[.agg #[u, t]] w (Ret w (.bool r)) := by
  have HL := Lib.hid hl
  have HM := Lib.hid hm
  have HR := Lib.hid (refSmall_v l m u t 4 r h)
  clear hl hm h
  go_enter Try.func29, Try.ntmps29
  go_wp2_with fail
  go_at_call 59; refine (HR.out _ (HL.out.below (by (repeat (first | exact grow_refl _ | refine grow_ext _ ?_ | refine grow_alloc _ ?_ | refine grow_drew ?_)))) (HM.out.below (by (repeat (first | exact grow_refl _ | refine grow_ext _ ?_ | refine grow_alloc _ ?_ | refine grow_drew ?_))))).mono ?_; rintro e w' ⟨rfl, x1, rfl⟩
  go_wp2
  go_ret
  exact Ret.of (by (repeat (first | exact grow_refl _ | refine grow_ext _ ?_ | refine grow_alloc _ ?_ | refine grow_drew ?_)))

set_option maxRecDepth 100000 in
set_option maxHeartbeats 4000000 in
theorem lawForms17 (s : ByteArray) (l m : List Bx) (u t : Value) (c a p : Int) (qx qy qz : Int) (b : Bx) (hsz : s.size ≤ 9223372036854775807) (w : World) (hl : Boxes w u l) (hm : Boxes w t m) :
    Calls Try.prog 6 #[.agg #[.string s, u, t, .int .i64 c, .int .i64 a, .int .i64 p], (.agg #[.int .i64 qx, .int .i64 qy, .int .i64 qz]), (.agg #[.int .i64 b.lx, .int .i64 b.ly, .int .i64 b.lz, .int .i64 b.hx, .int .i64 b.hy, .int .i64 b.hz])] w (Ret w (.bool true)) := by
  obtain ⟨ua, uc, rfl, _, _, _⟩ := hl.shape
  obtain ⟨ta, tc, rfl, _, _, _⟩ := hm.shape
  have HL := Lib.hid hl
  have HM := Lib.hid hm
  clear hl hm
  cases hs : smallB l.length m.length 4
  · have HS := Lib.hid hs
    clear hs
    go_enter Try.func6, Try.ntmps6
    go_wp2_with fail
    go_at_call 9; refine (awake17_c _).mono ?_; rintro e w' ⟨rfl, x0, rfl⟩
    go_wp2_with fail
    go_at_call 29; refine (smallS_v l m _ _ _ HS.out _ (HL.out.below (by (repeat (first | exact grow_refl _ | refine grow_ext _ ?_ | refine grow_alloc _ ?_ | refine grow_drew ?_)))) (HM.out.below (by (repeat (first | exact grow_refl _ | refine grow_ext _ ?_ | refine grow_alloc _ ?_ | refine grow_drew ?_))))).mono ?_; rintro e w' ⟨rfl, x1, rfl⟩
    go_wp2
    go_ret
    exact Ret.of (by (repeat (first | exact grow_refl _ | refine grow_ext _ ?_ | refine grow_alloc _ ?_ | refine grow_drew ?_)))
  have HS := Lib.hid hs
  clear hs
  by_cases hn : 60 < s.size
  · have d1 : decide ((60 : Int) < (s.size : Int)) = true := by simp; omega
    go_enter Try.func6, Try.ntmps6
    go_wp2_with fail
    go_at_call 9; refine (awake17_c _).mono ?_; rintro e w' ⟨rfl, x0, rfl⟩
    go_wp2_with fail
    go_at_call 29; refine (smallS_v l m _ _ _ HS.out _ (HL.out.below (by (repeat (first | exact grow_refl _ | refine grow_ext _ ?_ | refine grow_alloc _ ?_ | refine grow_drew ?_)))) (HM.out.below (by (repeat (first | exact grow_refl _ | refine grow_ext _ ?_ | refine grow_alloc _ ?_ | refine grow_drew ?_))))).mono ?_; rintro e w' ⟨rfl, x1, rfl⟩
    go_wp2
    go_ret
    exact Ret.of (by (repeat (first | exact grow_refl _ | refine grow_ext _ ?_ | refine grow_alloc _ ?_ | refine grow_drew ?_)))
  have d1 : decide ((60 : Int) < (s.size : Int)) = false := by simp; omega
  have C1 := Lib.hid (fun w hl hm => solidHull_c l m (.slice ua l.length uc) (.slice ta m.length tc) w hl hm)
  have C2 := Lib.hid (fun w hl hm => solidInside_c l m (.slice ua l.length uc) (.slice ta m.length tc) qx qy qz w hl hm)
  have C3 := Lib.hid (fun w hl hm => solidContains_c l m (.slice ua l.length uc) (.slice ta m.length tc) b w hl hm)
  obtain ⟨mb, hmb⟩ : ∃ r, memberB s l m c a p = r := ⟨_, rfl⟩
  have M1 := Lib.hid (fun w hl hm => solidMember_v s l m (.slice ua l.length uc) (.slice ta m.length tc) c a p _ hmb hsz w hl hm)
  have M2 := Lib.hid (fun w hl hm => refMember_v s l m (.slice ua l.length uc) (.slice ta m.length tc) c a p _ hmb hsz w hl hm)
  clear hmb hn
  cases hb : solidB l m
  · rw [show hullS l m = (zeroX, 1) by unfold hullS; rw [hb]; rfl] at C1
    rw [show insideR l m qx qy qz = (false, 1) by unfold insideR; rw [hb]; rfl] at C2
    rw [show containsR17 l m b = (false, 1) by unfold containsR17; rw [hb]; simp] at C3
    dsimp only [zeroX] at C1
    have HB := Lib.hid hb
    clear hb
    go_enter Try.func6, Try.ntmps6
    go_wp2_with fail
    go_at_call 9; refine (awake17_c _).mono ?_; rintro e w' ⟨rfl, x0, rfl⟩
    go_wp2_with fail
    go_at_call 29; refine (smallS_v l m _ _ _ HS.out _ (HL.out.below (by (repeat (first | exact grow_refl _ | refine grow_ext _ ?_ | refine grow_alloc _ ?_ | refine grow_drew ?_)))) (HM.out.below (by (repeat (first | exact grow_refl _ | refine grow_ext _ ?_ | refine grow_alloc _ ?_ | refine grow_drew ?_))))).mono ?_; rintro e w' ⟨rfl, x1, rfl⟩
    go_wp2_with fail
    go_at_call 19; refine (C1.out _ (HL.out.below (by (repeat (first | exact grow_refl _ | refine grow_ext _ ?_ | refine grow_alloc _ ?_ | refine grow_drew ?_)))) (HM.out.below (by (repeat (first | exact grow_refl _ | refine grow_ext _ ?_ | refine grow_alloc _ ?_ | refine grow_drew ?_))))).mono ?_; rintro e w' ⟨rfl, x2, rfl⟩
    go_wp2_with fail
    go_at_call 16; refine (C2.out _ (HL.out.below (by (repeat (first | exact grow_refl _ | refine grow_ext _ ?_ | refine grow_alloc _ ?_ | refine grow_drew ?_)))) (HM.out.below (by (repeat (first | exact grow_refl _ | refine grow_ext _ ?_ | refine grow_alloc _ ?_ | refine grow_drew ?_))))).mono ?_; rintro e w' ⟨rfl, x3, rfl⟩
    go_wp2_with fail
    go_at_call 15; refine (C3.out _ (HL.out.below (by (repeat (first | exact grow_refl _ | refine grow_ext _ ?_ | refine grow_alloc _ ?_ | refine grow_drew ?_)))) (HM.out.below (by (repeat (first | exact grow_refl _ | refine grow_ext _ ?_ | refine grow_alloc _ ?_ | refine grow_drew ?_))))).mono ?_; rintro e w' ⟨rfl, x4, rfl⟩
    go_wp2_with fail
    refine wp_region_grows (by kernel_rfl) (by kernel_rfl) ?_
    repeat (go_big_quiet_step (first
      | (go_at_call 30; exact Calls.quiet_ext (solidValid_v l m _ _ _ HB.out _ (HL.out.below (by (repeat (first | exact grow_refl _ | refine grow_ext _ ?_ | refine grow_alloc _ ?_ | refine grow_drew ?_)))) (HM.out.below (by (repeat (first | exact grow_refl _ | refine grow_ext _ ?_ | refine grow_alloc _ ?_ | refine grow_drew ?_))))))
      | (go_at_call 24; exact Calls.quiet_ext (refSolid_v l m _ _ _ HB.out _ (HL.out.below (by (repeat (first | exact grow_refl _ | refine grow_ext _ ?_ | refine grow_alloc _ ?_ | refine grow_drew ?_)))) (HM.out.below (by (repeat (first | exact grow_refl _ | refine grow_ext _ ?_ | refine grow_alloc _ ?_ | refine grow_drew ?_))))))
      | (go_at_call 31; exact Calls.quiet_ext (M1.out _ (HL.out.below (by (repeat (first | exact grow_refl _ | refine grow_ext _ ?_ | refine grow_alloc _ ?_ | refine grow_drew ?_)))) (HM.out.below (by (repeat (first | exact grow_refl _ | refine grow_ext _ ?_ | refine grow_alloc _ ?_ | refine grow_drew ?_))))))
      | (go_at_call 32; exact Calls.quiet_ext (M2.out _ (HL.out.below (by (repeat (first | exact grow_refl _ | refine grow_ext _ ?_ | refine grow_alloc _ ?_ | refine grow_drew ?_)))) (HM.out.below (by (repeat (first | exact grow_refl _ | refine grow_ext _ ?_ | refine grow_alloc _ ?_ | refine grow_drew ?_))))))))
    refine wpQuiet_nil ?_; rintro _ ⟨xq, rfl⟩
    go_wp2_with fail
    go_at_call 24; refine (refSolid_v l m _ _ _ HB.out _ (HL.out.below (by (repeat (first | exact grow_refl _ | refine grow_ext _ ?_ | refine grow_alloc _ ?_ | refine grow_drew ?_)))) (HM.out.below (by (repeat (first | exact grow_refl _ | refine grow_ext _ ?_ | refine grow_alloc _ ?_ | refine grow_drew ?_))))).mono ?_; rintro e w' ⟨rfl, x5, rfl⟩
    go_wp2
    go_ret
    exact Ret.of (by (repeat (first | exact grow_refl _ | refine grow_ext _ ?_ | refine grow_alloc _ ?_ | refine grow_drew ?_)))
  have hsi := solid_iff.1 hb
  rw [show hullS l m = (hullX l, 0) by unfold hullS; rw [hb]; rfl] at C1
  have RH := Lib.hid (fun w hl => refSolHull_c l (.slice ua l.length uc) (.slice ta m.length tc) (by omega) w hl)
  have RI := Lib.hid (fun w hl hm => refInside17_c l m (.slice ua l.length uc) (.slice ta m.length tc) qx qy qz (by omega) w hl hm)
  have RC := Lib.hid (fun hb w hl hm => refContains17_c l m (.slice ua l.length uc) (.slice ta m.length tc) b (by omega) hb w hl hm)
  rw [show insideR l m qx qy qz = (if validB (ptX qx qy qz) = true then (containsS l m (ptX qx qy qz), 0) else (false, 2)) by unfold insideR; rw [hb]; rfl] at C2
  rw [show containsR17 l m b = (if validB b = true then (containsS l m b, 0) else (false, 1)) by unfold containsR17; rw [hb]; simp] at C3
  generalize containsS l m b = cs at *
  generalize containsS l m (ptX qx qy qz) = ct at *
  generalize hullX l = H at *
  have HB := Lib.hid hb
  clear hb hsi
  have HO := Lib.hid (fun h : validB b = true => (valid_iff.1 h))
  cases hp : validB (ptX qx qy qz)
  all_goals
    have HP := Lib.hid hp
    rw [hp] at C2
    simp only [Bool.false_eq_true, if_false, if_true] at C2
    clear hp
    cases hv : validB b
    all_goals
      have HV := Lib.hid hv
      rw [hv] at C3
      simp only [Bool.false_eq_true, if_false, if_true] at C3
      try (have HO2 := Lib.hid (HO.out hv))
      clear hv
      go_enter Try.func6, Try.ntmps6
      go_wp2_with fail
      go_at_call 9; refine (awake17_c _).mono ?_; rintro e w' ⟨rfl, x0, rfl⟩
      go_wp2_with fail
      go_at_call 29; refine (smallS_v l m _ _ _ HS.out _ (HL.out.below (by (repeat (first | exact grow_refl _ | refine grow_ext _ ?_ | refine grow_alloc _ ?_ | refine grow_drew ?_)))) (HM.out.below (by (repeat (first | exact grow_refl _ | refine grow_ext _ ?_ | refine grow_alloc _ ?_ | refine grow_drew ?_))))).mono ?_; rintro e w' ⟨rfl, x1, rfl⟩
      go_wp2_with fail
      go_at_call 19; refine (C1.out _ (HL.out.below (by (repeat (first | exact grow_refl _ | refine grow_ext _ ?_ | refine grow_alloc _ ?_ | refine grow_drew ?_)))) (HM.out.below (by (repeat (first | exact grow_refl _ | refine grow_ext _ ?_ | refine grow_alloc _ ?_ | refine grow_drew ?_))))).mono ?_; rintro e w' ⟨rfl, x2, rfl⟩
      go_wp2_with fail
      go_at_call 16; refine (C2.out _ (HL.out.below (by (repeat (first | exact grow_refl _ | refine grow_ext _ ?_ | refine grow_alloc _ ?_ | refine grow_drew ?_)))) (HM.out.below (by (repeat (first | exact grow_refl _ | refine grow_ext _ ?_ | refine grow_alloc _ ?_ | refine grow_drew ?_))))).mono ?_; rintro e w' ⟨rfl, x3, rfl⟩
      go_wp2_with fail
      go_at_call 15; refine (C3.out _ (HL.out.below (by (repeat (first | exact grow_refl _ | refine grow_ext _ ?_ | refine grow_alloc _ ?_ | refine grow_drew ?_)))) (HM.out.below (by (repeat (first | exact grow_refl _ | refine grow_ext _ ?_ | refine grow_alloc _ ?_ | refine grow_drew ?_))))).mono ?_; rintro e w' ⟨rfl, x4, rfl⟩
      go_wp2_with fail
      refine wp_region_grows (by kernel_rfl) (by kernel_rfl) ?_
      repeat (go_big_quiet_step (first
        | (go_at_call 30; exact Calls.quiet_ext (solidValid_v l m _ _ _ HB.out _ (HL.out.below (by (repeat (first | exact grow_refl _ | refine grow_ext _ ?_ | refine grow_alloc _ ?_ | refine grow_drew ?_)))) (HM.out.below (by (repeat (first | exact grow_refl _ | refine grow_ext _ ?_ | refine grow_alloc _ ?_ | refine grow_drew ?_))))))
        | (go_at_call 24; exact Calls.quiet_ext (refSolid_v l m _ _ _ HB.out _ (HL.out.below (by (repeat (first | exact grow_refl _ | refine grow_ext _ ?_ | refine grow_alloc _ ?_ | refine grow_drew ?_)))) (HM.out.below (by (repeat (first | exact grow_refl _ | refine grow_ext _ ?_ | refine grow_alloc _ ?_ | refine grow_drew ?_))))))
        | (go_at_call 31; exact Calls.quiet_ext (M1.out _ (HL.out.below (by (repeat (first | exact grow_refl _ | refine grow_ext _ ?_ | refine grow_alloc _ ?_ | refine grow_drew ?_)))) (HM.out.below (by (repeat (first | exact grow_refl _ | refine grow_ext _ ?_ | refine grow_alloc _ ?_ | refine grow_drew ?_))))))
        | (go_at_call 32; exact Calls.quiet_ext (M2.out _ (HL.out.below (by (repeat (first | exact grow_refl _ | refine grow_ext _ ?_ | refine grow_alloc _ ?_ | refine grow_drew ?_)))) (HM.out.below (by (repeat (first | exact grow_refl _ | refine grow_ext _ ?_ | refine grow_alloc _ ?_ | refine grow_drew ?_))))))))
      refine wpQuiet_nil ?_; rintro _ ⟨xq, rfl⟩
      go_wp2_with fail
      go_at_call 24; refine (refSolid_v l m _ _ _ HB.out _ (HL.out.below (by (repeat (first | exact grow_refl _ | refine grow_ext _ ?_ | refine grow_alloc _ ?_ | refine grow_drew ?_)))) (HM.out.below (by (repeat (first | exact grow_refl _ | refine grow_ext _ ?_ | refine grow_alloc _ ?_ | refine grow_drew ?_))))).mono ?_; rintro e w' ⟨rfl, x5, rfl⟩
      go_wp2_with fail
      refine wp_region_grows (by kernel_rfl) (by kernel_rfl) ?_
      repeat (go_big_quiet_step ((go_at_call 33; exact Calls.quiet_ext (RH.out _ (HL.out.below (by (repeat (first | exact grow_refl _ | refine grow_ext _ ?_ | refine grow_alloc _ ?_ | refine grow_drew ?_))))))))
      refine wpQuiet_nil ?_; rintro _ ⟨xq, rfl⟩
      go_wp2_with fail
      go_at_call 11; refine (refValid17_v (ptX qx qy qz) _ HP.out _).mono ?_; rintro e w' ⟨rfl, x6, rfl⟩
      go_wp2_with fail
      first
        | go_at_call 11; refine (refValid17_v b _ HV.out _).mono ?_; rintro e w' ⟨rfl, x8, rfl⟩
        | (go_at_call 34; refine (RI.out _ (HL.out.below (by (repeat (first | exact grow_refl _ | refine grow_ext _ ?_ | refine grow_alloc _ ?_ | refine grow_drew ?_)))) (HM.out.below (by (repeat (first | exact grow_refl _ | refine grow_ext _ ?_ | refine grow_alloc _ ?_ | refine grow_drew ?_))))).mono ?_; rintro e w' ⟨rfl, x7, rfl⟩
           go_wp2_with fail
           go_at_call 11; refine (refValid17_v b _ HV.out _).mono ?_; rintro e w' ⟨rfl, x8, rfl⟩)
      first
        | (go_wp2_with fail
           go_at_call 35; refine (RC.out (by have := HO2.out; unfold Ord; omega) _ (HL.out.below (by (repeat (first | exact grow_refl _ | refine grow_ext _ ?_ | refine grow_alloc _ ?_ | refine grow_drew ?_)))) (HM.out.below (by (repeat (first | exact grow_refl _ | refine grow_ext _ ?_ | refine grow_alloc _ ?_ | refine grow_drew ?_))))).mono ?_; rintro e w' ⟨rfl, x9, rfl⟩
           go_wp2
           go_ret
           exact Ret.of (by (repeat (first | exact grow_refl _ | refine grow_ext _ ?_ | refine grow_alloc _ ?_ | refine grow_drew ?_))))
        | (go_wp2
           go_ret
           exact Ret.of (by (repeat (first | exact grow_refl _ | refine grow_ext _ ?_ | refine grow_alloc _ ?_ | refine grow_drew ?_))))

theorem lawSolidForms_c (q : Mb) (qx qy qz : Int) (b : Bx) (w : World) (hq : MbAt w q) :
    Calls Try.prog 6 #[.agg #[.string q.name, q.u, q.t, .int .i64 q.cover, .int .i64 q.agg, .int .i64 q.poker], (.agg #[.int .i64 qx, .int .i64 qy, .int .i64 qz]), (.agg #[.int .i64 b.lx, .int .i64 b.ly, .int .i64 b.lz, .int .i64 b.hx, .int .i64 b.hy, .int .i64 b.hz])] w (Ret w (.bool true)) :=
  lawForms17 q.name q.l q.m q.u q.t q.cover q.agg q.poker qx qy qz b hq.name w hq.boxes hq.holes

end Go.Proofs.Ytafkibnkpcmmgaa

