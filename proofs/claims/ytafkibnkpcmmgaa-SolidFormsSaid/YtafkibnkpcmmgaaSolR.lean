/- The reference's solids: its hull, what it contains, its size. -/
import Derived.Test.YtafkibnkpcmmgaaSolC
namespace Go.Proofs.Ytafkibnkpcmmgaa
open Go.RowKit

set_option maxHeartbeats 1000000 in
theorem refSolHull_c (l : List Bx) (u t : Value) (h0 : 0 < l.length) (w : World) (hl : Boxes w u l) : Calls Try.prog 33 #[.agg #[u, t]] w (Ret w (.agg #[.int .i64 (hullX l).lx, .int .i64 (hullX l).ly, .int .i64 (hullX l).lz, .int .i64 (hullX l).hx, .int .i64 (hullX l).hy, .int .i64 (hullX l).hz])) := by
  have HL := Lib.hid hl
  have HH := Lib.hid (fun w hl => refHull_c l u w hl h0)
  clear hl
  go_enter Try.func33, Try.ntmps33
  go_wp2_with fail
  go_at_call 65; refine (HH.out _ (HL.out.below (by (repeat (first | exact grow_refl _ | refine grow_ext _ ?_ | refine grow_alloc _ ?_ | refine grow_drew ?_))))).mono ?_; rintro e w' ⟨rfl, x1, rfl⟩
  go_wp2
  refine bodyPost_ret (v := (.agg #[.int .i64 (hullX l).lx, .int .i64 (hullX l).ly, .int .i64 (hullX l).lz, .int .i64 (hullX l).hx, .int .i64 (hullX l).hy, .int .i64 (hullX l).hz])) (by simp [results, Try.results33, go_sem]) rfl ?_
  exact Ret.of (by (repeat (first | exact grow_refl _ | refine grow_ext _ ?_ | refine grow_alloc _ ?_ | refine grow_drew ?_)))

theorem any_open_true {l : List Bx} {b : Bx} {i : Nat} (h : i < l.length) (hp : opensB l[i] b = true) : (l.any fun h => opensB h b) = true := any_true_of (p := fun h => opensB h b) h hp

set_option maxRecDepth 100000 in
set_option maxHeartbeats 2000000 in
theorem refContains17_c (l m : List Bx) (u t : Value) (b : Bx) (hll : l.length ≤ 1000) (hb : Ord b) (w : World) (hl : Boxes w u l) (hm : Boxes w t m) :
    Calls Try.prog 35 #[.agg #[u, t], (.agg #[.int .i64 b.lx, .int .i64 b.ly, .int .i64 b.lz, .int .i64 b.hx, .int .i64 b.hy, .int .i64 b.hz])] w (Ret w (.bool (containsS l m b))) := by
  obtain ⟨ua, uc, rfl, _, _, _⟩ := hl.shape
  obtain ⟨ta, tc, rfl, htc, htc2, hcell⟩ := hm.shape
  have HL := Lib.hid hl
  have HC := Lib.hid hcell
  have HB := Lib.hid hb
  clear hl hm hcell hb
  go_enter Try.func35, Try.ntmps35
  go_wp2
  go_loopw [5] (fun i wr => ∃ j : Nat, j ≤ m.length ∧ i = .int .i64 j ∧ (∃ x, wr = ext ((w.alloc (.cells #[.slice ua l.length uc, .slice ta m.length tc] 24)).alloc (.cells #[.int .i64 b.lx, .int .i64 b.ly, .int .i64 b.lz, .int .i64 b.hx, .int .i64 b.hy, .int .i64 b.hz] 28)) x) ∧ (m.take j).any (fun h => opensB h b) = false) (fun i _ => m.length - (intOf i).toNat)
  case atStart => exact ⟨0, by omega, rfl, ext_of (Below.refl _ _), by simp⟩
  case round =>
    obtain ⟨j, hj, rfl, ⟨x, rfl⟩, hall⟩ := hrel
    have HA := Lib.hid hall
    clear hall
    by_cases hlt : j < m.length
    · obtain ⟨b1, off, rfl, c0, c1, c2, c3, c4, c5⟩ := HC.out j hlt
      have p5 : (0 : Int) ≤ (j : Int) := by omega
      have p6 : (j : Int) < (m.length : Int) := by omega
      cases hv : opensB m[j] b
      · have ht := Lib.hid (any_take_succ (p := fun h => opensB h b) hlt hv HA.out)
        have HV := Lib.hid hv
        clear hv
        go_wp2_with fail
        refine wp_region_grows (by kernel_rfl) (by kernel_rfl) ?_
        repeat (go_big_quiet_step ((go_at_call 66; exact Calls.quiet_ext (refOpens_v m[j] b _ HV.out _))))
        refine wpQuiet_nil ?_; rintro _ ⟨xq, rfl⟩
        go_wp2
        go_roundw
        case rel => exact ⟨j + 1, by omega, by go_num, ext_of (by (repeat (first | exact grow_refl _ | refine grow_ext _ ?_ | refine grow_alloc _ ?_ | refine grow_drew ?_))), ht.out⟩
        case measure => simp [intOf]; omega
      · have ht := Lib.hid (show containsS l m b = false by unfold containsS; rw [any_open_true hlt hv]; rfl)
        have HV := Lib.hid hv
        clear hv
        go_wp2_with fail
        refine wp_region_grows (by kernel_rfl) (by kernel_rfl) ?_
        repeat (go_big_quiet_step ((go_at_call 66; exact Calls.quiet_ext (refOpens_v m[j] b _ HV.out _))))
        refine wpQuiet_nil ?_; rintro _ ⟨xq, rfl⟩
        go_wp2
        go_ret
        rw [ht.out]
        exact Ret.of (by (repeat (first | exact grow_refl _ | refine grow_ext _ ?_ | refine grow_alloc _ ?_ | refine grow_drew ?_)))
    · have ht : (m.any fun h => opensB h b) = false := by
        have := HA.out
        rwa [List.take_of_length_le (by omega)] at this
      have HT := Lib.hid (show containsS l m b = coversB l b by unfold containsS; rw [ht]; rfl)
      clear ht
      go_wp2_with fail
      go_at_call 67; refine (refCovers_c l _ b _ (HL.out.below (by (repeat (first | exact grow_refl _ | refine grow_ext _ ?_ | refine grow_alloc _ ?_ | refine grow_drew ?_)))) hll HB.out).mono ?_; rintro e w' ⟨rfl, x1, rfl⟩
      go_wp2
      go_ret
      rw [HT.out]
      exact Ret.of (by (repeat (first | exact grow_refl _ | refine grow_ext _ ?_ | refine grow_alloc _ ?_ | refine grow_drew ?_)))
theorem refContains17_v (l m : List Bx) (u t : Value) (b : Bx) (r : Bool) (h : containsS l m b = r) (hll : l.length ≤ 1000) (hb : Ord b) (w : World) (hl : Boxes w u l) (hm : Boxes w t m) :
    Calls Try.prog 35 #[.agg #[u, t], (.agg #[.int .i64 b.lx, .int .i64 b.ly, .int .i64 b.lz, .int .i64 b.hx, .int .i64 b.hy, .int .i64 b.hz])] w (Ret w (.bool r)) := by subst h; exact refContains17_c l m u t b hll hb w hl hm

set_option maxHeartbeats 1000000 in
theorem refInside17_c (l m : List Bx) (u t : Value) (x y z : Int) (hll : l.length ≤ 1000) (w : World) (hl : Boxes w u l) (hm : Boxes w t m) :
    Calls Try.prog 34 #[.agg #[u, t], (.agg #[.int .i64 x, .int .i64 y, .int .i64 z])] w (Ret w (.bool (containsS l m (ptX x y z)))) := by
  have HL := Lib.hid hl
  have HM := Lib.hid hm
  clear hl hm
  go_enter Try.func34, Try.ntmps34
  go_wp2_with fail
  go_at_call 35; refine (refContains17_c l m _ _ (ptX x y z) hll ⟨Int.le_refl _, Int.le_refl _, Int.le_refl _⟩ _ (HL.out.below (by (repeat (first | exact grow_refl _ | refine grow_ext _ ?_ | refine grow_alloc _ ?_ | refine grow_drew ?_)))) (HM.out.below (by (repeat (first | exact grow_refl _ | refine grow_ext _ ?_ | refine grow_alloc _ ?_ | refine grow_drew ?_))))).mono ?_; rintro e w' ⟨rfl, x1, rfl⟩
  go_wp2
  go_ret
  exact Ret.of (by (repeat (first | exact grow_refl _ | refine grow_ext _ ?_ | refine grow_alloc _ ?_ | refine grow_drew ?_)))

def smallB (a b n : Nat) : Bool := (decide (a ≤ n) || decide (20 < a)) && decide (a ≤ 25) && (decide (b ≤ n) || decide (20 < b)) && decide (b ≤ 25)
theorem small_iff {a b n : Nat} : smallB a b n = true ↔ ((a ≤ n ∨ 20 < a) ∧ a ≤ 25) ∧ ((b ≤ n ∨ 20 < b) ∧ b ≤ 25) := by
  unfold smallB; simp only [Bool.and_eq_true, Bool.or_eq_true, decide_eq_true_iff, and_assoc]

set_option maxHeartbeats 2000000 in
theorem refSmall_c (l m : List Bx) (u t : Value) (n : Nat) (w : World) (hl : Boxes w u l) (hm : Boxes w t m) :
    Calls Try.prog 59 #[.agg #[u, t], .int .i64 n] w (Ret w (.bool (smallB l.length m.length n))) := by
  obtain ⟨ua, uc, rfl, _, _, _⟩ := hl.shape
  obtain ⟨ta, tc, rfl, _, _, _⟩ := hm.shape
  clear hl hm
  go_enter Try.func59, Try.ntmps59
  go_wp2_with fail
  refine wp_region_grows (by kernel_rfl) (by kernel_rfl) ?_
  repeat (go_big_quiet_step (fail))
  refine wpQuiet_nil ?_; rintro _ ⟨xq, rfl⟩
  go_wp2
  all_goals
    go_ret
    exact Ret.bool (by rw [Bool.eq_iff_iff, small_iff]; simp; try omega) (by (repeat (first | exact grow_refl _ | refine grow_ext _ ?_ | refine grow_alloc _ ?_ | refine grow_drew ?_)))
theorem refSmall_v (l m : List Bx) (u t : Value) (n : Nat) (r : Bool) (h : smallB l.length m.length n = r) (w : World) (hl : Boxes w u l) (hm : Boxes w t m) :
    Calls Try.prog 59 #[.agg #[u, t], .int .i64 n] w (Ret w (.bool r)) := by subst h; exact refSmall_c l m u t n w hl hm

end Go.Proofs.Ytafkibnkpcmmgaa
