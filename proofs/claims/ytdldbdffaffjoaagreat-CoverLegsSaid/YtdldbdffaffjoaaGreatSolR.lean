/- The reference's solids: its hull, what it contains, its size. -/
import Derived.Test.YtdldbdffaffjoaaGreatSolK
namespace Go.Proofs.YtdldbdffaffjoaaGreat
open Go.RowKit
set_option maxRecDepth 20000

theorem any_open_true {l : List Bx} {b : Bx} {i : Nat} (h : i < l.length) (hp : opensB l[i] b = true) : (l.any fun h => opensB h b) = true := any_true_of (p := fun h => opensB h b) h hp

set_option maxRecDepth 100000 in
set_option maxHeartbeats 2000000 in
theorem refContains17_c (l m : List Bx) (u t : Value) (b : Bx) (hll : l.length ≤ 1000) (hb : Ord b) (w : World) (hl : Boxes w u l) (hm : Boxes w t m) :
    Calls Tryz.prog 105 #[.agg #[u, t], (.agg #[.int .i64 b.lx, .int .i64 b.ly, .int .i64 b.lz, .int .i64 b.hx, .int .i64 b.hy, .int .i64 b.hz])] w (Ret w (.bool (containsS l m b))) := by
  obtain ⟨ua, uc, rfl, _, _, _⟩ := hl.shape
  obtain ⟨ta, tc, rfl, htc, htc2, hcell⟩ := hm.shape
  have HL := Lib.hid hl
  have HC := Lib.hid hcell
  have HB := Lib.hid hb
  clear hl hm hcell hb
  go_enter Tryz.func105, Tryz.ntmps105
  go_wp2
  go_loopw [5] (fun i wr => ∃ j : Nat, j ≤ m.length ∧ i = .int .i64 j ∧ (∃ x, wr = ext ((w.alloc (.cells #[.slice ua l.length uc, .slice ta m.length tc] 24)).alloc (.cells #[.int .i64 b.lx, .int .i64 b.ly, .int .i64 b.lz, .int .i64 b.hx, .int .i64 b.hy, .int .i64 b.hz] 30)) x) ∧ (m.take j).any (fun h => opensB h b) = false) (fun i _ => m.length - (intOf i).toNat)
  case atStart => exact ⟨0, by omega, rfl, ext_of (Below.refl _ _), by simp⟩
  case round =>
    obtain ⟨j, hj, rfl, ⟨x, rfl⟩, hall⟩ := hrel
    have HA := Lib.hid hall
    clear hall
    by_cases hlt : j < m.length
    · obtain ⟨b1, off, rfl, c0, c1, c2, c3, c4, c5⟩ := HC.out j hlt
      have p5 : (0 : Int) ≤ (j : Int) := by omega
      have p6 : (j : Int) < (m.length : Int) := by omega
      cases hv : opensB m[j] b
      · have ht := Lib.hid (any_take_succ (p := fun h => opensB h b) hlt hv HA.out)
        have HV := Lib.hid hv
        clear hv
        go_wp2_with fail
        refine wp_region_grows (by kernel_rfl) (by kernel_rfl) ?_
        repeat (go_big_quiet_step ((go_at_call 132; exact Calls.quiet_ext (refOpens_v m[j] b _ HV.out _))))
        refine wpQuiet_nil ?_; rintro _ ⟨xq, rfl⟩
        go_wp2
        go_roundw
        case rel => exact ⟨j + 1, by omega, by go_num, ext_of (by (repeat (first | exact grow_refl _ | refine grow_ext _ ?_ | refine grow_alloc _ ?_ | refine grow_drew ?_))), ht.out⟩
        case measure => simp [intOf]; omega
      · have ht := Lib.hid (show containsS l m b = false by unfold containsS; rw [any_open_true hlt hv]; rfl)
        have HV := Lib.hid hv
        clear hv
        go_wp2_with fail
        refine wp_region_grows (by kernel_rfl) (by kernel_rfl) ?_
        repeat (go_big_quiet_step ((go_at_call 132; exact Calls.quiet_ext (refOpens_v m[j] b _ HV.out _))))
        refine wpQuiet_nil ?_; rintro _ ⟨xq, rfl⟩
        go_wp2
        go_ret
        rw [ht.out]
        exact Ret.of (by (repeat (first | exact grow_refl _ | refine grow_ext _ ?_ | refine grow_alloc _ ?_ | refine grow_drew ?_)))
    · have ht : (m.any fun h => opensB h b) = false := by
        have := HA.out
        rwa [List.take_of_length_le (by omega)] at this
      have HT := Lib.hid (show containsS l m b = coversB l b by unfold containsS; rw [ht]; rfl)
      clear ht
      go_wp2_with fail
      go_at_call 133; refine (refCovers_c l _ b _ (HL.out.below (by (repeat (first | exact grow_refl _ | refine grow_ext _ ?_ | refine grow_alloc _ ?_ | refine grow_drew ?_)))) hll HB.out).mono ?_; rintro e w' ⟨rfl, x1, rfl⟩
      go_wp2
      go_ret
      rw [HT.out]
      exact Ret.of (by (repeat (first | exact grow_refl _ | refine grow_ext _ ?_ | refine grow_alloc _ ?_ | refine grow_drew ?_)))
theorem refContains17_v (l m : List Bx) (u t : Value) (b : Bx) (r : Bool) (h : containsS l m b = r) (hll : l.length ≤ 1000) (hb : Ord b) (w : World) (hl : Boxes w u l) (hm : Boxes w t m) :
    Calls Tryz.prog 105 #[.agg #[u, t], (.agg #[.int .i64 b.lx, .int .i64 b.ly, .int .i64 b.lz, .int .i64 b.hx, .int .i64 b.hy, .int .i64 b.hz])] w (Ret w (.bool r)) := by subst h; exact refContains17_c l m u t b hll hb w hl hm

def smallB (a b n : Nat) : Bool := (decide (a ≤ n) || decide (20 < a)) && decide (a ≤ 25) && (decide (b ≤ n) || decide (20 < b)) && decide (b ≤ 25)
theorem small_iff {a b n : Nat} : smallB a b n = true ↔ ((a ≤ n ∨ 20 < a) ∧ a ≤ 25) ∧ ((b ≤ n ∨ 20 < b) ∧ b ≤ 25) := by
  unfold smallB; simp only [Bool.and_eq_true, Bool.or_eq_true, decide_eq_true_iff, and_assoc]

set_option maxHeartbeats 2000000 in
theorem refSmall_c (l m : List Bx) (u t : Value) (n : Nat) (w : World) (hl : Boxes w u l) (hm : Boxes w t m) :
    Calls Tryz.prog 32 #[.agg #[u, t], .int .i64 n] w (Ret w (.bool (smallB l.length m.length n))) := by
  obtain ⟨ua, uc, rfl, _, _, _⟩ := hl.shape
  obtain ⟨ta, tc, rfl, _, _, _⟩ := hm.shape
  clear hl hm
  go_enter Tryz.func32, Tryz.ntmps32
  go_wp2_with fail
  refine wp_region_grows (by kernel_rfl) (by kernel_rfl) ?_
  repeat (go_big_quiet_step (fail))
  refine wpQuiet_nil ?_; rintro _ ⟨xq, rfl⟩
  go_wp2
  all_goals
    go_ret
    exact Ret.bool (by rw [Bool.eq_iff_iff, small_iff]; simp; try omega) (by (repeat (first | exact grow_refl _ | refine grow_ext _ ?_ | refine grow_alloc _ ?_ | refine grow_drew ?_)))
theorem refSmall_v (l m : List Bx) (u t : Value) (n : Nat) (r : Bool) (h : smallB l.length m.length n = r) (w : World) (hl : Boxes w u l) (hm : Boxes w t m) :
    Calls Tryz.prog 32 #[.agg #[u, t], .int .i64 n] w (Ret w (.bool r)) := by subst h; exact refSmall_c l m u t n w hl hm

end Go.Proofs.YtdldbdffaffjoaaGreat
