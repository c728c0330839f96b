/- Contracts of the reference for boxes, fourth part: Contains, All, Grown. -/
import Derived.Test.YtmmhplmomahfhaaRefC
namespace Go.Proofs.Ytmmhplmomahfhaa
open Go.RowKit

def Ord (b : Bx) : Prop := b.lx ≤ b.hx ∧ b.ly ≤ b.hy ∧ b.lz ≤ b.hz
theorem Ord.of_valid {b : Bx} (h : validB b = true) : Ord b := by have := valid_iff.1 h; unfold Ord; omega

set_option maxHeartbeats 400000 in
theorem refContains_c (a b : Bx) (hb : Ord b) (w : World) : Calls Try.prog 36 #[(.agg #[.int .i64 a.lx, .int .i64 a.ly, .int .i64 a.lz, .int .i64 a.hx, .int .i64 a.hy, .int .i64 a.hz]), (.agg #[.int .i64 b.lx, .int .i64 b.ly, .int .i64 b.lz, .int .i64 b.hx, .int .i64 b.hy, .int .i64 b.hz])] w (Ret w (.bool (containsB a b))) := by
  have hm := refMeet_c a b
  unfold refMeetV at hm
  cases h : meetB a b
  · rw [h] at hm
    have HM := Lib.hid hm
    have hc : containsB a b = false := by
      unfold Ord at hb
      cases hc : containsB a b
      · rfl
      · have h1 := contains_iff.1 hc
        have := meetB_iff.2 (show max a.lx b.lx ≤ min a.hx b.hx ∧ max a.ly b.ly ≤ min a.hy b.hy ∧ max a.lz b.lz ≤ min a.hz b.hz by omega)
        rw [h] at this; cases this
    have HC := Lib.hid hc
    clear hm hc h
    go_enter Try.func36, Try.ntmps36
    go_wp2_with fail
    refine (HM.out _).mono ?_; rintro e w' ⟨rfl, x, rfl⟩
    go_wp2
    go_ret
    rw [HC.out]
    exact Ret.of (by (repeat (first | exact grow_refl _ | refine grow_ext _ ?_ | refine grow_alloc _ ?_ | refine grow_drew ?_)))
  · rw [h] at hm
    have HM := Lib.hid hm
    clear hm h
    go_enter Try.func36, Try.ntmps36
    go_wp2_with fail
    refine (HM.out _).mono ?_; rintro e w' ⟨rfl, x, rfl⟩
    clear HM
    unfold Ord at hb
    go_wp2
    all_goals
      simp only [meetX] at *
      go_ret
      exact Ret.bool (by unfold containsB; simp; omega) (by (repeat (first | exact grow_refl _ | refine grow_ext _ ?_ | refine grow_alloc _ ?_ | refine grow_drew ?_)))

set_option maxHeartbeats 400000 in
theorem refAll_c (l : List Bx) (v : Value) (w : World) (hl : Boxes w v l) : Calls Try.prog 20 #[v] w (Ret w (.bool (l.all validB))) := by
  obtain ⟨a, cap, rfl, hcap, hcap2, hcell⟩ := hl.shape
  have HCE := Lib.hid hcell
  clear hl hcell
  have hn : l.length ≤ 9223372036854775807 := by omega
  go_enter Try.func20, Try.ntmps20
  go_wp2
  go_loopw [3] (fun i wr => ∃ j : Nat, j ≤ l.length ∧ i = .int .i64 j ∧ (∃ x, wr = ext w x) ∧ (l.take j).all validB = true) (fun i _ => l.length - (intOf i).toNat)
  case atStart => exact ⟨0, by omega, rfl, ext_of (Below.refl _ _), by simp⟩
  case round =>
    obtain ⟨j, hj, rfl, ⟨x, rfl⟩, hall⟩ := hrel
    have HA := Lib.hid hall
    clear hall
    by_cases hlt : j < l.length
    · obtain ⟨b, off, rfl, c0, c1, c2, c3, c4, c5⟩ := HCE.out j hlt
      cases hv : validB l[j]
      · have hf := Lib.hid (show l.all validB = false from all_false_of hlt hv)
        have HV := Lib.hid hv
        clear hv
        go_wp2_with fail
        go_at_call 14; refine (refValid_c l[j] _).mono ?_; rintro e w' ⟨rfl, y, rfl⟩
        rw [HV.out]
        go_wp2
        go_ret
        rw [hf.out]
        exact Ret.of (by (repeat (first | exact grow_refl _ | refine grow_ext _ ?_ | refine grow_alloc _ ?_ | refine grow_drew ?_)))
      · have ht := Lib.hid (all_take_succ hlt hv HA.out)
        have HV := Lib.hid hv
        clear hv
        go_wp2_with fail
        go_at_call 14; refine (refValid_c l[j] _).mono ?_; rintro e w' ⟨rfl, y, rfl⟩
        rw [HV.out]
        go_wp2
        go_roundw
        case rel => exact ⟨j + 1, by omega, by go_num, ext_of (by (repeat (first | exact grow_refl _ | refine grow_ext _ ?_ | refine grow_alloc _ ?_ | refine grow_drew ?_))), ht.out⟩
        case measure => simp [intOf]; omega
    · have ht : l.all validB = true := by
        have := HA.out
        rwa [List.take_of_length_le (by omega)] at this
      have HT := Lib.hid ht
      clear ht
      go_wp2
      go_ret
      rw [HT.out]
      exact Ret.of (by (repeat (first | exact grow_refl _ | refine grow_ext _ ?_ | refine grow_alloc _ ?_ | refine grow_drew ?_)))

set_option maxHeartbeats 400000 in
theorem refGrown_c (b : Bx) (n : Int) (hb : Bd b) (hn : 0 ≤ n ∧ n ≤ 1048576) (w : World) : Calls Try.prog 34 #[(.agg #[.int .i64 b.lx, .int .i64 b.ly, .int .i64 b.lz, .int .i64 b.hx, .int .i64 b.hy, .int .i64 b.hz]), .int .i64 n] w (Ret w (.agg #[.int .i64 (grownX b n).lx, .int .i64 (grownX b n).ly, .int .i64 (grownX b n).lz, .int .i64 (grownX b n).hx, .int .i64 (grownX b n).hy, .int .i64 (grownX b n).hz])) := by
  unfold Bd at hb
  go_enter Try.func34, Try.ntmps34
  go_wp2
  refine bodyPost_ret (v := (.agg #[.int .i64 (grownX b n).lx, .int .i64 (grownX b n).ly, .int .i64 (grownX b n).lz, .int .i64 (grownX b n).hx, .int .i64 (grownX b n).hy, .int .i64 (grownX b n).hz])) (by simp [results, Try.results34, go_sem, grownX]) rfl ?_
  exact Ret.of (by (repeat (first | exact grow_refl _ | refine grow_ext _ ?_ | refine grow_alloc _ ?_ | refine grow_drew ?_)))

end Go.Proofs.Ytmmhplmomahfhaa
