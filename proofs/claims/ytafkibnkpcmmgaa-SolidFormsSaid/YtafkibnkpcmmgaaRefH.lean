/- The reference's In and Covers. -/
import Derived.Test.YtafkibnkpcmmgaaRefF
namespace Go.Proofs.Ytafkibnkpcmmgaa
open Go.RowKit

theorem refContains_v (a b : Bx) (r : Bool) (h : containsB a b = r) (hb : Ord b) (w : World) : Calls Try.prog 100 #[(.agg #[.int .i64 a.lx, .int .i64 a.ly, .int .i64 a.lz, .int .i64 a.hx, .int .i64 a.hy, .int .i64 a.hz]), (.agg #[.int .i64 b.lx, .int .i64 b.ly, .int .i64 b.lz, .int .i64 b.hx, .int .i64 b.hy, .int .i64 b.hz])] w (Ret w (.bool r)) := by
  rw [← h]; exact refContains_c a b hb w
theorem any_true_of {α : Type} {p : α → Bool} {l : List α} {i : Nat} (h : i < l.length) (hp : p l[i] = true) : l.any p = true :=
  List.any_eq_true.2 ⟨_, List.getElem_mem h, hp⟩
theorem any_take_succ {α : Type} {p : α → Bool} {l : List α} {i : Nat} (h : i < l.length) (hp : p l[i] = false) (ht : (l.take i).any p = false) : (l.take (i + 1)).any p = false := by
  rw [List.take_succ_eq_append_getElem h, List.any_append, ht]; simp [hp]

set_option maxHeartbeats 400000 in
theorem refIn_c (l : List Bx) (v : Value) (b : Bx) (w : World) (hl : Boxes w v l) (hb : Ord b) : Calls Try.prog 70 #[v, (.agg #[.int .i64 b.lx, .int .i64 b.ly, .int .i64 b.lz, .int .i64 b.hx, .int .i64 b.hy, .int .i64 b.hz])] w (Ret w (.bool (l.any fun a => containsB a b))) := by
  obtain ⟨a, cap, rfl, hcap, hcap2, hcell⟩ := hl.shape
  have HCE := Lib.hid hcell
  clear hl hcell
  have HB := Lib.hid hb
  clear hb
  have hn : l.length ≤ 9223372036854775807 := by omega
  go_enter Try.func70, Try.ntmps70
  go_wp2
  go_loopw [5] (fun i wr => ∃ j : Nat, j ≤ l.length ∧ i = .int .i64 j ∧ (∃ x, wr = ext (w.alloc (.cells #[.int .i64 b.lx, .int .i64 b.ly, .int .i64 b.lz, .int .i64 b.hx, .int .i64 b.hy, .int .i64 b.hz] 28)) x) ∧ (l.take j).any (fun a => containsB a b) = false) (fun i _ => l.length - (intOf i).toNat)
  case atStart => exact ⟨0, by omega, rfl, ext_of (Below.refl _ _), by simp⟩
  case round =>
    obtain ⟨j, hj, rfl, ⟨x, rfl⟩, hall⟩ := hrel
    have HA := Lib.hid hall
    clear hall
    by_cases hlt : j < l.length
    · obtain ⟨b1, off, rfl, c0, c1, c2, c3, c4, c5⟩ := HCE.out j hlt
      have p5 : (0 : Int) ≤ (j : Int) := by omega
      have p6 : (j : Int) < (l.length : Int) := by omega
      cases hv : containsB l[j] b
      · have ht := Lib.hid (any_take_succ (p := fun a => containsB a b) hlt hv HA.out)
        have HV := Lib.hid hv
        clear hv
        go_wp2_with fail
        refine wp_region_grows (by kernel_rfl) (by kernel_rfl) ?_
        repeat (go_big_quiet_step ((go_at_call 100; exact Calls.quiet_ext (refContains_v l[j] b _ HV.out HB.out _))))
        refine wpQuiet_nil ?_; rintro _ ⟨xq, rfl⟩
        go_wp2
        go_roundw
        case rel => exact ⟨j + 1, by omega, by go_num, ext_of (by (repeat (first | exact grow_refl _ | refine grow_ext _ ?_ | refine grow_alloc _ ?_ | refine grow_drew ?_))), ht.out⟩
        case measure => simp [intOf]; omega
      · have ht := Lib.hid (any_true_of (p := fun a => containsB a b) hlt hv)
        have HV := Lib.hid hv
        clear hv
        go_wp2_with fail
        refine wp_region_grows (by kernel_rfl) (by kernel_rfl) ?_
        repeat (go_big_quiet_step ((go_at_call 100; exact Calls.quiet_ext (refContains_v l[j] b _ HV.out HB.out _))))
        refine wpQuiet_nil ?_; rintro _ ⟨xq, rfl⟩
        go_wp2
        go_ret
        rw [ht.out]
        exact Ret.of (by (repeat (first | exact grow_refl _ | refine grow_ext _ ?_ | refine grow_alloc _ ?_ | refine grow_drew ?_)))
    · have ht : (l.any fun a => containsB a b) = false := by
        have := HA.out
        rwa [List.take_of_length_le (by omega)] at this
      have HT := Lib.hid ht
      clear ht
      go_wp2
      go_ret
      rw [HT.out]
      exact Ret.of (by (repeat (first | exact grow_refl _ | refine grow_ext _ ?_ | refine grow_alloc _ ?_ | refine grow_drew ?_)))

theorem rowA_all (P0 P1 P2 : List (Int × Int)) (f : Bx → Bool) : (rowA P0 P1 P2).all f = P0.all fun x => P1.all fun y => P2.all fun z => f (cellX x y z) := by
  unfold rowA
  rw [List.all_flatMap]
  congr 1
  funext x
  unfold rowX
  rw [List.all_flatMap]
  congr 1
  funext y
  unfold rowY
  rw [List.all_map]
  rfl
theorem coversB_all (l : List Bx) (b : Bx) : (rowA (partsL l b 0) (partsL l b 1) (partsL l b 2)).all (fun c => l.any fun a => containsB a c) = coversB l b := rowA_all _ _ _ _
theorem rowA_ord {l : List Bx} {b : Bx} (hb : Ord b) {c : Bx} (hc : c ∈ rowA (partsL l b 0) (partsL l b 1) (partsL l b 2)) : Ord c := by
  unfold rowA at hc
  obtain ⟨x, hx, hc⟩ := List.mem_flatMap.1 hc
  unfold rowX at hc
  obtain ⟨y, hy, hc⟩ := List.mem_flatMap.1 hc
  unfold rowY at hc
  obtain ⟨z, hz, rfl⟩ := List.mem_map.1 hc
  exact ⟨(parts_spec (k := 0) hb.1 hx).2.1, (parts_spec (k := 1) hb.2.1 hy).2.1, (parts_spec (k := 2) hb.2.2 hz).2.1⟩

set_option maxHeartbeats 1000000 in
theorem refCovers_c (l : List Bx) (v : Value) (b : Bx) (w : World) (hl : Boxes w v l) (hlen : l.length ≤ 1000) (hb : Ord b) : Calls Try.prog 67 #[v, (.agg #[.int .i64 b.lx, .int .i64 b.ly, .int .i64 b.lz, .int .i64 b.hx, .int .i64 b.hy, .int .i64 b.hz])] w (Ret w (.bool (coversB l b))) := by
  rw [← coversB_all]
  have HO := Lib.hid (fun c hc => rowA_ord (l := l) hb (c := c) hc)
  have HP := Lib.hid (fun (x : World) (h : Below w.heap.size w x) => refParts_c l v b x (hl.below h) hlen hb)
  generalize rowA (partsL l b 0) (partsL l b 1) (partsL l b 2) = L at HO HP
  have HL := Lib.hid hl
  clear hl
  go_enter Try.func67, Try.ntmps67
  go_wp2_with fail
  go_at_call 69; refine Calls.mono (HP.out _ (by (repeat (first | exact grow_refl _ | refine grow_ext _ ?_ | refine grow_alloc _ ?_ | refine grow_drew ?_)))) ?_; rintro e w' ⟨v5, rfl, hown, y, rfl⟩
  have hP := Boxes.of_own hown
  clear hown
  obtain ⟨a5, cap5, rfl, s1, s2, _⟩ := hP.shape
  have HPP := Lib.hid hP
  clear hP
  go_wp2_with fail
  go_loopw [6] (fun i wr => ∃ j : Nat, j ≤ L.length ∧ i = .int .i64 j ∧ (∃ x, wr = ext w x) ∧ Boxes wr (.slice a5 L.length cap5) L ∧ (L.take j).all (fun c => l.any fun a => containsB a c) = true) (fun i _ => L.length - (intOf i).toNat)
  case atStart => exact ⟨0, by omega, rfl, ext_of (by (repeat (first | exact grow_refl _ | refine grow_ext _ ?_ | refine grow_alloc _ ?_ | refine grow_drew ?_))), HPP.out, by simp⟩
  case round =>
    obtain ⟨j, hj, rfl, ⟨x, rfl⟩, hB, hall⟩ := hrel
    have HA := Lib.hid hall
    clear hall HPP
    by_cases hlt : j < L.length
    · obtain ⟨_, _, he, _, _, hcell⟩ := hB.shape
      cases he
      obtain ⟨b1, off, rfl, c0, c1, c2, c3, c4, c5⟩ := hcell j hlt
      have HBB := Lib.hid hB
      clear hB hcell
      have hob := HO.out L[j] (List.getElem_mem hlt)
      have HOB := Lib.hid hob
      clear hob
      go_wp2_with fail
      go_at_call 70; refine (refIn_c l v L[j] _ (HL.out.below (by (repeat (first | exact grow_refl _ | refine grow_ext _ ?_ | refine grow_alloc _ ?_ | refine grow_drew ?_)))) HOB.out).mono ?_; rintro e w' ⟨rfl, y1, rfl⟩
      cases hv : l.any fun a => containsB a L[j]
      · have ht := Lib.hid (all_false_of (p := fun c => l.any fun a => containsB a c) hlt hv)
        clear hv
        go_wp2
        go_ret
        rw [ht.out]
        exact Ret.of (by (repeat (first | exact grow_refl _ | refine grow_ext _ ?_ | refine grow_alloc _ ?_ | refine grow_drew ?_)))
      · have ht := Lib.hid (all_take_succ (p := fun c => l.any fun a => containsB a c) hlt hv HA.out)
        clear hv
        go_wp2
        go_roundw
        case rel => exact ⟨j + 1, by omega, by go_num, ext_of (by (repeat (first | exact grow_refl _ | refine grow_ext _ ?_ | refine grow_alloc _ ?_ | refine grow_drew ?_))), HBB.out.below (by (repeat (first | exact grow_refl _ | refine grow_ext _ ?_ | refine grow_alloc _ ?_ | refine grow_drew ?_))), ht.out⟩
        case measure => simp [intOf]; omega
    · have ht : L.all (fun c => l.any fun a => containsB a c) = true := by
        have := HA.out
        rwa [List.take_of_length_le (by omega)] at this
      have HT := Lib.hid ht
      clear ht hB
      go_wp2
      go_ret
      rw [HT.out]
      exact Ret.of (by (repeat (first | exact grow_refl _ | refine grow_ext _ ?_ | refine grow_alloc _ ?_ | refine grow_drew ?_)))

end Go.Proofs.Ytafkibnkpcmmgaa
