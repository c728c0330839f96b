/- SolidSlices: the walk of the law. -/
import Derived.Test.YtafkibnkpcmmgaaLawMod
import Derived.Test.YtafkibnkpcmmgaaPlainE
import Derived.Test.YtafkibnkpcmmgaaLawForms0
namespace Go.Proofs.Ytafkibnkpcmmgaa
open Go.RowKit

def sliceF (l m : List Bx) (p : Int × Int) : Int := sectI l m p.1 * (p.2 - p.1)
theorem slice_facts {l m : List Bx} (hs : solidB l m = true) (hmo : modestS l m = true) {i : Nat} (h : i + 1 < (atX l m).length) :
    (sectR l m (atX l m)[i] = (sectI l m (atX l m)[i], 0) ∧ sectR l m ((atX l m)[i + 1] - 1) = (sectI l m (atX l m)[i], 0)) ∧ (0 ≤ sectI l m (atX l m)[i] ∧ sectI l m (atX l m)[i] ≤ 4398046511104) ∧
      (-65536 ≤ (atX l m)[i] ∧ (atX l m)[i] < (atX l m)[i + 1] ∧ (atX l m)[i + 1] ≤ 65536) ∧ (((atX l m)[i] < (hullX l).lx ∨ (hullX l).hx ≤ (atX l m)[i]) → sectI l m (atX l m)[i] = 0) := by
  have hsi := solid_iff.1 hs
  have hne : l ≠ [] := by rintro rfl; simp at hsi
  have ht := hsi.2.2.1
  obtain ⟨hi, he⟩ := pairs_at (atX l m) i h
  have hp : ((atX l m)[i], (atX l m)[i + 1]) ∈ pairsL (atX l m) := by rw [← he]; exact List.getElem_mem hi
  have hm := pairs_mem _ (atX_asc l m) _ hp
  have hb : ∀ n ∈ atX l m, -65536 ≤ n ∧ n ≤ 65536 := fun n hn => by
    obtain ⟨a, ha, hc⟩ := mem_atX.1 hn
    have h1 := modest_iff.1 (List.all_eq_true.1 hmo a ha)
    have h2 : thickB a = true := by
      rcases List.mem_append.1 ha with h | h
      · exact List.all_eq_true.1 ht a h
      · exact List.all_eq_true.1 hsi.2.2.2 a h
    have h3 := (thick_iff.1 h2).2
    omega
  have b1 := hb _ hm.1
  have b2 := hb _ hm.2.1
  have hlt := hm.2.2.1
  simp only at b1 b2 hlt
  have hsm := slices_same ht hne hp
  simp only at hsm
  refine ⟨⟨?_, ?_⟩, sect_bound ht hne _, ⟨b1.1, hlt, b2.2⟩, fun h => slices_out ht hne _ h⟩
  · unfold sectR; rw [if_pos hs, if_pos (by omega)]
  · unfold sectR; rw [if_pos hs, if_pos (by omega), hsm]
theorem slice_nonneg {l m : List Bx} (hs : solidB l m = true) : ∀ p ∈ pairsL (atX l m), 0 ≤ sliceF l m p := fun p hp => by
  have hsi := solid_iff.1 hs
  have hne : l ≠ [] := by rintro rfl; simp at hsi
  have hm := (pairs_mem _ (atX_asc l m) p hp).2.2.1
  exact Int.mul_nonneg (slices_nonneg hsi.2.2.1 hne _) (by omega)
theorem slice_step (l m : List Bx) {i : Nat} (h : i + 1 < (atX l m).length) : sumL (sliceF l m) ((pairsL (atX l m)).take (i + 1)) = sumL (sliceF l m) ((pairsL (atX l m)).take i) + sectI l m (atX l m)[i] * ((atX l m)[i + 1] - (atX l m)[i]) := by
  obtain ⟨hi, he⟩ := pairs_at (atX l m) i h
  rw [sumL_take _ _ _ hi, he]; rfl
theorem slice_facts' {l m : List Bx} {A : List Int} (hA : A = atX l m) (hs : solidB l m = true) (hmo : modestS l m = true) (i : Nat) (h : i + 1 < A.length) :
    (sectR l m A[i] = (sectI l m A[i], 0) ∧ sectR l m (A[i + 1] - 1) = (sectI l m A[i], 0)) ∧ (0 ≤ sectI l m A[i] ∧ sectI l m A[i] ≤ 4398046511104) ∧
      (-65536 ≤ A[i] ∧ A[i] < A[i + 1] ∧ A[i + 1] ≤ 65536) ∧ ((A[i] < (hullX l).lx ∨ (hullX l).hx ≤ A[i]) → sectI l m A[i] = 0) := by subst hA; exact slice_facts hs hmo h
theorem slice_step' {l m : List Bx} {A : List Int} (hA : A = atX l m) (i : Nat) (h : i + 1 < A.length) : sumL (sliceF l m) ((pairsL A).take (i + 1)) = sumL (sliceF l m) ((pairsL A).take i) + sectI l m A[i] * (A[i + 1] - A[i]) := by subst hA; exact slice_step l m h
theorem atX_len (l m : List Bx) : (atX l m).length ≤ 2 * (l ++ m).length := by
  have h1 := Lib.compact_length_le (sorted (endsL (l ++ m) 0))
  have h2 := length_sorted (endsL (l ++ m) 0)
  have h3 : (endsL (l ++ m) 0).length = 2 * (l ++ m).length := by
    unfold endsL
    induction l ++ m with
    | nil => rfl
    | cons a r ih => rw [List.flatMap_cons, List.length_append, ih]; simp; omega
  unfold atX cutsL
  omega
theorem endsL_len (l : List Bx) (k : Int) : (endsL l k).length = 2 * l.length := by
  unfold endsL
  induction l with
  | nil => rfl
  | cons a r ih => rw [List.flatMap_cons, List.length_append, ih]; simp; omega

set_option maxRecDepth 100000 in
set_option maxHeartbeats 4000000 in
theorem lawSlices_ok (l m : List Bx) (u t : Value) (hr : rightB l m = true) (hmo : modestS l m = true) (w : World) (hl : Boxes w u l) (hm : Boxes w t m) :
    Calls Try.prog 4 #[.agg #[u, t]] w (Ret w (.bool true)) := by
  obtain ⟨ua, uc, rfl, _, _, _⟩ := hl.shape
  obtain ⟨ta, tc, rfl, _, _, _⟩ := hm.shape
  obtain ⟨⟨n1, n2⟩, hs⟩ := right_iff.1 hr
  have hsi := solid_iff.1 hs
  have hne : l ≠ [] := by rintro rfl; simp at hsi
  have hmod : l.all modestB = true := by unfold modestS at hmo; rw [List.all_append, Bool.and_eq_true] at hmo; exact hmo.1
  have hV := modest_vol (m := m) hsi.2.2.1 hne hmod
  have C1 := Lib.hid (fun w hl hm => volume_c l m (.slice ua l.length uc) (.slice ta m.length tc) w hl hm)
  have C2 := Lib.hid (fun w hl hm => solidHull_c l m (.slice ua l.length uc) (.slice ta m.length tc) w hl hm)
  have C3 := Lib.hid (fun x w hl hm => section_c l m (.slice ua l.length uc) (.slice ta m.length tc) x w hl hm)
  rw [show volR l m = (volI l m, 0) by unfold volR; rw [if_pos hs, if_pos (by omega)]] at C1
  rw [show hullS l m = (hullX l, 0) by unfold hullS; rw [if_pos hs]] at C2
  obtain ⟨A, hA⟩ : ∃ A, A = atX l m := ⟨_, rfl⟩
  have HF := Lib.hid (fun i h => slice_facts' hA hs hmo i h)
  have HST := Lib.hid (fun i h => slice_step' hA i h)
  have HNN : Hid (∀ i, 0 ≤ sumL (sliceF l m) ((pairsL A).take i)) := by rw [hA]; exact fun i => sumL_nonneg fun p hp => slice_nonneg hs p (List.mem_of_mem_take hp)
  have HALL : Hid (sumL (sliceF l m) (pairsL A) = volI l m) := by rw [hA]; exact slices_sum hsi.2.2.1 hne
  have HLE : Hid (∀ i, sumL (sliceF l m) ((pairsL A).take i) ≤ 2251799813685248) := by
    have h1 := HALL.out
    rw [hA] at h1 ⊢
    exact fun i => Int.le_trans (sumL_take_le (slice_nonneg hs) i) (by omega)
  have HPL := Lib.hid (pairsL_len A)
  have HNE : Hid (1 ≤ A.length) := by
    obtain ⟨a, ha⟩ := List.exists_mem_of_ne_nil l hne
    rw [hA]
    exact List.length_pos_of_mem (mem_atX.2 ⟨a, List.mem_append_left _ ha, .inl rfl⟩)
  have HL := Lib.hid hl
  have HM := Lib.hid hm
  have HR := Lib.hid hr
  have HO := Lib.hid hmo
  have hal : (l ++ m).length ≤ 8 := by rw [List.length_append]; omega
  have HAX : Hid (A = cutsL (endsL (l ++ m) 0)) := hA
  have HAL : Hid (A.length ≤ 2 * (l ++ m).length) := by rw [hA]; exact atX_len l m
  generalize hullX l = H at *
  clear hA hl hm hr hmo hs hsi hne hmod
  go_enter Try.func4, Try.ntmps4
  go_wp2_with fail
  go_at_call 9; refine (awake17_c _).mono ?_; rintro e w' ⟨rfl, x0, rfl⟩
  go_wp2_with fail
  go_at_call 10; refine (right17_v l m _ _ _ HR.out _ (HL.out.below (by (repeat (first | exact grow_refl _ | refine grow_ext _ ?_ | refine grow_alloc _ ?_ | refine grow_drew ?_)))) (HM.out.below (by (repeat (first | exact grow_refl _ | refine grow_ext _ ?_ | refine grow_alloc _ ?_ | refine grow_drew ?_))))).mono ?_; rintro e w' ⟨rfl, x1, rfl⟩
  go_wp2_with fail
  go_at_call 17; refine (modest17_v l m _ _ _ HO.out (by omega) (by omega) _ (HL.out.below (by (repeat (first | exact grow_refl _ | refine grow_ext _ ?_ | refine grow_alloc _ ?_ | refine grow_drew ?_)))) (HM.out.below (by (repeat (first | exact grow_refl _ | refine grow_ext _ ?_ | refine grow_alloc _ ?_ | refine grow_drew ?_))))).mono ?_; rintro e w' ⟨rfl, x2, rfl⟩
  go_wp2_with fail
  go_at_call 18; refine (C1.out _ (HL.out.below (by (repeat (first | exact grow_refl _ | refine grow_ext _ ?_ | refine grow_alloc _ ?_ | refine grow_drew ?_)))) (HM.out.below (by (repeat (first | exact grow_refl _ | refine grow_ext _ ?_ | refine grow_alloc _ ?_ | refine grow_drew ?_))))).mono ?_; rintro e w' ⟨rfl, x3, rfl⟩
  go_wp2_with fail
  go_at_call 19; refine (C2.out _ (HL.out.below (by (repeat (first | exact grow_refl _ | refine grow_ext _ ?_ | refine grow_alloc _ ?_ | refine grow_drew ?_)))) (HM.out.below (by (repeat (first | exact grow_refl _ | refine grow_ext _ ?_ | refine grow_alloc _ ?_ | refine grow_drew ?_))))).mono ?_; rintro e w' ⟨rfl, x4, rfl⟩
  go_wp2_with fail
  go_at_call 20; refine Calls.mono (concat_c l m _ _ _ _ (HL.out.below (by (repeat (first | exact grow_refl _ | refine grow_ext _ ?_ | refine grow_alloc _ ?_ | refine grow_drew ?_)))) (HM.out.below (by (repeat (first | exact grow_refl _ | refine grow_ext _ ?_ | refine grow_alloc _ ?_ | refine grow_drew ?_)))) (by omega) (by omega) (by simp [go_sem]) (by simp [go_sem])) ?_; rintro e w' ⟨v1, rfl, hown1, x5, rfl⟩
  generalize hall : l ++ m = all at *
  have P1 := Lib.hid (Boxes.of_own hown1)
  obtain ⟨a1, cap1, rfl, hc1, hc2, hc9⟩ := own_shape hown1
  have hc3 : cap1 ≤ 9223372036854775807 := hc2
  clear hown1 hall hc2 hc9
  go_wp2_with fail
  obtain ⟨g, hg⟩ : ∃ g, g = w.heap.size + 1 + x0.heap.size + x1.heap.size + x2.heap.size + x3.heap.size + x4.heap.size := ⟨_, rfl⟩
  rw [← hg]
  refine world_mask (fun W => Below w.heap.size w W ∧ (W.cell? ⟨w.heap.size, 0, none⟩ = some (.slice ua l.length uc) ∧ W.cell? ⟨w.heap.size, 1, none⟩ = some (.slice ta m.length tc)) ∧ BoxAt W g 0 H ∧ Boxes W (.slice a1 all.length cap1) all) _ ?_ ?_
  · refine ⟨by (repeat (first | exact grow_refl _ | refine grow_ext _ ?_ | refine grow_alloc _ ?_ | refine grow_drew ?_)), ⟨by simp [go_sem], by simp [go_sem]⟩, ?_, P1.out⟩
    subst hg
    simp [BoxAt, go_sem]
  clear P1 hg x0 x1 x2 x3 x4 x5
  rintro W1 ⟨hB, ⟨s0, s1⟩, ⟨b0, b1, b2, b3, b4, b5⟩, hP⟩
  simp only [Nat.zero_add] at b1 b2 b3 b4 b5
  have HB := Lib.hid hB
  obtain ⟨_, _, he, _, _, hcell⟩ := hP.shape
  cases he
  have HC := Lib.hid hcell
  clear hB hP hcell b1 b2 b4 b5
  go_loopw [49, 7] (fun i v7 wr => ∃ j : Nat, j ≤ all.length ∧ i = .int .i64 j ∧ (∃ x, wr = ext W1 x) ∧ wr.ownsRow W1.heap.size 3 1 v7 (endsL (all.take j) 0).length ((endsL (all.take j) 0).map (Value.int .i64))) (fun i _ _ => all.length - (intOf i).toNat)
  case atStart => exact ⟨0, by omega, rfl, ext_refl _, World.ownsRow_nil _ _ _ _⟩
  case round =>
    obtain ⟨j, hj, rfl, ⟨y, rfl⟩, hown⟩ := hrel
    by_cases hlt : j < all.length
    · obtain ⟨b', off, rfl, c0, c1, c2, c3, c4, c5⟩ := HC.out j hlt
      have hle := endsL_len (all.take j) 0
      have htl : (all.take j).length ≤ j := by simp; omega
      have HET := Lib.hid (endsL_take all 0 j hlt)
      go_wp2_with (at_builtin; refine app_own rfl _ _ 45 rfl 3 (.int .i64 0) 1 8 Try.underlying45 info_int rfl (by decide) W1 _ _ _ _ rfl ((hown.alloc _).alloc _) _ 2 2 [.int .i64 all[j].lx, .int .i64 all[j].hx] rfl rfl (cells_new ?_ _ _ _ rfl) (by simp [Value.oneCell']) ?_ (by decide) ?_ ?_; (simp [size_ext]); (omega); (repeat (first | exact grow_refl _ | refine grow_ext _ ?_ | refine grow_alloc _ ?_ | refine grow_drew ?_)); intro v' x' hown3 hgrow)
      go_roundw
      case rel => exact ⟨j + 1, by omega, by go_num, ⟨_, rfl⟩, by rw [HET.out]; simpa [lo0, hi0] using hown3⟩
      case measure => simp [intOf]; omega
    · obtain rfl : j = all.length := by omega
      rw [List.take_length] at hown
      have hle := endsL_len all 0
      have hml := length_sorted (endsL all 0)
      have hml2 : (sorted (endsL all 0)).length ≤ 16 := by omega
      clear hml hlt
      go_wp2_with fail
      go_at_call 21
      refine (sort_own u7 (endsL all 0) _ hown (by omega)).mono ?_
      rintro e w' ⟨rfl, hown2, hg2⟩
      obtain ⟨y2, rfl⟩ := ext_grown hg2 (own_row hown)
      clear hown hg2
      go_wp2_with fail
      go_at_call 22
      refine (compact_own u7 (sorted (endsL all 0)) _ hown2 (by omega)).mono ?_
      rintro e w' ⟨v2, rfl, hown3, hg3, _⟩
      obtain ⟨y3, rfl⟩ := ext_grown hg3 (own_row hown2)
      rw [show Lib.compact (sorted (endsL all 0)) = A from HAX.out.symm] at hown3
      obtain ⟨a2, cap2, rfl, hd1, hd2, hd3⟩ := own_shape hown3
      have hd4 : cap2 ≤ 9223372036854775807 := hd2
      obtain ⟨ga, rfl, _, hac⟩ := hd3 (by have := HNE.out; omega)
      have HAC : Hid (∀ i (h : i < A.length), (ext W1 y3).cell? ⟨ga, i, none⟩ = some (.int .i64 A[i])) := Lib.hid fun i h => by
        rw [hac i (by omega)]
        simp [h]
      clear hd1 hd2 hd3 hown3 hown2 hg3 hac
      go_wp2_with fail
      refine world_mask (fun W => Below w.heap.size w W ∧ (W.cell? ⟨w.heap.size, 0, none⟩ = some (.slice ua l.length uc) ∧ W.cell? ⟨w.heap.size, 1, none⟩ = some (.slice ta m.length tc)) ∧ (W.cell? ⟨g, 0, none⟩ = some (.int .i64 H.lx) ∧ W.cell? ⟨g, 3, none⟩ = some (.int .i64 H.hx)) ∧ ∀ i (h : i < A.length), W.cell? ⟨ga, i, none⟩ = some (.int .i64 A[i])) _ ?_ ?_
      · exact ⟨by (repeat (first | exact grow_refl _ | exact HB.out | refine grow_ext _ ?_ | refine grow_alloc _ ?_ | refine grow_drew ?_)), ⟨cell_ext_some s0 _, cell_ext_some s1 _⟩, ⟨cell_ext_some b0 _, cell_ext_some b3 _⟩, HAC.out⟩
      clear HAC HB s0 s1 b0 b3 HC
      rintro W2 ⟨hB, ⟨s0, s1⟩, ⟨b0, b3⟩, hac⟩
      have HB := Lib.hid hB
      have HAC := Lib.hid hac
      have hne := HNE.out
      clear hB hac
      go_loopw [11, 10] (fun i s wr => ∃ j : Nat, j + 1 ≤ A.length ∧ i = .int .i64 (j + 1) ∧ s = .int .i64 (sumL (sliceF l m) ((pairsL A).take j)) ∧ ∃ x, wr = ext W2 x) (fun i _ _ => A.length - (intOf i).toNat)
      case atStart => exact ⟨0, by omega, rfl, rfl, ext_refl _⟩
      case round =>
        obtain ⟨j, hj, rfl, rfl, x, rfl⟩ := hrel
        by_cases hlt2 : j + 1 < A.length
        · obtain ⟨⟨e1, e2⟩, ⟨p1, p2⟩, ⟨q1, q2, q3⟩, ho⟩ := HF.out j hlt2
          have K1 := Lib.hid (fun w hl hm => C3.out A[j] w hl hm)
          have K2 := Lib.hid (fun w hl hm => C3.out (A[j + 1] - 1) w hl hm)
          rw [e1] at K1
          rw [e2] at K2
          have HS := Lib.hid (HST.out j hlt2)
          have hc1 := HAC.out j (by omega)
          have hc2 := HAC.out (j + 1) hlt2
          have r1 := HNN.out j
          have r2 := HLE.out j
          have r3 := HNN.out (j + 1)
          have r4 := HLE.out (j + 1)
          rw [HS.out] at r3 r4
          generalize A[j] = a at *
          generalize A[j + 1] = c at *
          generalize sectI l m a = S at *
          generalize hP : sumL (sliceF l m) ((pairsL A).take j) = P at *
          have HP := Lib.hid hP
          clear hP e1 e2
          have hal2 := HAL.out
          have w1 : IntKind.i64.wrap ((j : Int) + 1 - 1) = (j : Int) := by rw [show (j : Int) + 1 - 1 = j by omega]; exact IntWalk.i64_in _ (by omega)
          have w2 : IntKind.i64.wrap (c - 1) = c - 1 := IntWalk.i64_in _ (by omega)
          go_wp2_with fail
          refine wp_region_grows (by kernel_rfl) (by kernel_rfl) ?_
          repeat (go_big_quiet_step ((go_at_call 23; exact Calls.quiet_ext (K1.out _ (HL.out.below (by (repeat (first | exact grow_refl _ | exact HB.out | refine grow_ext _ ?_ | refine grow_alloc _ ?_ | refine grow_drew ?_)))) (HM.out.below (by (repeat (first | exact grow_refl _ | exact HB.out | refine grow_ext _ ?_ | refine grow_alloc _ ?_ | refine grow_drew ?_))))))))
          refine wpQuiet_nil ?_; rintro _ ⟨xq, rfl⟩
          go_wp2_with fail
          refine wp_region_grows (by kernel_rfl) (by kernel_rfl) ?_
          repeat (go_big_quiet_step ((go_at_call 23; exact Calls.quiet_ext (K2.out _ (HL.out.below (by (repeat (first | exact grow_refl _ | exact HB.out | refine grow_ext _ ?_ | refine grow_alloc _ ?_ | refine grow_drew ?_)))) (HM.out.below (by (repeat (first | exact grow_refl _ | exact HB.out | refine grow_ext _ ?_ | refine grow_alloc _ ?_ | refine grow_drew ?_))))))))
          refine wpQuiet_nil ?_; rintro _ ⟨xq, rfl⟩
          have t3 : decide (S < 0) = false := by simp; omega
          have m1 : 0 ≤ S * (c - a) := Int.mul_nonneg p1 (by omega)
          have w3 : IntKind.i64.wrap (c - a) = c - a := IntWalk.i64_in _ (by omega)
          have w4 : IntKind.i64.wrap (S * (c - a)) = S * (c - a) := IntWalk.i64_in _ (by omega)
          have w5 : IntKind.i64.wrap (P + S * (c - a)) = P + S * (c - a) := IntWalk.i64_in _ (by omega)
          by_cases h1 : a < H.lx
          · have t1 : decide (a < H.lx) = true := by simpa using h1
            obtain rfl : S = 0 := ho (.inl h1)
            go_wp2_with fail
            refine wp_region_grows (by kernel_rfl) (by kernel_rfl) ?_
            repeat (go_big_quiet_step (fail))
            refine wpQuiet_nil ?_; rintro _ ⟨xq, rfl⟩
            go_wp2_with fail
            refine wp_region_grows (by kernel_rfl) (by kernel_rfl) ?_
            repeat (go_big_quiet_step (fail))
            refine wpQuiet_nil ?_; rintro _ ⟨xq, rfl⟩
            go_wp2
            go_roundw
            case rel => exact ⟨j + 1, by omega, by go_num, by rw [HS.out]; try simp, ext_of (by (repeat (first | exact grow_refl _ | refine grow_ext _ ?_ | refine grow_alloc _ ?_ | refine grow_drew ?_)))⟩
            case measure => simp [intOf]; omega
          · have t1 : decide (a < H.lx) = false := by simpa using h1
            by_cases h2 : H.hx ≤ a
            · have t2 : decide (H.hx ≤ a) = true := by simpa using h2
              obtain rfl : S = 0 := ho (.inr h2)
              go_wp2_with fail
              refine wp_region_grows (by kernel_rfl) (by kernel_rfl) ?_
              repeat (go_big_quiet_step (fail))
              refine wpQuiet_nil ?_; rintro _ ⟨xq, rfl⟩
              go_wp2_with fail
              refine wp_region_grows (by kernel_rfl) (by kernel_rfl) ?_
              repeat (go_big_quiet_step (fail))
              refine wpQuiet_nil ?_; rintro _ ⟨xq, rfl⟩
              go_wp2
              go_roundw
              case rel => exact ⟨j + 1, by omega, by go_num, by rw [HS.out]; try simp, ext_of (by (repeat (first | exact grow_refl _ | refine grow_ext _ ?_ | refine grow_alloc _ ?_ | refine grow_drew ?_)))⟩
              case measure => simp [intOf]; omega
            · have t2 : decide (H.hx ≤ a) = false := by simpa using h2
              go_wp2_with fail
              refine wp_region_grows (by kernel_rfl) (by kernel_rfl) ?_
              repeat (go_big_quiet_step (fail))
              refine wpQuiet_nil ?_; rintro _ ⟨xq, rfl⟩
              go_wp2_with fail
              refine wp_region_grows (by kernel_rfl) (by kernel_rfl) ?_
              repeat (go_big_quiet_step (fail))
              refine wpQuiet_nil ?_; rintro _ ⟨xq, rfl⟩
              go_wp2
              go_roundw
              case rel => exact ⟨j + 1, by omega, by go_num, by rw [HS.out]; try simp, ext_of (by (repeat (first | exact grow_refl _ | refine grow_ext _ ?_ | refine grow_alloc _ ?_ | refine grow_drew ?_)))⟩
              case measure => simp [intOf]; omega
        · have hj2 : j = (pairsL A).length := by have := HPL.out; omega
          subst hj2
          rw [List.take_length, HALL.out]
          go_wp2
          go_ret
          exact Ret.of (by (repeat (first | exact grow_refl _ | exact HB.out | refine grow_ext _ ?_ | refine grow_alloc _ ?_ | refine grow_drew ?_)))

end Go.Proofs.Ytafkibnkpcmmgaa
