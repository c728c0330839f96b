/- The reference's cross-section of a solid. -/
import Derived.Test.YtafkibnkpcmmgaaSolT
namespace Go.Proofs.Ytafkibnkpcmmgaa
open Go.RowKit

theorem secF_nonneg {l m : List Bx} {x : Int} {c : Bx} (h : c ∈ cellsL l m) : 0 ≤ secF x c := by
  unfold secF
  have := (cells_mem h).1
  split
  · exact area_nonneg (by omega)
  · exact Int.le_refl _

set_option maxRecDepth 100000 in
set_option maxHeartbeats 4000000 in
theorem refSection_c (l m : List Bx) (u t : Value) (q : Int) (hs : solidB l m = true) (w : World) (hl : Boxes w u l) (hm : Boxes w t m) :
    Calls Try.prog 41 #[.agg #[u, t], .int .i64 q] w (Ret w (.int .i64 (sectI l m q))) := by
  have hsi := solid_iff.1 hs
  have hne : l ≠ [] := by rintro rfl; simp at hsi
  have HC := Lib.hid (fun (w : World) hl hm => refSolCells_c l m u t hs w hl hm)
  have HV : Hid (∀ c ∈ cellsL l m, thickB c = true) := fun c hc => cells_valid hsi.2.2.1 hne hc
  have HLE : Hid (∀ i, sumL (secF q) ((cellsL l m).take i) ≤ 4398046511104) := fun i => Int.le_trans (sumL_take_le (fun c hc => secF_nonneg hc) i) (sect_bound hsi.2.2.1 hne q).2
  have HNN : Hid (∀ i, 0 ≤ sumL (secF q) ((cellsL l m).take i)) := fun i => sumL_nonneg fun c hc => secF_nonneg (List.mem_of_mem_take hc)
  have HT : Hid (∀ i (h : i < (cellsL l m).length), sumL (secF q) ((cellsL l m).take (i + 1)) = sumL (secF q) ((cellsL l m).take i) + secF q (cellsL l m)[i]) := fun i h => sumL_take _ _ i h
  have HALL : Hid (sumL (secF q) ((cellsL l m).take (cellsL l m).length) = sectI l m q) := by rw [List.take_length]; exact Lib.hid rfl
  have HL := Lib.hid hl
  have HM := Lib.hid hm
  generalize hcs : cellsL l m = cs at *
  generalize sectI l m q = V at *
  clear hs hsi hne hl hm hcs
  go_enter Try.func41, Try.ntmps41
  go_wp2_with fail
  go_at_call 38; refine Calls.mono (HC.out _ (HL.out.below (by (repeat (first | exact grow_refl _ | refine grow_ext _ ?_ | refine grow_alloc _ ?_ | refine grow_drew ?_)))) (HM.out.below (by (repeat (first | exact grow_refl _ | refine grow_ext _ ?_ | refine grow_alloc _ ?_ | refine grow_drew ?_))))) ?_; rintro e w' ⟨v1, rfl, hown1, x1, rfl⟩
  have P1 := Lib.hid (Boxes.of_own hown1)
  obtain ⟨a1, c1, rfl, hc1, hc2, _⟩ := own_shape hown1
  have hc3 : c1 ≤ 9223372036854775807 := hc2
  clear hown1 hc2
  go_wp2_with fail
  refine world_mask (fun W => Below w.heap.size w W ∧ Boxes W (.slice a1 cs.length c1) cs) _ ?_ ?_
  · exact ⟨by (repeat (first | exact grow_refl _ | refine grow_ext _ ?_ | refine grow_alloc _ ?_ | refine grow_drew ?_)), P1.out.below (by (repeat (first | exact grow_refl _ | refine grow_ext _ ?_ | refine grow_alloc _ ?_ | refine grow_drew ?_)))⟩
  clear P1 HC HL HM
  rintro W1 ⟨hB, hP⟩
  have HB := Lib.hid hB
  obtain ⟨_, _, he, _, _, hcell⟩ := hP.shape
  cases he
  have HCE := Lib.hid hcell
  clear hB hP hcell
  go_loopw [7, 6] (fun i s wr => ∃ j : Nat, j ≤ cs.length ∧ i = .int .i64 j ∧ s = .int .i64 (sumL (secF q) (cs.take j)) ∧ ∃ x, wr = ext W1 x) (fun i _ _ => cs.length - (intOf i).toNat)
  case atStart => exact ⟨0, Nat.zero_le _, rfl, rfl, ext_refl _⟩
  case round =>
    obtain ⟨j, hj, rfl, rfl, x, rfl⟩ := hrel
    by_cases hlt : j < cs.length
    · obtain ⟨b0, off, rfl, d0, d1, d2, d3, d4, d5⟩ := HCE.out j hlt
      have hnn := HNN.out j
      have hle := HLE.out j
      have HS := Lib.hid (HT.out j hlt)
      have HS2 := Lib.hid (HLE.out (j + 1))
      have hth := thick_iff.1 (HV.out _ (List.getElem_mem hlt))
      obtain ⟨c, hc⟩ : ∃ c, c = cs[j] := ⟨_, rfl⟩
      rw [← hc] at d0 d1 d2 d3 d4 d5 HS hth
      clear hc
      generalize hP : sumL (secF q) (cs.take j) = P at *
      have HPP := Lib.hid hP
      clear hP
      obtain ⟨hv, t1, t2, t3⟩ := hth
      have hv := valid_iff.1 hv
      have b2 : 0 ≤ c.hy - c.ly ∧ c.hy - c.ly ≤ 2097152 := by omega
      have b3 : 0 ≤ c.hz - c.lz ∧ c.hz - c.lz ≤ 2097152 := by omega
      have m1 : 0 ≤ (c.hy - c.ly) * (c.hz - c.lz) := Int.mul_nonneg b2.1 b3.1
      have m2 : (c.hy - c.ly) * (c.hz - c.lz) ≤ 4398046511104 := Int.le_trans (Int.mul_le_mul b2.2 b3.2 b3.1 (by omega)) (by decide)
      have h3 : areaB c = (c.hy - c.ly) * (c.hz - c.lz) := rfl
      clear t1 t2 t3
      by_cases hin : c.lx ≤ q ∧ q < c.hx
      · have t1 : decide (c.lx ≤ q) = true := by simpa using hin.1
        have t2 : decide (q < c.hx) = true := by simpa using hin.2
        have HF := Lib.hid (show secF q c = (c.hy - c.ly) * (c.hz - c.lz) from if_pos hin)
        clear hv hin
        go_wp2
        go_roundw
        case rel => exact ⟨j + 1, by omega, by go_num, by rw [HS.out, HF.out], ext_of (by (repeat (first | exact grow_refl _ | refine grow_ext _ ?_ | refine grow_alloc _ ?_ | refine grow_drew ?_)))⟩
        case measure => simp [intOf]; omega
      · have HF := Lib.hid (show secF q c = 0 from if_neg hin)
        by_cases h1 : c.lx ≤ q
        · have t1 : decide (c.lx ≤ q) = true := by simpa using h1
          have t2 : decide (q < c.hx) = false := by simp; omega
          clear hv hin
          go_wp2
          go_roundw
          case rel => exact ⟨j + 1, by omega, by go_num, by rw [HS.out, HF.out, Int.add_zero], ext_of (by (repeat (first | exact grow_refl _ | refine grow_ext _ ?_ | refine grow_alloc _ ?_ | refine grow_drew ?_)))⟩
          case measure => simp [intOf]; omega
        · have t1 : decide (c.lx ≤ q) = false := by simpa using h1
          clear hv hin
          go_wp2
          go_roundw
          case rel => exact ⟨j + 1, by omega, by go_num, by rw [HS.out, HF.out, Int.add_zero], ext_of (by (repeat (first | exact grow_refl _ | refine grow_ext _ ?_ | refine grow_alloc _ ?_ | refine grow_drew ?_)))⟩
          case measure => simp [intOf]; omega
    · have hj2 : j = cs.length := by omega
      subst hj2
      rw [HALL.out] at ⊢
      go_wp2
      go_ret
      exact Ret.of (by (repeat (first | exact grow_refl _ | exact HB.out | refine grow_ext _ ?_ | refine grow_alloc _ ?_ | refine grow_drew ?_)))

end Go.Proofs.Ytafkibnkpcmmgaa
