/- The reference's volume and cross-section of a solid. -/
import Derived.Test.YtafkibnkpcmmgaaSolJ
import Derived.Test.YtafkibnkpcmmgaaSolS
namespace Go.Proofs.Ytafkibnkpcmmgaa
open Go.RowKit

theorem div_lt {a b h : Int} (hh : 0 < h) : b / h < a ↔ b < a * h := by
  constructor
  · intro hlt
    have := Int.lt_ediv_add_one_mul_self b hh
    have h2 : (b / h + 1) * h ≤ a * h := Int.mul_le_mul_of_nonneg_right (by omega) (by omega)
    omega
  · intro hlt
    exact Int.ediv_lt_of_lt_mul hh hlt

theorem Boxes.own_grown {w w' : World} {base : Nat} {e : TypeId} {v : Value} {l : List Bx} (h : w.ownsRow base e 6 v l.length (boxCells l)) (hb : Below w.heap.size w w') : Boxes w' v l := (Boxes.of_own h).below hb

set_option maxRecDepth 100000 in
set_option maxHeartbeats 4000000 in
theorem refVolume_c (l m : List Bx) (u t : Value) (hs : solidB l m = true) (w : World) (hl : Boxes w u l) (hm : Boxes w t m) :
    Calls Try.prog 37 #[.agg #[u, t]] w (Ret w (.tuple #[.int .i64 (volR l m).1, .int .i64 (volR l m).2])) := by
  have hsi := solid_iff.1 hs
  have hne : l ≠ [] := by rintro rfl; simp at hsi
  have HR := Lib.hid (show volR l m = (if volI l m ≤ 1152921504606846976 then (volI l m, 0) else (0, 5)) by unfold volR; rw [hs]; rfl)
  have HC := Lib.hid (fun (w : World) hl hm => refSolCells_c l m u t hs w hl hm)
  have HV : Hid (∀ c ∈ cellsL l m, thickB c = true) := fun c hc => cells_valid hsi.2.2.1 hne hc
  have HLE : Hid (∀ i, sumL volB ((cellsL l m).take i) ≤ volI l m) := fun i => sumL_take_le (fun c hc => vol_nonneg (by have := (cells_mem hc).1; omega)) i
  have HNN : Hid (∀ i, 0 ≤ sumL volB ((cellsL l m).take i)) := fun i => sumL_nonneg fun c hc => vol_nonneg (by have := (cells_mem (List.mem_of_mem_take hc)).1; omega)
  have HT : Hid (∀ i (h : i < (cellsL l m).length), sumL volB ((cellsL l m).take (i + 1)) = sumL volB ((cellsL l m).take i) + volB (cellsL l m)[i]) := fun i h => sumL_take _ _ i h
  have HALL : Hid (sumL volB ((cellsL l m).take (cellsL l m).length) = volI l m) := by rw [List.take_length]; exact Lib.hid rfl
  have HL := Lib.hid hl
  have HM := Lib.hid hm
  generalize hcs : cellsL l m = cs at *
  generalize volI l m = V at *
  clear hs hsi hne hl hm hcs
  go_enter Try.func37, Try.ntmps37
  go_wp2_with fail
  go_at_call 38; refine Calls.mono (HC.out _ (HL.out.below (by (repeat (first | exact grow_refl _ | refine grow_ext _ ?_ | refine grow_alloc _ ?_ | refine grow_drew ?_)))) (HM.out.below (by (repeat (first | exact grow_refl _ | refine grow_ext _ ?_ | refine grow_alloc _ ?_ | refine grow_drew ?_))))) ?_; rintro e w' ⟨v1, rfl, hown1, x1, rfl⟩
  have P1 := Lib.hid (Boxes.of_own hown1)
  obtain ⟨a1, c1, rfl, hc1, hc2, _⟩ := own_shape hown1
  have hc3 : c1 ≤ 9223372036854775807 := hc2
  clear hown1 hc2
  go_wp2_with fail
  refine world_mask (fun W => Below w.heap.size w W ∧ Boxes W (.slice a1 cs.length c1) cs) _ ?_ ?_
  · exact ⟨by (repeat (first | exact grow_refl _ | refine grow_ext _ ?_ | refine grow_alloc _ ?_ | refine grow_drew ?_)), P1.out.below (by (repeat (first | exact grow_refl _ | refine grow_ext _ ?_ | refine grow_alloc _ ?_ | refine grow_drew ?_)))⟩
  clear P1 HC HL HM
  rintro W1 ⟨hB, hP⟩
  have HB := Lib.hid hB
  obtain ⟨_, _, he, _, _, hcell⟩ := hP.shape
  cases he
  have HCE := Lib.hid hcell
  clear hB hP hcell
  go_loopw [6, 5] (fun i s wr => ∃ j : Nat, j ≤ cs.length ∧ i = .int .i64 j ∧ s = .int .i64 (sumL volB (cs.take j)) ∧ (sumL volB (cs.take j) ≤ 1152921504606846976) ∧ ∃ x, wr = ext W1 x) (fun i _ _ => cs.length - (intOf i).toNat)
  case atStart => exact ⟨0, Nat.zero_le _, rfl, rfl, by simp [sumL], ext_refl _⟩
  case round =>
    obtain ⟨j, hj, rfl, rfl, hle, x, rfl⟩ := hrel
    by_cases hlt : j < cs.length
    · obtain ⟨b0, off, rfl, d0, d1, d2, d3, d4, d5⟩ := HCE.out j hlt
      have hnn := HNN.out j
      have HS := Lib.hid (HT.out j hlt)
      have HS2 := Lib.hid (HLE.out (j + 1))
      have hth := thick_iff.1 (HV.out _ (List.getElem_mem hlt))
      obtain ⟨c, hc⟩ : ∃ c, c = cs[j] := ⟨_, rfl⟩
      rw [← hc] at d0 d1 d2 d3 d4 d5 HS hth
      clear hc
      generalize hP : sumL volB (cs.take j) = P at *
      have HPP := Lib.hid hP
      clear hP
      obtain ⟨hv, t1, t2, t3⟩ := hth
      have hv := valid_iff.1 hv
      have b1 : 0 ≤ c.hx - c.lx ∧ c.hx - c.lx ≤ 2097152 := by omega
      have b2 : 0 ≤ c.hy - c.ly ∧ c.hy - c.ly ≤ 2097152 := by omega
      have b3 : 1 ≤ c.hz - c.lz ∧ c.hz - c.lz ≤ 2097152 := by omega
      have m1 : 0 ≤ (c.hx - c.lx) * (c.hy - c.ly) := Int.mul_nonneg b1.1 b2.1
      have m2 : (c.hx - c.lx) * (c.hy - c.ly) ≤ 4398046511104 := Int.le_trans (Int.mul_le_mul b1.2 b2.2 b2.1 (by omega)) (by decide)
      have m3 : 0 ≤ (c.hx - c.lx) * (c.hy - c.ly) * (c.hz - c.lz) := Int.mul_nonneg m1 (by omega)
      have q1 : 0 ≤ (1152921504606846976 - P) / (c.hz - c.lz) := Int.ediv_nonneg (by omega) (by omega)
      have q2 : (1152921504606846976 - P) / (c.hz - c.lz) ≤ 1152921504606846976 := Int.le_trans (Int.ediv_le_self _ (by omega)) (by omega)
      have q3 : 0 ≤ 1152921504606846976 - P := by omega
      have q4 : 0 < c.hz - c.lz := by omega
      by_cases hbig : 1152921504606846976 - P < (c.hx - c.lx) * (c.hy - c.ly) * (c.hz - c.lz)
      · have t4 : decide ((1152921504606846976 - P) / (c.hz - c.lz) < (c.hx - c.lx) * (c.hy - c.ly)) = true := decide_eq_true ((div_lt q4).2 hbig)
        have HN : Hid (¬ V ≤ 1152921504606846976) := by
          refine Lib.hid ?_
          have h1 := HS.out
          have h2 := HS2.out
          have h3 : volB c = (c.hx - c.lx) * (c.hy - c.ly) * (c.hz - c.lz) := rfl
          omega
        rw [if_neg HN.out] at HR
        have hz : ¬ (c.hz - c.lz = 0) := by omega
        clear hbig t1 t2 t3 hv
        go_wp2
        go_ret2
        rw [HR.out]
        exact Ret.of (by (repeat (first | exact grow_refl _ | exact HB.out | refine grow_ext _ ?_ | refine grow_alloc _ ?_ | refine grow_drew ?_)))
      · have t4 : decide ((1152921504606846976 - P) / (c.hz - c.lz) < (c.hx - c.lx) * (c.hy - c.ly)) = false := decide_eq_false (fun h => hbig ((div_lt q4).1 h))
        have m4 : (c.hx - c.lx) * (c.hy - c.ly) * (c.hz - c.lz) ≤ 1152921504606846976 - P := by omega
        have hz : ¬ (c.hz - c.lz = 0) := by omega
        have h3 : volB c = (c.hx - c.lx) * (c.hy - c.ly) * (c.hz - c.lz) := rfl
        clear hbig t1 t2 t3 hv
        go_wp2
        go_roundw
        case rel =>
          refine ⟨j + 1, by omega, by go_num, by rw [HS.out, h3], by rw [HS.out, h3]; omega, ext_of (by (repeat (first | exact grow_refl _ | refine grow_ext _ ?_ | refine grow_alloc _ ?_ | refine grow_drew ?_)))⟩
        case measure => simp [intOf]; omega
    · have hj2 : j = cs.length := by omega
      subst hj2
      rw [HALL.out] at hle ⊢
      go_wp2
      go_ret2
      rw [HR.out, if_pos hle]
      exact Ret.of (by (repeat (first | exact grow_refl _ | exact HB.out | refine grow_ext _ ?_ | refine grow_alloc _ ?_ | refine grow_drew ?_)))

end Go.Proofs.Ytafkibnkpcmmgaa
