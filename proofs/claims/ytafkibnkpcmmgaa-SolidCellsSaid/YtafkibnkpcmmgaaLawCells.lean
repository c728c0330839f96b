/- SolidCells: the walk of the law. -/
import Derived.Test.YtafkibnkpcmmgaaLawMod
import Derived.Test.YtafkibnkpcmmgaaLawForms0
namespace Go.Proofs.Ytafkibnkpcmmgaa
open Go.RowKit

def SmallB (b : Bx) : Prop := (0 ≤ b.hx - b.lx ∧ b.hx - b.lx ≤ 131072) ∧ (0 ≤ b.hy - b.ly ∧ b.hy - b.ly ≤ 131072) ∧ (0 ≤ b.hz - b.lz ∧ b.hz - b.lz ≤ 131072)
theorem small_vol {b : Bx} (h : SmallB b) : (0 ≤ (b.hx - b.lx) * (b.hy - b.ly) ∧ (b.hx - b.lx) * (b.hy - b.ly) ≤ 17179869184) ∧ 0 ≤ volB b ∧ volB b ≤ 2251799813685248 := by
  obtain ⟨h1, h2, h3⟩ := h
  have m1 : 0 ≤ (b.hx - b.lx) * (b.hy - b.ly) := Int.mul_nonneg h1.1 h2.1
  have m2 : (b.hx - b.lx) * (b.hy - b.ly) ≤ 17179869184 := Int.le_trans (Int.mul_le_mul h1.2 h2.2 h2.1 (by omega)) (by decide)
  exact ⟨⟨m1, m2⟩, Int.mul_nonneg m1 h3.1, Int.le_trans (Int.mul_le_mul m2 h3.2 h3.1 (by omega)) (by decide)⟩
set_option maxHeartbeats 1000000 in
theorem size17_c (b : Bx) (hb : validB b = true) (hs : SmallB b) (w : World) : Calls Try.prog 27 #[(.agg #[.int .i64 b.lx, .int .i64 b.ly, .int .i64 b.lz, .int .i64 b.hx, .int .i64 b.hy, .int .i64 b.hz])] w (Ret w (.int .i64 (volB b))) := by
  obtain ⟨m1, m2⟩ := small_vol hs
  obtain ⟨h1, h2, h3⟩ := hs
  have hv := valid_iff.1 hb
  have e : volB b = (b.hx - b.lx) * (b.hy - b.ly) * (b.hz - b.lz) := rfl
  rw [e] at m2
  have HE := Lib.hid e
  clear e hb
  go_enter Try.func27, Try.ntmps27
  go_wp2
  go_ret
  rw [HE.out]
  exact Ret.of (by (repeat (first | exact grow_refl _ | refine grow_ext _ ?_ | refine grow_alloc _ ?_ | refine grow_drew ?_)))

theorem boxAt_below {w w' : World} {b off : Nat} {x : Bx} (h : BoxAt w b off x) (hb : Below w.heap.size w w') : BoxAt w' b off x := by
  obtain ⟨y, rfl⟩ := ext_of hb
  exact h.ext y

theorem cells_facts {l m : List Bx} (hs : solidB l m = true) (hmo : modestS l m = true) {c : Bx} (hc : c ∈ cellsL l m) :
    validB c = true ∧ SmallB c ∧ (c.lx < c.hx ∧ c.ly < c.hy ∧ c.lz < c.hz) ∧ containsR17 l m c = (true, 0) := by
  have hsi := solid_iff.1 hs
  have hne : l ≠ [] := by rintro rfl; simp at hsi
  have ht := hsi.2.2.1
  have h1 := cells_mem hc
  have h2 := cells_hull ht hne hc
  have h3 := (thick_iff.1 (cells_valid ht hne hc)).1
  have hmod : l.all modestB = true := by unfold modestS at hmo; rw [List.all_append, Bool.and_eq_true] at hmo; exact hmo.1
  have hE : ∀ k, -65536 ≤ (hullX l).lo k ∧ (hullX l).hi k ≤ 65536 := fun k => by
    obtain ⟨⟨b, hb, e⟩, ⟨b', hb', e'⟩⟩ := hull_ends hne k
    have m1 := modest_iff.1 (List.all_eq_true.1 hmod b hb)
    have m2 := modest_iff.1 (List.all_eq_true.1 hmod b' hb')
    rw [e, e']
    unfold Bx.lo Bx.hi
    constructor
    · split
      · omega
      · split <;> omega
    · split
      · omega
      · split <;> omega
  rw [contains_iff] at h2
  have e0 := hE 0
  have e1 := hE 1
  have e2 := hE 2
  rw [lo0, hi0] at e0
  rw [lo1, hi1] at e1
  rw [lo2, hi2] at e2
  refine ⟨h3, ⟨by omega, by omega, by omega⟩, h1.1, ?_⟩
  unfold containsR17
  rw [if_pos ⟨hs, h3⟩, sel_contains (by omega) h1.2]
theorem cells_gap (l m : List Bx) {i k : Nat} (hk : k < i) (hi : i < (cellsL l m).length) : 0 ≤ gapI (cellsL l m)[i] (cellsL l m)[k] := List.pairwise_iff_getElem.1 (cells_pair l m) k i (by omega) hi hk

set_option maxRecDepth 100000 in
set_option maxHeartbeats 4000000 in
theorem lawCells_w (l m : List Bx) (u t : Value) (qx qy qz : Int) (cs : List Bx) (V : Int) (hlen : cs.length ≤ 1000) (hV : 0 ≤ V ∧ V ≤ 1152921504606846976)
    (C1 : Hid (∀ w, Boxes w u l → Boxes w t m → Calls Try.prog 18 #[.agg #[u, t]] w (Ret w (.tuple #[.int .i64 V, .int .i64 0]))))
    (C2 : Hid (∀ w, Boxes w u l → Boxes w t m → Calls Try.prog 36 #[.agg #[u, t]] w (RetBoxes w cs 0)))
    (C3 : Hid (∀ c, containsR17 l m c = (true, 0) → ∀ w, Boxes w u l → Boxes w t m → Calls Try.prog 15 #[.agg #[u, t], (.agg #[.int .i64 c.lx, .int .i64 c.ly, .int .i64 c.lz, .int .i64 c.hx, .int .i64 c.hy, .int .i64 c.hz])] w (Ret w (.tuple #[.bool true, .int .i64 0]))))
    (HF : Hid (∀ c ∈ cs, validB c = true ∧ SmallB c ∧ (c.lx < c.hx ∧ c.ly < c.hy ∧ c.lz < c.hz) ∧ containsR17 l m c = (true, 0)))
    (HG : Hid (∀ i k (_ : k < i) (hi : i < cs.length), 0 ≤ gapI (cs[i]) (cs[k]'(by omega))))
    (HP : Hid (∀ c ∈ cs, containsB c (ptX qx qy qz) = true → containsS l m (ptX qx qy qz) = true))
    (HLE : Hid (∀ i, sumL volB (cs.take i) ≤ V)) (HNN : Hid (∀ i, 0 ≤ sumL volB (cs.take i)))
    (HT : Hid (∀ i (h : i < cs.length), sumL volB (cs.take (i + 1)) = sumL volB (cs.take i) + volB cs[i])) (HALL : Hid (sumL volB (cs.take cs.length) = V))
    (C4 : Hid (∀ w, Boxes w u l → Boxes w t m → Calls Try.prog 16 #[.agg #[u, t], (.agg #[.int .i64 qx, .int .i64 qy, .int .i64 qz])] w (Ret w (.tuple #[.bool (if validB (ptX qx qy qz) = true then containsS l m (ptX qx qy qz) else false), .int .i64 (if validB (ptX qx qy qz) = true then 0 else 2)]))))
    (HR : Hid (rightB l m = true)) (HO : Hid (modestS l m = true)) (n1 : l.length ≤ 4) (n2 : m.length ≤ 4) (w : World) (hl : Boxes w u l) (hm : Boxes w t m) :
    Calls Try.prog 8 #[.agg #[u, t], (.agg #[.int .i64 qx, .int .i64 qy, .int .i64 qz])] w (Ret w (.bool true)) := by
  have HL := Lib.hid hl
  have HM := Lib.hid hm
  clear hl hm
  go_enter Try.func8, Try.ntmps8
  go_wp2_with fail
  go_at_call 9; refine (awake17_c _).mono ?_; rintro e w' ⟨rfl, x0, rfl⟩
  go_wp2_with fail
  go_at_call 10; refine (right17_v l m _ _ _ HR.out _ (HL.out.below (by (repeat (first | exact grow_refl _ | refine grow_ext _ ?_ | refine grow_alloc _ ?_ | refine grow_drew ?_)))) (HM.out.below (by (repeat (first | exact grow_refl _ | refine grow_ext _ ?_ | refine grow_alloc _ ?_ | refine grow_drew ?_))))).mono ?_; rintro e w' ⟨rfl, x1, rfl⟩
  go_wp2_with fail
  go_at_call 17; refine (modest17_v l m _ _ _ HO.out (by omega) (by omega) _ (HL.out.below (by (repeat (first | exact grow_refl _ | refine grow_ext _ ?_ | refine grow_alloc _ ?_ | refine grow_drew ?_)))) (HM.out.below (by (repeat (first | exact grow_refl _ | refine grow_ext _ ?_ | refine grow_alloc _ ?_ | refine grow_drew ?_))))).mono ?_; rintro e w' ⟨rfl, x2, rfl⟩
  go_wp2_with fail
  go_at_call 36; refine Calls.mono (C2.out _ (HL.out.below (by (repeat (first | exact grow_refl _ | refine grow_ext _ ?_ | refine grow_alloc _ ?_ | refine grow_drew ?_)))) (HM.out.below (by (repeat (first | exact grow_refl _ | refine grow_ext _ ?_ | refine grow_alloc _ ?_ | refine grow_drew ?_))))) ?_; rintro e w' ⟨v1, rfl, hown1, x3, rfl⟩
  have P1 := Lib.hid (Boxes.of_own hown1)
  obtain ⟨a1, cap1, rfl, hc1, hc2, hc9⟩ := own_shape hown1
  have hc3 : cap1 ≤ 9223372036854775807 := hc2
  clear hown1 hc2 hc9
  go_wp2_with fail
  go_at_call 18; refine (C1.out _ (HL.out.below (by (repeat (first | exact grow_refl _ | refine grow_ext _ ?_ | refine grow_alloc _ ?_ | refine grow_drew ?_)))) (HM.out.below (by (repeat (first | exact grow_refl _ | refine grow_ext _ ?_ | refine grow_alloc _ ?_ | refine grow_drew ?_))))).mono ?_; rintro e w' ⟨rfl, x4, rfl⟩
  go_wp2_with fail
  refine world_mask (fun W => Below w.heap.size w W ∧ (W.cell? ⟨w.heap.size, 0, none⟩ = some u ∧ W.cell? ⟨w.heap.size, 1, none⟩ = some t) ∧ (W.cell? ⟨w.heap.size + 1, 0, none⟩ = some (.int .i64 qx) ∧ W.cell? ⟨w.heap.size + 1, 1, none⟩ = some (.int .i64 qy) ∧ W.cell? ⟨w.heap.size + 1, 2, none⟩ = some (.int .i64 qz)) ∧ Boxes W (.slice a1 cs.length cap1) cs) _ ?_ ?_
  · exact ⟨by (repeat (first | exact grow_refl _ | refine grow_ext _ ?_ | refine grow_alloc _ ?_ | refine grow_drew ?_)), ⟨by simp [go_sem], by simp [go_sem]⟩, ⟨by simp [go_sem], by simp [go_sem], by simp [go_sem]⟩, P1.out.below (by (repeat (first | exact grow_refl _ | refine grow_ext _ ?_ | refine grow_alloc _ ?_ | refine grow_drew ?_)))⟩
  clear P1 x0 x1 x2 x3 x4
  rintro W1 ⟨hB, ⟨s0, s1⟩, ⟨p0, p1, p2⟩, hP⟩
  have HB := Lib.hid hB
  obtain ⟨_, _, he, _, _, hcell⟩ := hP.shape
  cases he
  have HCE := Lib.hid hcell
  have QL : Hid (∀ x, Boxes (ext W1 x) u l) := Lib.hid fun x => HL.out.below (HB.out.trans ((below_ext W1 x).mono HB.out.size))
  clear hB hP hcell
  go_loopw [59, 9] (fun i s wr => ∃ j : Nat, j ≤ cs.length ∧ i = .int .i64 j ∧ s = .int .i64 (sumL volB (cs.take j)) ∧ ∃ x, wr = ext W1 x) (fun i _ _ => cs.length - (intOf i).toNat)
  case atStart => exact ⟨0, by omega, rfl, rfl, ext_refl _⟩
  case round =>
    obtain ⟨j, hj, rfl, rfl, x, rfl⟩ := hrel
    by_cases hlt : j < cs.length
    · obtain ⟨b', off, rfl, c0, c1, c2, c3, c4, c5⟩ := HCE.out j hlt
      have HS := Lib.hid (HT.out j hlt)
      obtain ⟨f1, f2, ⟨f3, f4, f5⟩, f6⟩ := HF.out _ (List.getElem_mem hlt)
      have r1 := HNN.out j
      have r2 := HLE.out j
      have r3 := HNN.out (j + 1)
      have r4 := HLE.out (j + 1)
      rw [HS.out] at r3 r4
      have HGJ : Hid (∀ k (_ : k < j), 0 ≤ gapI cs[j] (cs[k]'(by omega)) ∧ validB (cs[k]'(by omega)) = true) := Lib.hid fun k hk => ⟨HG.out j k hk hlt, (HF.out _ (List.getElem_mem (by omega))).1⟩
      generalize cs[j] = c at *
      have hv2 := (small_vol f2).2
      have K1 := Lib.hid (fun w hl hm => C3.out c f6 w hl hm)
      have K2 := Lib.hid (fun w => size17_c c f1 f2 w)
      have HV := Lib.hid f1
      have t1 : decide (c.hx ≤ c.lx) = false := by simp; omega
      have t2 : decide (c.hy ≤ c.ly) = false := by simp; omega
      have t3 : decide (c.hz ≤ c.lz) = false := by simp; omega
      generalize hP : sumL volB (cs.take j) = P at *
      have HP2 := Lib.hid hP
      generalize volB c = vc at *
      have w5 : IntKind.i64.wrap (P + vc) = P + vc := IntWalk.i64_in _ (by omega)
      clear hP f1 f2 f6
      have hn60 : cs.length ≤ 1000 := hlen
      go_wp2_with fail
      go_at_call 15; refine (K1.out _ (HL.out.below (by (repeat (first | exact grow_refl _ | exact HB.out | refine grow_ext _ ?_ | refine grow_alloc _ ?_ | refine grow_drew ?_)))) (HM.out.below (by (repeat (first | exact grow_refl _ | exact HB.out | refine grow_ext _ ?_ | refine grow_alloc _ ?_ | refine grow_drew ?_))))).mono ?_; rintro e w' ⟨rfl, z1, rfl⟩
      go_wp2_with fail
      go_at_call 27; refine (K2.out _).mono ?_; rintro e w' ⟨rfl, z2, rfl⟩
      go_upto_region 17 with fail
      clear c0 c1 c2 c3 c4 c5 t1 t2 t3 w5
      refine world_mask (fun W => Below W1.heap.size W1 W ∧ BoxAt W (W1.heap.size + x.heap.size) 0 c) _ ?_ ?_
      · exact ⟨by (repeat (first | exact grow_refl _ | refine grow_ext _ ?_ | refine grow_alloc _ ?_ | refine grow_drew ?_)), by simp [BoxAt, go_sem]⟩
      clear z1 z2
      rintro W5 ⟨hB5, hbx⟩
      obtain ⟨x5, rfl⟩ := ext_of hB5
      clear hB5
      by_cases hi : 0 < j ∧ cs.length ≤ 60
      · have g1 : decide ((0 : Int) < (j : Int)) = true := by simp; omega
        have g2 : decide ((cs.length : Int) ≤ 60) = true := by simp; omega
        have g3 : (j : Int) ≤ (cap1 : Int) := by omega
        have g4 : (0 : Int) ≤ (j : Int) := by omega
        have HBX := Lib.hid hbx
        clear hbx
        go_wp2_with fail
        go_loopw [118] (fun i wr => ∃ q : Nat, q ≤ j ∧ i = .int .i64 q ∧ (∃ y, wr = ext W1 y) ∧ BoxAt wr (W1.heap.size + x.heap.size) 0 c) (fun i _ => j - (intOf i).toNat)
        case atStart => exact ⟨0, by omega, rfl, ⟨_, rfl⟩, HBX.out⟩
        case round =>
          obtain ⟨q, hq, rfl, ⟨y, rfl⟩, hby⟩ := hrel
          have HBY := Lib.hid hby
          by_cases hqj : q < j
          · obtain ⟨_, _, he, d0, d1, d2, d3, d4, d5⟩ := HCE.out q (by omega)
            cases he
            have hgap := (HGJ.out q hqj).1
            have HVA := Lib.hid (HGJ.out q hqj).2
            generalize cs[q]'(by omega) = a at *
            have s1 : decide (gapI c a < 0) = false := by simp; omega
            have i1 : (0 : Int) ≤ (q : Int) := by omega
            have i2 : (q : Int) < (j : Int) := by omega
            have HK := Lib.hid (fun w => Gap_ok c a HV.out HVA.out w)
            obtain ⟨e0, e1, e2, e3, e4, e5⟩ := hby
            clear hgap HVA
            go_wp2_with fail
            go_at_call 26; refine (HK.out _).mono ?_; rintro e w' ⟨rfl, z3, rfl⟩
            go_wp2
            go_roundw
            case rel => exact ⟨q + 1, by omega, by go_num, ext_of (by (repeat (first | exact grow_refl _ | refine grow_ext _ ?_ | refine grow_alloc _ ?_ | refine grow_drew ?_))), boxAt_below HBY.out (by (repeat (first | exact grow_refl _ | refine grow_ext _ ?_ | refine grow_alloc _ ?_ | refine grow_drew ?_)))⟩
            case measure => simp [intOf]; omega
          · obtain rfl : q = j := by omega
            clear hby
            go_wp2
            go_roundw
            case rel => exact ⟨q + 1, by omega, by go_num, by rw [HS.out], ext_of (by (repeat (first | exact grow_refl _ | refine grow_ext _ ?_ | refine grow_alloc _ ?_ | refine grow_drew ?_)))⟩
            case measure => simp [intOf]; omega
      · clear hbx
        rcases Nat.lt_or_ge 0 j with hj0 | hj0
        · have g1 : decide ((0 : Int) < (j : Int)) = true := by simp; omega
          have g2 : decide ((cs.length : Int) ≤ 60) = false := by simp; omega
          go_wp2
          go_roundw
          case rel => exact ⟨j + 1, by omega, by go_num, by rw [HS.out], ext_of (by (repeat (first | exact grow_refl _ | refine grow_ext _ ?_ | refine grow_alloc _ ?_ | refine grow_drew ?_)))⟩
          case measure => simp [intOf]; omega
        · have g1 : decide ((0 : Int) < (j : Int)) = false := by simp; omega
          go_wp2
          go_roundw
          case rel => exact ⟨j + 1, by omega, by go_num, by rw [HS.out], ext_of (by (repeat (first | exact grow_refl _ | refine grow_ext _ ?_ | refine grow_alloc _ ?_ | refine grow_drew ?_)))⟩
          case measure => simp [intOf]; omega
    · obtain rfl : j = cs.length := by omega
      rw [HALL.out]
      have qq : (V != V) = false := by simp
      cases hv : validB (ptX qx qy qz)
      · rw [hv] at C4
        simp only [Bool.false_eq_true, if_false] at C4
        clear hv
        go_wp2_with fail
        go_at_call 16; refine (C4.out _ (HL.out.below (by (repeat (first | exact grow_refl _ | exact HB.out | refine grow_ext _ ?_ | refine grow_alloc _ ?_ | refine grow_drew ?_)))) (HM.out.below (by (repeat (first | exact grow_refl _ | exact HB.out | refine grow_ext _ ?_ | refine grow_alloc _ ?_ | refine grow_drew ?_))))).mono ?_; rintro e w' ⟨rfl, z4, rfl⟩
        go_wp2
        go_ret
        exact Ret.of (by (repeat (first | exact grow_refl _ | exact HB.out | refine grow_ext _ ?_ | refine grow_alloc _ ?_ | refine grow_drew ?_)))
      · rw [hv] at C4
        simp only [if_true] at C4
        have HCO := Lib.hid (fun a (ha : validB a = true) w => Contains_c a (ptX qx qy qz) w)
        simp only [hv, Bool.and_true, and_true] at HCO
        clear hv
        generalize containsS l m (ptX qx qy qz) = ct at *
        have HPC : Hid (∀ a ∈ cs, containsB a (ptX qx qy qz) = true → ct = true) := HP
        clear HP
        go_wp2_with fail
        go_at_call 16; refine (C4.out _ (HL.out.below (by (repeat (first | exact grow_refl _ | exact HB.out | refine grow_ext _ ?_ | refine grow_alloc _ ?_ | refine grow_drew ?_)))) (HM.out.below (by (repeat (first | exact grow_refl _ | exact HB.out | refine grow_ext _ ?_ | refine grow_alloc _ ?_ | refine grow_drew ?_))))).mono ?_; rintro e w' ⟨rfl, z4, rfl⟩
        cases ct
        all_goals
          go_wp2_with fail
          go_loopw [151] (fun i wr => ∃ k : Nat, k ≤ cs.length ∧ i = .int .i64 k ∧ ∃ y, wr = ext W1 y) (fun i _ => cs.length - (intOf i).toNat)
          case atStart => exact ⟨0, by omega, rfl, ext_of (by (repeat (first | exact grow_refl _ | refine grow_ext _ ?_ | refine grow_alloc _ ?_ | refine grow_drew ?_)))⟩
          case round =>
            obtain ⟨k, hk, rfl, y, rfl⟩ := hrel
            by_cases hlt2 : k < cs.length
            · obtain ⟨_, _, he, d0, d1, d2, d3, d4, d5⟩ := HCE.out k hlt2
              cases he
              have hva := (HF.out _ (List.getElem_mem hlt2)).1
              have hpc := HPC.out _ (List.getElem_mem hlt2)
              generalize cs[k] = a at *
              have HK := Lib.hid (fun w => HCO.out a hva w)
              simp only [hva, Bool.true_and, if_true] at HK
              have i1 : (0 : Int) ≤ (k : Int) := by omega
              have i2 : (k : Int) < (cs.length : Int) := by omega
              cases hcb : containsB a (ptX qx qy qz)
              all_goals
                rw [hcb] at HK hpc
                first
                  | exact absurd (hpc rfl) Bool.false_ne_true
                  | (clear hpc hcb hva
                     go_wp2_with fail
                     go_at_call 42; refine (HK.out _).mono ?_; rintro e w' ⟨rfl, z5, rfl⟩
                     go_wp2
                     go_roundw
                     case rel => exact ⟨k + 1, by omega, by go_num, ext_of (by (repeat (first | exact grow_refl _ | refine grow_ext _ ?_ | refine grow_alloc _ ?_ | refine grow_drew ?_)))⟩
                     case measure => simp [intOf]; omega)
            · go_wp2
              go_ret
              exact Ret.of (by (repeat (first | exact grow_refl _ | exact HB.out | refine grow_ext _ ?_ | refine grow_alloc _ ?_ | refine grow_drew ?_)))

theorem lawCells_ok (l m : List Bx) (u t : Value) (qx qy qz : Int) (hr : rightB l m = true) (hmo : modestS l m = true) (hlen : (cellsL l m).length ≤ 1000) (w : World) (hl : Boxes w u l) (hm : Boxes w t m) :
    Calls Try.prog 8 #[.agg #[u, t], (.agg #[.int .i64 qx, .int .i64 qy, .int .i64 qz])] w (Ret w (.bool true)) := by
  obtain ⟨⟨n1, n2⟩, hs⟩ := right_iff.1 hr
  have hsi := solid_iff.1 hs
  have hne : l ≠ [] := by rintro rfl; simp at hsi
  have hmod : l.all modestB = true := by unfold modestS at hmo; rw [List.all_append, Bool.and_eq_true] at hmo; exact hmo.1
  have hV := modest_vol (m := m) hsi.2.2.1 hne hmod
  have C1 : Hid (∀ w, Boxes w u l → Boxes w t m → Calls Try.prog 18 #[.agg #[u, t]] w (Ret w (.tuple #[.int .i64 (volR l m).1, .int .i64 (volR l m).2]))) := Lib.hid (fun w hl hm => volume_c l m u t w hl hm)
  rw [show volR l m = (volI l m, 0) by unfold volR; rw [if_pos hs, if_pos (by omega)]] at C1
  have C2 : Hid (∀ w, Boxes w u l → Boxes w t m → Calls Try.prog 36 #[.agg #[u, t]] w (RetBoxes w (cellsR l m).1 (cellsR l m).2)) := Lib.hid (fun w hl hm => solidCells_c l m u t w hl hm)
  rw [show cellsR l m = (cellsL l m, 0) by unfold cellsR; rw [if_pos hs, if_pos hlen]] at C2
  have C4 : Hid (∀ w, Boxes w u l → Boxes w t m → Calls Try.prog 16 #[.agg #[u, t], (.agg #[.int .i64 qx, .int .i64 qy, .int .i64 qz])] w (Ret w (.tuple #[.bool (if validB (ptX qx qy qz) = true then containsS l m (ptX qx qy qz) else false), .int .i64 (if validB (ptX qx qy qz) = true then 0 else 2)]))) := Lib.hid fun w hl hm => by
    have := solidInside_c l m u t qx qy qz w hl hm
    rw [show insideR l m qx qy qz = (if validB (ptX qx qy qz) = true then containsS l m (ptX qx qy qz) else false, if validB (ptX qx qy qz) = true then 0 else 2) by unfold insideR; rw [if_pos hs]; split <;> rfl] at this
    exact this
  exact lawCells_w l m u t qx qy qz (cellsL l m) (volI l m) hlen ⟨sumL_nonneg (f := volB) (l := cellsL l m) fun c hc => vol_nonneg (by have := (cells_mem hc).1; omega), by omega⟩ C1 C2
    (Lib.hid fun c h w hl hm => solidContains_v l m u t c (true, 0) h w hl hm)
    (Lib.hid fun c hc => cells_facts hs hmo hc) (Lib.hid fun i k hk hi => cells_gap l m hk hi)
    (Lib.hid fun c hc h => sel_point (by have := (cells_mem hc).1; omega) (cells_mem hc).2 h)
    (Lib.hid fun i => sumL_take_le (fun c hc => vol_nonneg (by have := (cells_mem hc).1; omega)) i)
    (Lib.hid fun i => sumL_nonneg fun c hc => vol_nonneg (by have := (cells_mem (List.mem_of_mem_take hc)).1; omega))
    (Lib.hid fun i h => sumL_take _ _ i h) (by rw [List.take_length]; exact Lib.hid rfl) C4 (Lib.hid hr) (Lib.hid hmo) n1 n2 w hl hm

end Go.Proofs.Ytafkibnkpcmmgaa
