/- The walk of solid.each: each part of a solid is handed to the function value. -/
import Derived.Test.YtafkibnkpcmmgaaSolK2
import Derived.Test.YtafkibnkpcmmgaaPlainK0
import Derived.IntWalk
namespace Go.Proofs.Ytafkibnkpcmmgaa
open Go.RowKit
set_option maxRecDepth 20000

theorem cuts_len {l m : List Bx} (h : l.all thickB = true) (h0 : l ≠ []) (hl : l.length ≤ 20) (hm : m.length ≤ 20) (k : Int) : 1 ≤ (cutsB (l ++ m) (hullX l) k).length ∧ (cutsB (l ++ m) (hullX l) k).length ≤ 82 := by
  have h1 := cutsB_length (l ++ m) (hullX l) k
  rw [List.length_append] at h1
  have h2 := (cutsOf (all := l ++ m) k (Int.le_of_lt (thick_axis (hull_thick h h0) k))).ne
  have := List.length_pos_iff.2 h2
  omega
theorem own_get {W : World} {B : Nat} {C : List Int} {v : Value} (h : W.ownsRow B 3 1 v C.length (C.map (Value.int .i64))) (h0 : 1 ≤ C.length) : ∃ g cap, v = .slice (some ⟨g, 0, none⟩) C.length cap ∧ C.length ≤ cap ∧ cap ≤ 9223372036854775807 := by
  obtain ⟨a, cap, rfl, h1, h2, h3⟩ := own_shape h
  obtain ⟨g, rfl, _, _⟩ := h3 (by omega)
  exact ⟨g, cap, rfl, h1, h2⟩

set_option maxRecDepth 100000 in
set_option maxHeartbeats 16000000 in
theorem each_c (l m : List Bx) (u t yv : Value) (w : World) (n₀ g : Nat) (hn₀ : n₀ ≤ w.heap.size) (hg : g < w.heap.size) (hbl : ∀ W', Below n₀ w W' → Boxes W' u l) (hbm : ∀ W', Below n₀ w W' → Boxes W' t m) (hs : solidB l m = true)
    (J : Nat → List Bx → World → Prop) (Jx : World → Prop) (hJ : ∀ M pre W W', J M pre W → Below W.heap.size W W' → J M pre W') (hJx : ∀ W W', Jx W → Below W.heap.size W W' → Jx W')
    (hY : ∀ M pre x W, pre ++ [x] <+: cellsL l m → Below n₀ w W → g < W.heap.size → w.heap.size ≤ M → J M pre W → YCall yv #[(.agg #[.int .i64 x.lx, .int .i64 x.ly, .int .i64 x.lz, .int .i64 x.hx, .int .i64 x.hy, .int .i64 x.hz])] W (fun e W' => (e = .returned (.bool true) ∧ J M (pre ++ [x]) W' ∧ Keeps n₀ g M W W') ∨ (e = .returned (.bool false) ∧ Jx W')))
    (h0 : ∀ W, Below w.heap.size w W → J W.heap.size [] W) :
    Calls Try.prog 51 #[.agg #[u, t], yv] w (fun e W' => e = .returned (.tuple #[]) ∧ ((∃ M, J M (cellsL l m) W') ∨ Jx W')) := by
  obtain ⟨ua, uc, rfl, _, _, _⟩ := (hbl w (Below.refl _ _)).shape
  obtain ⟨ta, tc, rfl, _, _, _⟩ := (hbm w (Below.refl _ _)).shape
  have hsi := solid_iff.1 hs
  have hne : l ≠ [] := by rintro rfl; simp at hsi
  have hth := hsi.2.2.1
  have cl0 := cuts_len hth hne hsi.1.2 hsi.2.1 0
  have cl1 := cuts_len hth hne hsi.1.2 hsi.2.1 1
  have cl2 := cuts_len hth hne hsi.1.2 hsi.2.1 2
  have HH := Lib.hid (fun w hl => Hull_c l (.slice ua l.length uc) w hl)
  rw [hullR_ok hs] at HH
  dsimp only at HH
  have hl1 : l.length ≤ 100 := by omega
  have hm1 : m.length ≤ 100 := by omega
  have RX := Lib.hid (fun w hl hm => solidCuts_c 79 enters_each1 0 (fun b w => each1_c b.lx b.ly b.lz w) (fun b w => each1_c b.hx b.hy b.hz w) l m (.slice ua l.length uc) (.slice ta m.length tc) (hullX l) w hl hm hl1 hm1)
  have RY := Lib.hid (fun w hl hm => solidCuts_c 80 enters_each2 1 (fun b w => each2_c b.lx b.ly b.lz w) (fun b w => each2_c b.hx b.hy b.hz w) l m (.slice ua l.length uc) (.slice ta m.length tc) (hullX l) w hl hm hl1 hm1)
  have RZ := Lib.hid (fun w hl hm => solidCuts_c 81 enters_each3 2 (fun b w => each3_c b.lx b.ly b.lz w) (fun b w => each3_c b.hx b.hy b.hz w) l m (.slice ua l.length uc) (.slice ta m.length tc) (hullX l) w hl hm hl1 hm1)
  rw [cuts_same hth hne] at RX RY RZ
  have HAV := Lib.hid (List.all_eq_true.1 (all_valid hth))
  have HCV : Hid (∀ c ∈ rowA (pairsL (cutsB (l ++ m) (hullX l) 0)) (pairsL (cutsB (l ++ m) (hullX l) 1)) (pairsL (cutsB (l ++ m) (hullX l) 2)), validB c = true) := by
    intro c hc
    obtain ⟨p, hp, q, hq, r, hr, rfl⟩ := mem_rowA.1 hc
    have s0 := (cutsOf0 l m hth hne).span hp
    have s1 := (cutsOf1 l m hth hne).span hq
    have s2 := (cutsOf2 l m hth hne).span hr
    have h1 := valid_iff.1 (thick_iff.1 (hull_thick hth hne)).1
    rw [valid_iff]
    simp only [cellX]; omega
  have HCE := Lib.hid (show cellsL l m = (rowA (pairsL (cutsB (l ++ m) (hullX l) 0)) (pairsL (cutsB (l ++ m) (hullX l) 1)) (pairsL (cutsB (l ++ m) (hullX l) 2))).filter (selB l m) from rfl)
  generalize hcells : cellsL l m = cells at *
  clear hcells
  generalize cutsB (l ++ m) (hullX l) 0 = X at *
  generalize cutsB (l ++ m) (hullX l) 1 = Y at *
  generalize cutsB (l ++ m) (hullX l) 2 = Z at *
  generalize hullX l = H at *
  have lx := pairsL_len X
  have ly := pairsL_len Y
  have lz := pairsL_len Z
  have HBL := Lib.hid hbl
  have HBM := Lib.hid hbm
  have KJ := Lib.hid hJ
  have KJx := Lib.hid hJx
  have KY := Lib.hid hY
  have J0 := Lib.hid h0
  have HL := Lib.hid (hbl w (Below.refl _ _))
  have HM := Lib.hid (hbm w (Below.refl _ _))
  have LX := Lib.hid lx
  have LY := Lib.hid ly
  have LZ := Lib.hid lz
  clear hbl hbm hJ hJx hY h0 hs hsi hth hne lx ly lz
  go_enter Try.func51, Try.ntmps51
  go_wp2_with fail
  go_at_call 52; refine (HH.out _ (HL.out.below (by (repeat (first | exact grow_refl _ | refine grow_ext _ ?_ | refine grow_alloc _ ?_ | refine grow_drew ?_))))).mono ?_; rintro e w' ⟨rfl, x1, rfl⟩
  go_wp2_with fail
  go_at_call 78; refine Calls.mono (RX.out _ (HL.out.below (by (repeat (first | exact grow_refl _ | refine grow_ext _ ?_ | refine grow_alloc _ ?_ | refine grow_drew ?_)))) (HM.out.below (by (repeat (first | exact grow_refl _ | refine grow_ext _ ?_ | refine grow_alloc _ ?_ | refine grow_drew ?_))))) ?_; rintro e w' ⟨v6, rfl, hown6, x6, rfl⟩
  have O6 := Lib.hid hown6
  clear hown6
  go_wp2_with fail
  go_at_call 78; refine Calls.mono (RY.out _ (HL.out.below (by (repeat (first | exact grow_refl _ | refine grow_ext _ ?_ | refine grow_alloc _ ?_ | refine grow_drew ?_)))) (HM.out.below (by (repeat (first | exact grow_refl _ | refine grow_ext _ ?_ | refine grow_alloc _ ?_ | refine grow_drew ?_))))) ?_; rintro e w' ⟨v7, rfl, hown7, x7, rfl⟩
  have O7 := Lib.hid hown7
  clear hown7
  go_wp2_with fail
  go_at_call 78; refine Calls.mono (RZ.out _ (HL.out.below (by (repeat (first | exact grow_refl _ | refine grow_ext _ ?_ | refine grow_alloc _ ?_ | refine grow_drew ?_)))) (HM.out.below (by (repeat (first | exact grow_refl _ | refine grow_ext _ ?_ | refine grow_alloc _ ?_ | refine grow_drew ?_))))) ?_; rintro e w' ⟨v8, rfl, hown8, x8, rfl⟩
  have O8 := Lib.hid hown8
  clear hown8
  go_wp2_with fail
  refine world_mask (fun W => EachAt W w.heap.size g n₀ W.heap.size (.slice ua l.length uc) (.slice ta m.length tc) v6 v7 v8 l m X Y Z ∧ Below n₀ w W ∧ g < W.heap.size ∧ w.heap.size ≤ W.heap.size ∧ J W.heap.size [] W) _ ?_ ?_
  · refine ⟨⟨?_, ?_, fun b e => ((own_below2 O6.out (by (repeat (first | exact grow_refl _ | refine grow_ext _ ?_ | refine grow_alloc _ ?_ | refine grow_drew ?_)))).lt b e).2, fun b e => ((own_below2 O7.out (by (repeat (first | exact grow_refl _ | refine grow_ext _ ?_ | refine grow_alloc _ ?_ | refine grow_drew ?_)))).lt b e).2, fun b e => ((own_below2 O8.out (by (repeat (first | exact grow_refl _ | refine grow_ext _ ?_ | refine grow_alloc _ ?_ | refine grow_drew ?_)))).lt b e).2, HL.out.below (by (repeat (first | exact grow_refl _ | refine grow_ext _ ?_ | refine grow_alloc _ ?_ | refine grow_drew ?_))), HM.out.below (by (repeat (first | exact grow_refl _ | refine grow_ext _ ?_ | refine grow_alloc _ ?_ | refine grow_drew ?_))), by simp [go_sem], by simp [go_sem], own_mono (own_below2 O6.out (by (repeat (first | exact grow_refl _ | refine grow_ext _ ?_ | refine grow_alloc _ ?_ | refine grow_drew ?_)))) (by simp [size_ext] <;> omega), own_mono (own_below2 O7.out (by (repeat (first | exact grow_refl _ | refine grow_ext _ ?_ | refine grow_alloc _ ?_ | refine grow_drew ?_)))) (by simp [size_ext] <;> omega), own_mono (own_below2 O8.out (by (repeat (first | exact grow_refl _ | refine grow_ext _ ?_ | refine grow_alloc _ ?_ | refine grow_drew ?_)))) (by simp [size_ext] <;> omega)⟩, ?_, ?_, ?_, J0.out _ (by (repeat (first | exact grow_refl _ | refine grow_ext _ ?_ | refine grow_alloc _ ?_ | refine grow_drew ?_)))⟩
    · simp only [World.size_alloc, size_ext]; omega
    · simp only [World.size_alloc, size_ext]; omega
    · refine Below.mono ?_ hn₀; (repeat (first | exact grow_refl _ | refine grow_ext _ ?_ | refine grow_alloc _ ?_ | refine grow_drew ?_))
    · simp only [World.size_alloc, size_ext]; omega
    · simp only [World.size_alloc, size_ext]; omega
  clear O6 O7 O8 HH RX RY RZ HL HM J0
  rintro W1 ⟨hE, hB, hgl, hwm, hj⟩
  obtain ⟨M, hM⟩ : ∃ M, M = W1.heap.size := ⟨_, rfl⟩
  rw [← hM] at hE hj hwm
  clear hM
  obtain ⟨gx, cx, rfl, hx1, hx2⟩ := own_get hE.ox cl0.1
  obtain ⟨gy, cy, rfl, hy1, hy2⟩ := own_get hE.oy cl1.1
  obtain ⟨gz, cz, rfl, hz1, hz2⟩ := own_get hE.oz cl2.1
  have E1 := Lib.hid hE
  have HJ1 := Lib.hid hj
  have HB1 := Lib.hid hB
  clear hE hB hj
  go_loopw [9] (fun i wr => ∃ q : Nat, 1 ≤ q ∧ q ≤ X.length ∧ i = .int .i64 q ∧ EachAt wr w.heap.size g n₀ M (.slice ua l.length uc) (.slice ta m.length tc) (.slice (some ⟨gx, 0, none⟩) X.length cx) (.slice (some ⟨gy, 0, none⟩) Y.length cy) (.slice (some ⟨gz, 0, none⟩) Z.length cz) l m X Y Z ∧ Below n₀ w wr ∧ g < wr.heap.size ∧ J M (doneS l m (pairsL X) (pairsL Y) (pairsL Z) (0, 0) (0, 0) (q - 1) 0 0) wr) (fun i _ => X.length + 1 - (intOf i).toNat)
  case atStart => exact ⟨1, Nat.le_refl _, cl0.1, rfl, E1.out, HB1.out, hgl, by rw [show 1 - 1 = 0 from rfl, done_zero]; exact HJ1.out⟩
  case round =>
    obtain ⟨q, hq1, hqX, rfl, hE, hB, hgl, hj⟩ := hrel
    have EQ := Lib.hid hE
    have HJQ := Lib.hid hj
    have HBQ := Lib.hid hB
    clear hE hB hj E1 HJ1 HB1
    by_cases hq : q < X.length
    · obtain ⟨a0, ha0⟩ : ∃ a0, a0 = X[q - 1]'(by omega) := ⟨_, rfl⟩
      obtain ⟨a1, ha1⟩ : ∃ a1, a1 = X[q] := ⟨_, rfl⟩
      have HP0 : Hid (∃ h : q - 1 < (pairsL X).length, (pairsL X)[q - 1] = (a0, a1)) := by
        obtain ⟨h, e⟩ := pairs_at X (q - 1) (by omega)
        refine ⟨h, ?_⟩
        rw [e, ha0, ha1]
        simp only [show q - 1 + 1 = q by omega]
      have A0 := Lib.hid ha0
      have A1 := Lib.hid ha1
      clear ha0 ha1
      go_wp2_with fail
      go_loopw [10] (fun i wr => ∃ r : Nat, 1 ≤ r ∧ r ≤ Y.length ∧ i = .int .i64 r ∧ EachAt wr w.heap.size g n₀ M (.slice ua l.length uc) (.slice ta m.length tc) (.slice (some ⟨gx, 0, none⟩) X.length cx) (.slice (some ⟨gy, 0, none⟩) Y.length cy) (.slice (some ⟨gz, 0, none⟩) Z.length cz) l m X Y Z ∧ Below n₀ w wr ∧ g < wr.heap.size ∧ J M (doneS l m (pairsL X) (pairsL Y) (pairsL Z) (a0, a1) (0, 0) (q - 1) (r - 1) 0) wr) (fun i _ => Y.length + 1 - (intOf i).toNat)
      case atStart => exact ⟨1, Nat.le_refl _, cl1.1, rfl, EQ.out.grown (by (repeat (first | exact grow_refl _ | refine grow_ext _ ?_ | refine grow_alloc _ ?_ | refine grow_drew ?_))), HBQ.out.trans (Below.mono (show Below _ _ _ by (repeat (first | exact grow_refl _ | refine grow_ext _ ?_ | refine grow_alloc _ ?_ | refine grow_drew ?_))) EQ.out.b0), by first | exact hgl | (simp [size_ext]; omega), by rw [show 1 - 1 = 0 from rfl, done_any (0, 0) (0, 0)]; exact KJ.out _ _ _ _ HJQ.out (by (repeat (first | exact grow_refl _ | refine grow_ext _ ?_ | refine grow_alloc _ ?_ | refine grow_drew ?_)))⟩
      case round =>
        obtain ⟨r, hr1, hrY, rfl, hE, hB, hgl, hj⟩ := hrel
        have ER := Lib.hid hE
        have HJR := Lib.hid hj
        have HBR := Lib.hid hB
        clear hE hB hj EQ HJQ HBQ
        by_cases hr : r < Y.length
        · obtain ⟨b0, hb0⟩ : ∃ b0, b0 = Y[r - 1]'(by omega) := ⟨_, rfl⟩
          obtain ⟨b1, hb1⟩ : ∃ b1, b1 = Y[r] := ⟨_, rfl⟩
          have HP1 : Hid (∃ h : r - 1 < (pairsL Y).length, (pairsL Y)[r - 1] = (b0, b1)) := by
            obtain ⟨h, e⟩ := pairs_at Y (r - 1) (by omega)
            refine ⟨h, ?_⟩
            rw [e, hb0, hb1]
            simp only [show r - 1 + 1 = r by omega]
          have B0 := Lib.hid hb0
          have B1 := Lib.hid hb1
          clear hb0 hb1
          go_wp2_with fail
          go_loopw [11] (fun i wr => ∃ s : Nat, 1 ≤ s ∧ s ≤ Z.length ∧ i = .int .i64 s ∧ EachAt wr w.heap.size g n₀ M (.slice ua l.length uc) (.slice ta m.length tc) (.slice (some ⟨gx, 0, none⟩) X.length cx) (.slice (some ⟨gy, 0, none⟩) Y.length cy) (.slice (some ⟨gz, 0, none⟩) Z.length cz) l m X Y Z ∧ Below n₀ w wr ∧ g < wr.heap.size ∧ J M (doneS l m (pairsL X) (pairsL Y) (pairsL Z) (a0, a1) (b0, b1) (q - 1) (r - 1) (s - 1)) wr) (fun i _ => Z.length + 1 - (intOf i).toNat)
          case atStart => exact ⟨1, Nat.le_refl _, cl2.1, rfl, ER.out.grown (by (repeat (first | exact grow_refl _ | refine grow_ext _ ?_ | refine grow_alloc _ ?_ | refine grow_drew ?_))), HBR.out.trans (Below.mono (show Below _ _ _ by (repeat (first | exact grow_refl _ | refine grow_ext _ ?_ | refine grow_alloc _ ?_ | refine grow_drew ?_))) ER.out.b0), by first | exact hgl | (simp [size_ext]; omega), by rw [show 1 - 1 = 0 from rfl, done_any2 (q := (b0, b1)) (0, 0)]; exact KJ.out _ _ _ _ HJR.out (by (repeat (first | exact grow_refl _ | refine grow_ext _ ?_ | refine grow_alloc _ ?_ | refine grow_drew ?_)))⟩
          case round =>
            obtain ⟨s, hs1, hsZ, rfl, hE, hB, hgl, hj⟩ := hrel
            have ES := Lib.hid hE
            have HJS := Lib.hid hj
            have HBS := Lib.hid hB
            clear hE hB hj ER HJR HBR
            by_cases hs : s < Z.length
            · have kx1 := own_at ES.out.ox (q - 1) (by omega)
              have kx2 := own_at ES.out.ox q hq
              have ky1 := own_at ES.out.oy (r - 1) (by omega)
              have ky2 := own_at ES.out.oy r hr
              have kz1 := own_at ES.out.oz (s - 1) (by omega)
              have kz2 := own_at ES.out.oz s hs
              rw [← A0.out] at kx1
              rw [← A1.out] at kx2
              rw [← B0.out] at ky1
              rw [← B1.out] at ky2
              obtain ⟨c0, hc0⟩ : ∃ c0, c0 = Z[s - 1]'(by omega) := ⟨_, rfl⟩
              obtain ⟨c1, hc1⟩ : ∃ c1, c1 = Z[s] := ⟨_, rfl⟩
              rw [← hc0] at kz1
              rw [← hc1] at kz2
              have HP2 : Hid (∃ h : s - 1 < (pairsL Z).length, (pairsL Z)[s - 1] = (c0, c1)) := by
                obtain ⟨h, e⟩ := pairs_at Z (s - 1) (by omega)
                refine ⟨h, ?_⟩
                rw [e, hc0, hc1]
                simp only [show s - 1 + 1 = s by omega]
              clear hc0 hc1
              obtain ⟨c, hc⟩ : ∃ c : Bx, c = ⟨a0, b0, c0, a1, b1, c1⟩ := ⟨_, rfl⟩
              have HCC : Hid (cellX (a0, a1) (b0, b1) (c0, c1) = c) := by rw [hc]; rfl
              have HVC : Hid (validB c = true) := by
                obtain ⟨h0, e0⟩ := HP0.out
                obtain ⟨h1, e1⟩ := HP1.out
                obtain ⟨h2, e2⟩ := HP2.out
                refine HCV.out c (mem_rowA.2 ⟨_, List.getElem_mem h0, _, List.getElem_mem h1, _, List.getElem_mem h2, ?_⟩)
                rw [e0, e1, e2, HCC.out]
              have HSK : Hid (selB l m c = false → doneS l m (pairsL X) (pairsL Y) (pairsL Z) (a0, a1) (b0, b1) (q - 1) (r - 1) (s + 1 - 1) = doneS l m (pairsL X) (pairsL Y) (pairsL Z) (a0, a1) (b0, b1) (q - 1) (r - 1) (s - 1)) := by
                intro hsel
                obtain ⟨h2, e2⟩ := HP2.out
                have := done_skip (l := l) (m := m) (P0 := pairsL X) (P1 := pairsL Y) (p := (a0, a1)) (q := (b0, b1)) (a := q - 1) (b := r - 1) h2 (by rw [e2, HCC.out]; exact hsel)
                rw [show s + 1 - 1 = s - 1 + 1 by omega]; exact this
              have HSL : Hid (selB l m c = true → doneS l m (pairsL X) (pairsL Y) (pairsL Z) (a0, a1) (b0, b1) (q - 1) (r - 1) (s + 1 - 1) = doneS l m (pairsL X) (pairsL Y) (pairsL Z) (a0, a1) (b0, b1) (q - 1) (r - 1) (s - 1) ++ [c] ∧ doneS l m (pairsL X) (pairsL Y) (pairsL Z) (a0, a1) (b0, b1) (q - 1) (r - 1) (s - 1) ++ [c] <+: cells) := by
                intro hsel
                obtain ⟨h0, e0⟩ := HP0.out
                obtain ⟨h1, e1⟩ := HP1.out
                obtain ⟨h2, e2⟩ := HP2.out
                have t1 := done_sel (l := l) (m := m) (P0 := pairsL X) (P1 := pairsL Y) (p := (a0, a1)) (q := (b0, b1)) (a := q - 1) (b := r - 1) h2 (by rw [e2, HCC.out]; exact hsel)
                have t2 := done_prefix (l := l) (m := m) (p := (a0, a1)) (q := (b0, b1)) h0 e0.symm h1 e1.symm h2 (by rw [e2, HCC.out]; exact hsel)
                rw [e2, HCC.out] at t1 t2
                rw [HCE.out, show s + 1 - 1 = s - 1 + 1 by omega]
                exact ⟨t1, t2⟩
              generalize doneS l m (pairsL X) (pairsL Y) (pairsL Z) (a0, a1) (b0, b1) (q - 1) (r - 1) (s - 1) = pre at HJS HSK HSL
              subst hc
              go_upto_region 15 with fail
              go_cut [12] (fun v wx => v = .pointer (some ⟨wr.heap.size, 0, none⟩) ∧ wx = (wr.alloc (.cells #[.int .i64 a0, .int .i64 b0, .int .i64 c0, .int .i64 a1, .int .i64 b1, .int .i64 c1] 28)).drew)
              case first =>
                have q1 : IntKind.i64.wrap ((q : Int) - 1) = (q : Int) - 1 := IntWalk.i64_in _ (by omega)
                have q2 : (0 : Int) ≤ (q : Int) - 1 := by omega
                have q3 : (q : Int) - 1 < (X.length : Int) := by omega
                have q4 : ((q : Int) - 1).toNat = q - 1 := by omega
                have q5 : (0 : Int) ≤ (q : Int) := by omega
                have q6 : (q : Int) < (X.length : Int) := by omega
                have q7 : (1 : Int) ≤ (q : Int) := by omega
                have r1 : IntKind.i64.wrap ((r : Int) - 1) = (r : Int) - 1 := IntWalk.i64_in _ (by omega)
                have r2 : (0 : Int) ≤ (r : Int) - 1 := by omega
                have r3 : (r : Int) - 1 < (Y.length : Int) := by omega
                have r4 : ((r : Int) - 1).toNat = r - 1 := by omega
                have r5 : (0 : Int) ≤ (r : Int) := by omega
                have r6 : (r : Int) < (Y.length : Int) := by omega
                have r7 : (1 : Int) ≤ (r : Int) := by omega
                have s1 : IntKind.i64.wrap ((s : Int) - 1) = (s : Int) - 1 := IntWalk.i64_in _ (by omega)
                have s2 : (0 : Int) ≤ (s : Int) - 1 := by omega
                have s3 : (s : Int) - 1 < (Z.length : Int) := by omega
                have s4 : ((s : Int) - 1).toNat = s - 1 := by omega
                have s5 : (0 : Int) ≤ (s : Int) := by omega
                have s6 : (s : Int) < (Z.length : Int) := by omega
                have s7 : (1 : Int) ≤ (s : Int) := by omega
                go_region
                go_wp2
                go_meet
                exact ⟨rfl, rfl⟩
              case rest =>
                obtain ⟨rfl, rfl⟩ := hcut
                clear kx1 kx2 ky1 ky2 kz1 kz2
                have ksu := ES.out.su
                have kst := ES.out.st
                cases hin : l.any fun a => containsB a ⟨a0, b0, c0, a1, b1, c1⟩
                · have HN := Lib.hid (HSK.out (by unfold selB; rw [hin]; rfl))
                  have HIN := Lib.hid hin
                  clear hin
                  go_wp2_with fail
                  go_at_call 45
                  refine Calls.mono (containsFunc_c 82 enters_each4 #[.pointer (some ⟨wr.heap.size, 0, none⟩)] (fun a => containsB a ⟨a0, b0, c0, a1, b1, c1⟩) l _ _ (ES.out.boxes.below (by (repeat (first | exact grow_refl _ | refine grow_ext _ ?_ | refine grow_alloc _ ?_ | refine grow_drew ?_)))) (fun a y ha => each4_c a ⟨a0, b0, c0, a1, b1, c1⟩ wr.heap.size (HAV.out a ha) HVC.out _ (by simp [BoxAt, go_sem]))) ?_
                  rintro e w' ⟨rfl, x2, rfl⟩
                  rw [HIN.out]
                  go_wp2
                  go_roundw
                  case rel => exact ⟨s + 1, by omega, by omega, by go_num, ES.out.grown (by (repeat (first | exact grow_refl _ | refine grow_ext _ ?_ | refine grow_alloc _ ?_ | refine grow_drew ?_))), HBS.out.trans (Below.mono (show Below _ _ _ by (repeat (first | exact grow_refl _ | refine grow_ext _ ?_ | refine grow_alloc _ ?_ | refine grow_drew ?_))) ES.out.b0), by first | exact hgl | (simp [size_ext]; omega), by rw [HN.out]; exact KJ.out _ _ _ _ HJS.out (by (repeat (first | exact grow_refl _ | refine grow_ext _ ?_ | refine grow_alloc _ ?_ | refine grow_drew ?_)))⟩
                  case measure => simp [intOf]; omega
                · cases hop : m.any fun h => opensB h ⟨a0, b0, c0, a1, b1, c1⟩
                  · obtain ⟨hn1, hn2⟩ := HSL.out (by unfold selB; rw [hin, hop]; rfl)
                    have HN := Lib.hid hn1
                    have HPX := Lib.hid hn2
                    have HIN := Lib.hid hin
                    have HOP := Lib.hid hop
                    clear hin hop hn1 hn2
                    go_wp2_with fail
                    go_at_call 45
                    refine Calls.mono (containsFunc_c 82 enters_each4 #[.pointer (some ⟨wr.heap.size, 0, none⟩)] (fun a => containsB a ⟨a0, b0, c0, a1, b1, c1⟩) l _ _ (ES.out.boxes.below (by (repeat (first | exact grow_refl _ | refine grow_ext _ ?_ | refine grow_alloc _ ?_ | refine grow_drew ?_)))) (fun a y ha => each4_c a ⟨a0, b0, c0, a1, b1, c1⟩ wr.heap.size (HAV.out a ha) HVC.out _ (by simp [BoxAt, go_sem]))) ?_
                    rintro e w' ⟨rfl, x2, rfl⟩
                    rw [HIN.out]
                    go_wp2_with fail
                    go_at_call 45
                    refine Calls.mono (containsFunc_c 83 enters_each5 #[.pointer (some ⟨wr.heap.size, 0, none⟩)] (fun h => opensB h ⟨a0, b0, c0, a1, b1, c1⟩) m _ _ (ES.out.holes.below (by (repeat (first | exact grow_refl _ | refine grow_ext _ ?_ | refine grow_alloc _ ?_ | refine grow_drew ?_)))) (fun h y _ => each5_c h ⟨a0, b0, c0, a1, b1, c1⟩ wr.heap.size _ (by simp [BoxAt, go_sem]))) ?_
                    rintro e w' ⟨rfl, x3, rfl⟩
                    rw [HOP.out]
                    go_upto_region 18 with fail
                    refine world_mask (fun W => EachAt W w.heap.size g n₀ M (.slice ua l.length uc) (.slice ta m.length tc) (.slice (some ⟨gx, 0, none⟩) X.length cx) (.slice (some ⟨gy, 0, none⟩) Y.length cy) (.slice (some ⟨gz, 0, none⟩) Z.length cz) l m X Y Z ∧ Below n₀ w W ∧ g < W.heap.size ∧ J M pre W ∧ BoxAt W wr.heap.size 0 ⟨a0, b0, c0, a1, b1, c1⟩) _ ?_ ?_
                    · exact ⟨ES.out.grown (by (repeat (first | exact grow_refl _ | refine grow_ext _ ?_ | refine grow_alloc _ ?_ | refine grow_drew ?_))), HBS.out.trans (Below.mono (show Below _ _ _ by (repeat (first | exact grow_refl _ | refine grow_ext _ ?_ | refine grow_alloc _ ?_ | refine grow_drew ?_))) ES.out.b0), by first | exact hgl | (simp [size_ext]; omega), KJ.out _ _ _ _ HJS.out (by (repeat (first | exact grow_refl _ | refine grow_ext _ ?_ | refine grow_alloc _ ?_ | refine grow_drew ?_))), by simp [BoxAt, go_sem]⟩
                    rintro W3 ⟨hE3, hB3, hg3, hj3, ⟨d0, d1, d2, d3, d4, d5⟩⟩
                    simp only [Nat.zero_add] at d0 d1 d2 d3 d4 d5
                    have HY := Lib.hid (KY.out M pre ⟨a0, b0, c0, a1, b1, c1⟩ W3 HPX.out hB3 hg3 hwm hj3)
                    have E3 := Lib.hid hE3
                    have HB3 := Lib.hid hB3
                    clear hE3 hB3 hj3
                    rcases HY.out with ⟨ll, mm, rfl, fn, tmps, assign, body, hy, hR⟩ | ⟨gf, caps, rfl, hEg, hC⟩
                    · dsimp only at hy
                      have HR := Lib.hid hR
                      clear hR HY
                      refine (wpIn_wide (n := 1)).1 ?_
                      gi_wp2
                      refine (roundIn_any HR.out).mono ?_
                      rintro e W4 (⟨rfl, hj4, hk⟩ | ⟨rfl, hjx⟩)
                      · gi_wp2
                        go_wp2
                        go_roundw
                        case rel => exact ⟨s + 1, by omega, by omega, by go_num, E3.out.kept hg (HBL.out _ (HB3.out.trans hk.below)) (HBM.out _ (HB3.out.trans hk.below)) hk, HB3.out.trans hk.below, Nat.lt_of_lt_of_le hg3 hk.size, by rw [HN.out]; exact hj4⟩
                        case measure => simp [intOf]; omega
                      · gi_wp2
                        go_wp2
                        refine bodyPost_ret (results_none rfl _ _ _) rfl ?_
                        exact ⟨rfl, .inr hjx⟩
                    · have HR := Lib.hid hC
                      have HEG := Lib.hid hEg
                      clear hC HY hEg
                      go_wp2_with fail
                      rw [show ∀ (a : Array Value) (w : World), (callFunc gf a).run Try.prog w = .ok (.enter gf a) w from HEG.out, Oper.upon_enter]
                      refine HR.out.mono ?_
                      rintro e W4 (⟨rfl, hj4, hk⟩ | ⟨rfl, hjx⟩)
                      · go_wp2
                        go_roundw
                        case rel => exact ⟨s + 1, by omega, by omega, by go_num, E3.out.kept hg (HBL.out _ (HB3.out.trans hk.below)) (HBM.out _ (HB3.out.trans hk.below)) hk, HB3.out.trans hk.below, Nat.lt_of_lt_of_le hg3 hk.size, by rw [HN.out]; exact hj4⟩
                        case measure => simp [intOf]; omega
                      · go_wp2
                        refine bodyPost_ret (results_none rfl _ _ _) rfl ?_
                        exact ⟨rfl, .inr hjx⟩
                  · have HN := Lib.hid (HSK.out (by unfold selB; rw [hin, hop]; rfl))
                    have HIN := Lib.hid hin
                    have HOP := Lib.hid hop
                    clear hin hop
                    go_wp2_with fail
                    go_at_call 45
                    refine Calls.mono (containsFunc_c 82 enters_each4 #[.pointer (some ⟨wr.heap.size, 0, none⟩)] (fun a => containsB a ⟨a0, b0, c0, a1, b1, c1⟩) l _ _ (ES.out.boxes.below (by (repeat (first | exact grow_refl _ | refine grow_ext _ ?_ | refine grow_alloc _ ?_ | refine grow_drew ?_)))) (fun a y ha => each4_c a ⟨a0, b0, c0, a1, b1, c1⟩ wr.heap.size (HAV.out a ha) HVC.out _ (by simp [BoxAt, go_sem]))) ?_
                    rintro e w' ⟨rfl, x2, rfl⟩
                    rw [HIN.out]
                    go_wp2_with fail
                    go_at_call 45
                    refine Calls.mono (containsFunc_c 83 enters_each5 #[.pointer (some ⟨wr.heap.size, 0, none⟩)] (fun h => opensB h ⟨a0, b0, c0, a1, b1, c1⟩) m _ _ (ES.out.holes.below (by (repeat (first | exact grow_refl _ | refine grow_ext _ ?_ | refine grow_alloc _ ?_ | refine grow_drew ?_)))) (fun h y _ => each5_c h ⟨a0, b0, c0, a1, b1, c1⟩ wr.heap.size _ (by simp [BoxAt, go_sem]))) ?_
                    rintro e w' ⟨rfl, x3, rfl⟩
                    rw [HOP.out]
                    go_wp2
                    go_roundw
                    case rel => exact ⟨s + 1, by omega, by omega, by go_num, ES.out.grown (by (repeat (first | exact grow_refl _ | refine grow_ext _ ?_ | refine grow_alloc _ ?_ | refine grow_drew ?_))), HBS.out.trans (Below.mono (show Below _ _ _ by (repeat (first | exact grow_refl _ | refine grow_ext _ ?_ | refine grow_alloc _ ?_ | refine grow_drew ?_))) ES.out.b0), by first | exact hgl | (simp [size_ext]; omega), by rw [HN.out]; exact KJ.out _ _ _ _ HJS.out (by (repeat (first | exact grow_refl _ | refine grow_ext _ ?_ | refine grow_alloc _ ?_ | refine grow_drew ?_)))⟩
                    case measure => simp [intOf]; omega
            · have HN : Hid (doneS l m (pairsL X) (pairsL Y) (pairsL Z) (a0, a1) (b0, b1) (q - 1) (r - 1) (s - 1) = doneS l m (pairsL X) (pairsL Y) (pairsL Z) (a0, a1) (0, 0) (q - 1) (r + 1 - 1) 0) := by
                obtain ⟨h1, e1⟩ := HP1.out
                have := done_column (l := l) (m := m) (P0 := pairsL X) (P2 := pairsL Z) (p := (a0, a1)) (q := (b0, b1)) (a := q - 1) h1 e1.symm
                rw [LZ.out] at this
                rw [show s - 1 = Z.length - 1 by omega, this, done_any2 (q := (b0, b1)) (0, 0), show r - 1 + 1 = r + 1 - 1 by omega]
                exact Lib.hid rfl
              go_wp2
              go_roundw
              case rel => exact ⟨r + 1, by omega, by omega, by go_num, ES.out.grown (by (repeat (first | exact grow_refl _ | refine grow_ext _ ?_ | refine grow_alloc _ ?_ | refine grow_drew ?_))), HBS.out.trans (Below.mono (show Below _ _ _ by (repeat (first | exact grow_refl _ | refine grow_ext _ ?_ | refine grow_alloc _ ?_ | refine grow_drew ?_))) ES.out.b0), by first | exact hgl | (simp [size_ext]; omega), by rw [← HN.out]; exact KJ.out _ _ _ _ HJS.out (by (repeat (first | exact grow_refl _ | refine grow_ext _ ?_ | refine grow_alloc _ ?_ | refine grow_drew ?_)))⟩
              case measure => simp [intOf]; omega
        · have HN : Hid (doneS l m (pairsL X) (pairsL Y) (pairsL Z) (a0, a1) (0, 0) (q - 1) (r - 1) 0 = doneS l m (pairsL X) (pairsL Y) (pairsL Z) (0, 0) (0, 0) (q + 1 - 1) 0 0) := by
            obtain ⟨h0, e0⟩ := HP0.out
            have := done_layer (l := l) (m := m) (P1 := pairsL Y) (P2 := pairsL Z) (p := (a0, a1)) (q := (0, 0)) h0 e0.symm
            rw [LY.out] at this
            rw [show r - 1 = Y.length - 1 by omega, this, done_any (p := (a0, a1)) (q := (0, 0)) (0, 0) (0, 0), show q - 1 + 1 = q + 1 - 1 by omega]
            exact Lib.hid rfl
          go_wp2
          go_roundw
          case rel => exact ⟨q + 1, by omega, by omega, by go_num, ER.out.grown (by (repeat (first | exact grow_refl _ | refine grow_ext _ ?_ | refine grow_alloc _ ?_ | refine grow_drew ?_))), HBR.out.trans (Below.mono (show Below _ _ _ by (repeat (first | exact grow_refl _ | refine grow_ext _ ?_ | refine grow_alloc _ ?_ | refine grow_drew ?_))) ER.out.b0), by first | exact hgl | (simp [size_ext]; omega), by rw [← HN.out]; exact KJ.out _ _ _ _ HJR.out (by (repeat (first | exact grow_refl _ | refine grow_ext _ ?_ | refine grow_alloc _ ?_ | refine grow_drew ?_)))⟩
          case measure => simp [intOf]; omega
    · have HN : Hid (doneS l m (pairsL X) (pairsL Y) (pairsL Z) (0, 0) (0, 0) (q - 1) 0 0 = cells) := by
        rw [HCE.out, ← done_all (p := (0, 0)) (q := (0, 0)), LX.out, show q - 1 = X.length - 1 by omega]
        exact Lib.hid rfl
      go_wp2
      go_end0
      exact ⟨rfl, .inl ⟨M, by rw [← HN.out]; exact KJ.out _ _ _ _ HJQ.out (by (repeat (first | exact grow_refl _ | refine grow_ext _ ?_ | refine grow_alloc _ ?_ | refine grow_drew ?_)))⟩⟩
end Go.Proofs.Ytafkibnkpcmmgaa
