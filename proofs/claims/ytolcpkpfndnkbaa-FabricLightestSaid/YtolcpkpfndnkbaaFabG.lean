/- The reference's Cover. -/
import Derived.Test.YtolcpkpfndnkbaaFabF
import Derived.Deep.RegionHeld3
namespace Go.Proofs.Ytolcpkpfndnkbaa
open Go.RowKit

set_option maxRecDepth 100000 in
set_option maxHeartbeats 4000000 in
theorem refCover_ok (f : Fb) (L W lap : Int) (hn : f.name.size ≤ 9223372036854775807) (h0 : (sheetsR f L W lap).2 = 0) (h1 : (sheetsR f L W lap).1 ≤ 1000) (w : World) :
    Calls Try.prog 24 #[(.agg #[.string f.name, .int .i64 f.main, .int .i64 f.cross, .int .i64 f.length, .int .i64 f.width, .int .i64 f.mass]), .int .i64 L, .int .i64 W, .int .i64 lap] w (RetOwnE w 52 6 (gridX (rowL L f.length lap) (rowL W f.width lap)).length (boxCells (gridX (rowL L f.length lap) (rowL W f.width lap))) 0) := by
  obtain ⟨_, _, hv, hg, m1, m2, _⟩ := sheets_ok h0
  obtain ⟨_, r1, r2⟩ := given_zero hg
  have HSC := Lib.hid (fun w => refCounted_c f L W lap hn w)
  have HR0 := Lib.hid (fun w => refRow_c L f.length lap r1 w)
  have HR1 := Lib.hid (fun w => refRow_c W f.width lap r2 w)
  have hl0 := rowL_length r1
  have hl1 := rowL_length r2
  have b0 := (num_bound r1).1
  have b1 := (num_bound r2).1
  have l0 : 1 ≤ (rowL L f.length lap).length ∧ (rowL L f.length lap).length ≤ 1000 := by omega
  have l1 : 1 ≤ (rowL W f.width lap).length ∧ (rowL W f.width lap).length ≤ 1000 := by omega
  clear hl0 hl1 b0 b1 m1 m2 hv hg r1 r2
  generalize sheetsR f L W lap = r at *
  obtain ⟨n, e0⟩ := r
  dsimp only at h0 h1
  subst h0
  generalize rowL L f.length lap = P0 at *
  generalize rowL W f.width lap = P1 at *
  have HG := Lib.hid (grid_len P0 P1 l0.2 l1.2)
  go_enter Try.func24, Try.ntmps24
  go_wp2_with fail
  go_at_call 23; refine (HSC.out _).mono ?_; rintro e w' ⟨rfl, x1, rfl⟩
  go_upto_region 6 with fail
  go_region_held3 (fun w' => w'.cell? ⟨w.heap.size, 3, none⟩ = some (.int .i64 f.length) ∧ w'.cell? ⟨w.heap.size, 4, none⟩ = some (.int .i64 f.width)) (simp [go_sem, *])
    (first
      | (go_at_call_of 16 (Value.int IntKind.i64 f.length); refine Calls.mono (HR0.out _) ?_; rintro e w' ⟨v0, rfl, hown0, y0, rfl⟩)
      | (go_at_call_of 16 (Value.int IntKind.i64 f.width); refine Calls.mono (HR1.out _) ?_; rintro e w' ⟨v1, rfl, hown1, y1, rfl⟩))
  have A0 := own_mono (own_ext hown0 y1) (show w.heap.size ≤ _ by simp [size_ext] <;> omega)
  have A1 := own_mono hown1 (show w.heap.size ≤ _ by simp [size_ext] <;> omega)
  clear hown0 hown1
  simp only [ext_drew] at A0 A1
  obtain ⟨g0, cap0, rfl, s0, t0⟩ := own_pairs A0 (by omega)
  obtain ⟨g1, cap1, rfl, s1, t1⟩ := own_pairs A1 (by omega)
  go_wp2_with fail
  go_loopw [15, 14] (fun i v12 wr => ∃ j : Nat, j ≤ P0.length ∧ i = .int .i64 j ∧ (∃ x, wr = ext w x) ∧ wr.ownsRow w.heap.size 31 2 (.slice (some ⟨g0, 0, none⟩) P0.length cap0) P0.length (pairCells P0) ∧ wr.ownsRow w.heap.size 31 2 (.slice (some ⟨g1, 0, none⟩) P1.length cap1) P1.length (pairCells P1) ∧ wr.ownsRow w.heap.size 52 6 v12 ((P0.take j).flatMap (lineX P1)).length (boxCells ((P0.take j).flatMap (lineX P1)))) (fun i _ _ => P0.length - (intOf i).toNat)
  case atStart => exact ⟨0, by omega, rfl, ext_of (by (repeat (first | exact grow_refl _ | refine grow_ext _ ?_ | refine grow_alloc _ ?_ | refine grow_drew ?_))), A0, A1, by simpa [boxCells] using World.ownsRow_nil _ _ _ _⟩
  case round =>
    clear A0 A1
    obtain ⟨j, hj, rfl, ⟨x3, rfl⟩, A0, A1, hO⟩ := hrel
    by_cases hlt0 : j < P0.length
    · have HT0 := Lib.hid (flat_take (lineX P1) P0 j hlt0)
      have T0 : decide ((j : Int) < (P0.length : Int)) = true := by simp; omega
      obtain ⟨p, hp⟩ : ∃ p, p = P0[j] := ⟨_, rfl⟩
      rw [← hp] at HT0
      have HP := Lib.hid hp
      clear hp
      have HA0 := Lib.hid A0
      have HA1 := Lib.hid A1
      have HO := Lib.hid hO
      clear A0 A1 hO
      go_wp2_with fail
      go_loopw [16, 14] (fun i v12 wr => ∃ k : Nat, k ≤ P1.length ∧ i = .int .i64 k ∧ (∃ x, wr = ext w x) ∧ wr.ownsRow w.heap.size 31 2 (.slice (some ⟨g0, 0, none⟩) P0.length cap0) P0.length (pairCells P0) ∧ wr.ownsRow w.heap.size 31 2 (.slice (some ⟨g1, 0, none⟩) P1.length cap1) P1.length (pairCells P1) ∧ wr.ownsRow w.heap.size 52 6 v12 ((P0.take j).flatMap (lineX P1) ++ (P1.take k).map (sheetX p)).length (boxCells ((P0.take j).flatMap (lineX P1) ++ (P1.take k).map (sheetX p)))) (fun i _ _ => P1.length - (intOf i).toNat)
      case atStart => exact ⟨0, by omega, rfl, ⟨_, rfl⟩, HA0.out, HA1.out, by simpa using HO.out⟩
      case round =>
        clear HA0 HA1 HO
        obtain ⟨k, hk, rfl, ⟨x5, rfl⟩, A0, A1, hO⟩ := hrel
        by_cases hlt1 : k < P1.length
        · obtain ⟨c0, c1⟩ := own_pair_at A1 k hlt1
          obtain ⟨d0, d1⟩ := own_pair_at A0 j hlt0
          rw [← HP.out] at d0 d1
          have HB := Lib.hid (HG.out j k p)
          have HT1 := Lib.hid (show (P0.take j).flatMap (lineX P1) ++ (P1.take (k + 1)).map (sheetX p) = ((P0.take j).flatMap (lineX P1) ++ (P1.take k).map (sheetX p)) ++ [sheetX p P1[k]] by rw [List.take_succ_eq_append_getElem hlt1, List.map_append]; simp)
          have T1 : decide ((k : Int) < (P1.length : Int)) = true := by simp; omega
          have i1 : (0 : Int) ≤ (k : Int) := by omega
          have i2 : (k : Int) < (P1.length : Int) := by omega
          have i3 : (0 : Int) ≤ (j : Int) := by omega
          have i4 : (j : Int) < (P0.length : Int) := by omega
          obtain ⟨q, hq⟩ : ∃ q, q = P1[k] := ⟨_, rfl⟩
          rw [← hq] at c0 c1 HT1
          clear hq
          generalize (P0.take j).flatMap (lineX P1) ++ (P1.take k).map (sheetX p) = M at hO HB HT1
          have HA0 := Lib.hid A0
          have HA1 := Lib.hid A1
          have HO := Lib.hid hO
          clear A0 A1 hO
          go_wp2_with fail
          refine wp_region_app 24 (by kernel_rfl) (by kernel_rfl) rfl rfl (fun _ _ _ _ h => h) ?_; simp only [List.take_succ_cons, List.take_zero, List.drop_succ_cons, List.drop_zero]
          repeat (go_big_quiet_step (fail))
          refine wpQuiet_nil ?_; rintro _ ⟨xq, rfl⟩
          go_wp2_with (at_builtin; refine app_own rfl _ _ 35 rfl 52 (.agg #[.int .i64 0, .int .i64 0, .int .i64 0, .int .i64 0, .int .i64 0, .int .i64 0]) 6 48 Try.underlying35 info_box rfl (by decide) w _ _ _ _ rfl ((own_ext HO.out xq).alloc _) _ 1 1 (boxCells [sheetX p q]) rfl rfl (cells_new ?_ _ _ _ rfl) (by simp [Value.oneCell', boxCells]) ?_ (by decide) ?_ ?_; (simp [size_ext]); (have := HB.out; omega); (repeat (first | exact grow_refl _ | refine grow_ext _ ?_ | refine grow_alloc _ ?_ | refine grow_drew ?_)); intro v' x' hown3 hgrow)
          have B0 := ((own_ext HA0.out xq).alloc _).kept hgrow (own_ne HA0.out HO.out (by decide))
          have B1 := ((own_ext HA1.out xq).alloc _).kept hgrow (own_ne HA1.out HO.out (by decide))
          clear hgrow c0 c1 d0 d1
          go_roundw
          case rel => exact ⟨k + 1, by omega, by go_num, ⟨_, rfl⟩, B0, B1, by rw [HT1.out, boxCells_append, List.length_append]; exact hown3⟩
          case measure => simp [intOf]; omega
        · obtain rfl : k = P1.length := by omega
          rw [List.take_length] at hO
          have HOO := Lib.hid hO
          have HA0 := Lib.hid A0
          have HA1 := Lib.hid A1
          clear A0 A1 hO
          go_wp2
          go_roundw
          case rel => exact ⟨j + 1, by omega, by go_num, ⟨_, rfl⟩, HA0.out, HA1.out, by rw [HT0.out]; exact HOO.out⟩
          case measure => simp [intOf]; omega
    · obtain rfl : j = P0.length := by omega
      rw [List.take_length] at hO
      have HOO := Lib.hid hO
      clear A0 A1 hO
      go_wp2
      go_ret2
      exact ⟨_, rfl, HOO.out, ⟨_, rfl⟩⟩

set_option maxRecDepth 100000 in
set_option maxHeartbeats 2000000 in
theorem refCover_c (f : Fb) (L W lap : Int) (hn : f.name.size ≤ 9223372036854775807) (w : World) :
    Calls Try.prog 24 #[(.agg #[.string f.name, .int .i64 f.main, .int .i64 f.cross, .int .i64 f.length, .int .i64 f.width, .int .i64 f.mass]), .int .i64 L, .int .i64 W, .int .i64 lap] w (RetOwnE w 52 6 (coverR f L W lap).1.length (boxCells (coverR f L W lap).1) (coverR f L W lap).2) := by
  by_cases h0 : (sheetsR f L W lap).2 = 0
  · by_cases h1 : (sheetsR f L W lap).1 ≤ 1000
    · have : coverR f L W lap = (gridX (rowL L f.length lap) (rowL W f.width lap), 0) := by unfold coverR; rw [if_pos h0, if_neg (by omega)]
      rw [this]
      exact refCover_ok f L W lap hn h0 h1 w
    · have HR := Lib.hid (show coverR f L W lap = ([], 4) by unfold coverR; rw [if_pos h0, if_pos (by omega)])
      have HSC := Lib.hid (fun w => refCounted_c f L W lap hn w)
      generalize sheetsR f L W lap = r at *
      obtain ⟨n, e0⟩ := r
      dsimp only at h0 h1
      subst h0
      go_enter Try.func24, Try.ntmps24
      go_wp2_with fail
      go_at_call 23; refine (HSC.out _).mono ?_; rintro e w' ⟨rfl, x1, rfl⟩
      go_wp2
      go_ret2
      rw [HR.out]
      exact ⟨_, rfl, World.ownsRow_nil _ _ _ _, ext_of (by (repeat (first | exact grow_refl _ | refine grow_ext _ ?_ | refine grow_alloc _ ?_ | refine grow_drew ?_)))⟩
  · have HR := Lib.hid (show coverR f L W lap = ([], (sheetsR f L W lap).2) by unfold coverR; rw [if_neg h0])
    have HSC := Lib.hid (fun w => refCounted_c f L W lap hn w)
    generalize sheetsR f L W lap = r at *
    obtain ⟨n, e0⟩ := r
    dsimp only at h0 HR
    have hb : (e0 == 0) = false := by simpa using h0
    go_enter Try.func24, Try.ntmps24
    go_wp2_with fail
    go_at_call 23; refine (HSC.out _).mono ?_; rintro e w' ⟨rfl, x1, rfl⟩
    go_wp2
    go_ret2
    rw [HR.out]
    exact ⟨_, rfl, World.ownsRow_nil _ _ _ _, ext_of (by (repeat (first | exact grow_refl _ | refine grow_ext _ ?_ | refine grow_alloc _ ?_ | refine grow_drew ?_)))⟩

end Go.Proofs.Ytolcpkpfndnkbaa
