/- fabric.Cover and the reference's. -/
import Derived.Test.YtolcpkpfndnkbaaFabE
import Derived.Test.YtolcpkpfndnkbaaRefF
namespace Go.Proofs.Ytolcpkpfndnkbaa
open Go.RowKit

def sheetX (x y : Int × Int) : Bx := ⟨x.1, y.1, 0, x.2, y.2, 0⟩
def lineX (P1 : List (Int × Int)) (x : Int × Int) : List Bx := P1.map (sheetX x)
def gridX (P0 P1 : List (Int × Int)) : List Bx := P0.flatMap (lineX P1)
def coverR (f : Fb) (L W lap : Int) : List Bx × Int :=
  if (sheetsR f L W lap).2 = 0 then (if 1000 < (sheetsR f L W lap).1 then ([], 4) else (gridX (rowL L f.length lap) (rowL W f.width lap), 0)) else ([], (sheetsR f L W lap).2)

theorem own_pairs {w : World} {base : Nat} {v : Value} {C : List (Int × Int)} (h : w.ownsRow base 31 2 v C.length (pairCells C)) (h0 : 0 < C.length) :
    ∃ g cap, v = .slice (some ⟨g, 0, none⟩) C.length cap ∧ C.length ≤ cap ∧ cap ≤ 9223372036854775807 := by
  obtain ⟨a, cap, rfl, h1, h2, h3⟩ := own_shape h
  obtain ⟨g, rfl, _⟩ := h3 h0
  exact ⟨g, cap, rfl, h1, h2⟩
theorem own_pair_at {w : World} {base g cap : Nat} {C : List (Int × Int)} (h : w.ownsRow base 31 2 (.slice (some ⟨g, 0, none⟩) C.length cap) C.length (pairCells C)) (i : Nat) (hi : i < C.length) :
    w.cell? ⟨g, i * 2, none⟩ = some (.int .i64 C[i].1) ∧ w.cell? ⟨g, i * 2 + 1, none⟩ = some (.int .i64 C[i].2) := by
  obtain ⟨a, cap', he, h1, h2, h3⟩ := own_shape h
  cases he
  obtain ⟨g', e, _, hc⟩ := h3 (by omega)
  cases e
  obtain ⟨d0, d1⟩ := pairCells_get C i hi
  exact ⟨by rw [hc _ (by omega), d0], by rw [hc _ (by omega), d1]⟩
theorem own_one_at {w : World} {base g : Nat} {p : Int × Int} (h : w.ownsRow base 31 2 (.slice (some ⟨g, 0, none⟩) 1 1) 1 [.int .i64 p.1, .int .i64 p.2]) :
    w.cell? ⟨g, 0, none⟩ = some (.int .i64 p.1) ∧ w.cell? ⟨g, 1, none⟩ = some (.int .i64 p.2) := own_pair_at (C := [p]) h 0 (by simp)
theorem rowL_length {t s l : Int} (h : rangeB t s l = true) : ((rowL t s l).length : Int) = numI t s l := by
  have := num_bound h
  unfold rowL
  rw [rowTo_length]
  omega
theorem grid_len (P0 P1 : List (Int × Int)) (h0 : P0.length ≤ 1000) (h1 : P1.length ≤ 1000) (i k : Nat) (x : Int × Int) : ((P0.take i).flatMap (lineX P1) ++ (P1.take k).map (sheetX x)).length ≤ 10000000 := by
  have a0 := List.length_take_le i P0
  have a1 := List.length_take_le' i P0
  have a2 := List.length_take_le' k P1
  have b0 := flat_len (lineX P1) 1000 (P0.take i) (fun x => by unfold lineX; simpa using h1)
  have c0 := Nat.mul_le_mul_right 1000 (show (P0.take i).length ≤ 1000 by omega)
  simp only [List.length_append, List.length_map]
  omega

set_option maxRecDepth 100000 in
set_option maxHeartbeats 4000000 in
theorem cover_ok (f : Fb) (L W lap : Int) (hn : f.name.size ≤ 9223372036854775807) (h0 : (sheetsR f L W lap).2 = 0) (h1 : (sheetsR f L W lap).1 ≤ 1000) (w : World) :
    Calls Try.prog 22 #[(.agg #[.string f.name, .int .i64 f.main, .int .i64 f.cross, .int .i64 f.length, .int .i64 f.width, .int .i64 f.mass]), .int .i64 L, .int .i64 W, .int .i64 lap] w (RetOwnE w 52 6 (gridX (rowL L f.length lap) (rowL W f.width lap)).length (boxCells (gridX (rowL L f.length lap) (rowL W f.width lap))) 0) := by
  obtain ⟨_, _, hv, hg, m1, m2, _⟩ := sheets_ok h0
  obtain ⟨_, r1, r2⟩ := given_zero hg
  have HSC := Lib.hid (fun w => sheets_c f L W lap hn w)
  have HR0 := Lib.hid (fun w => row_c L f.length lap r1 w)
  have HR1 := Lib.hid (fun w => row_c W f.width lap r2 w)
  have hl0 := rowL_length r1
  have hl1 := rowL_length r2
  have b0 := (num_bound r1).1
  have b1 := (num_bound r2).1
  have l0 : 1 ≤ (rowL L f.length lap).length ∧ (rowL L f.length lap).length ≤ 1000 := by omega
  have l1 : 1 ≤ (rowL W f.width lap).length ∧ (rowL W f.width lap).length ≤ 1000 := by omega
  clear hl0 hl1 b0 b1 m1 m2 hv hg r1 r2
  generalize sheetsR f L W lap = r at *
  obtain ⟨n, e0⟩ := r
  dsimp only at h0 h1
  subst h0
  generalize rowL L f.length lap = P0 at *
  generalize rowL W f.width lap = P1 at *
  have HG := Lib.hid (grid_len P0 P1 l0.2 l1.2)
  go_enter Try.func22, Try.ntmps22
  go_wp2_with fail
  go_at_call 20; refine (HSC.out _).mono ?_; rintro e w' ⟨rfl, x1, rfl⟩
  go_wp2_with fail
  go_at_call 40; refine Calls.mono (HR0.out _) ?_; rintro e w' ⟨v0, rfl, hown0, x2, rfl⟩
  have A0 := own_mono (base' := w.heap.size) hown0 (by simp [size_ext] <;> omega)
  clear hown0
  obtain ⟨g0, cap0, rfl, s0, t0⟩ := own_pairs A0 (by omega)
  go_wp2_with fail
  go_loopw [38, 12] (fun i v12 wr => ∃ j : Nat, j ≤ P0.length ∧ i = .int .i64 j ∧ (∃ x, wr = ext (w.alloc (.cells #[.string f.name, .int .i64 f.main, .int .i64 f.cross, .int .i64 f.length, .int .i64 f.width, .int .i64 f.mass] 34)) x) ∧ wr.ownsRow w.heap.size 31 2 (.slice (some ⟨g0, 0, none⟩) P0.length cap0) P0.length (pairCells P0) ∧ wr.ownsRow (w.alloc (.cells #[.string f.name, .int .i64 f.main, .int .i64 f.cross, .int .i64 f.length, .int .i64 f.width, .int .i64 f.mass] 34)).heap.size 52 6 v12 ((P0.take j).flatMap (lineX P1)).length (boxCells ((P0.take j).flatMap (lineX P1)))) (fun i _ _ => P0.length - (intOf i).toNat)
  case atStart => exact ⟨0, by omega, rfl, ext_of (by (repeat (first | exact grow_refl _ | refine grow_ext _ ?_ | refine grow_alloc _ ?_ | refine grow_drew ?_))), A0, by simpa [boxCells] using World.ownsRow_nil _ _ _ _⟩
  case round =>
    clear A0
    obtain ⟨j, hj, rfl, ⟨x3, rfl⟩, A0, hO⟩ := hrel
    by_cases hlt0 : j < P0.length
    · obtain ⟨c0, c1⟩ := own_pair_at A0 j hlt0
      have HT0 := Lib.hid (flat_take (lineX P1) P0 j hlt0)
      obtain ⟨p, hp⟩ : ∃ p, p = P0[j] := ⟨_, rfl⟩
      rw [← hp] at c0 c1 HT0
      clear hp
      have HA0 := Lib.hid A0
      have HO := Lib.hid hO
      clear A0 hO
      go_wp2_with fail
      go_at_call 40; refine Calls.mono (HR1.out _) ?_; rintro e w' ⟨v1, rfl, hown1, x4, rfl⟩
      have A1 := own_mono (base' := w.heap.size) hown1 (by simp [size_ext] <;> omega)
      clear hown1
      obtain ⟨g1, cap1, rfl, s1, t1⟩ := own_pairs A1 (by omega)
      have AX : (ext ((ext (w.alloc (.cells #[.string f.name, .int .i64 f.main, .int .i64 f.cross, .int .i64 f.length, .int .i64 f.width, .int .i64 f.mass] 34)) x3).alloc (.cells #[.int .i64 p.1, .int .i64 p.2] 31)) x4).ownsRow w.heap.size 31 2 (.slice (some ⟨w.heap.size + 1 + x3.heap.size, 0, none⟩) 1 1) 1 [.int .i64 p.1, .int .i64 p.2] := own_ext (own_lit _ _ _ _ _ (by simp [size_ext]) (by simp [size_ext]; omega) (by decide) rfl rfl) x4
      have A0 := own_ext (HA0.out.alloc (.cells #[.int .i64 p.1, .int .i64 p.2] 31)) x4
      have hO := own_ext (HO.out.alloc (.cells #[.int .i64 p.1, .int .i64 p.2] 31)) x4
      clear c0 c1
      go_wp2_with fail
      go_loopw [48, 12] (fun i v12 wr => ∃ k : Nat, k ≤ P1.length ∧ i = .int .i64 k ∧ (∃ x, wr = ext (w.alloc (.cells #[.string f.name, .int .i64 f.main, .int .i64 f.cross, .int .i64 f.length, .int .i64 f.width, .int .i64 f.mass] 34)) x) ∧ wr.ownsRow w.heap.size 31 2 (.slice (some ⟨g0, 0, none⟩) P0.length cap0) P0.length (pairCells P0) ∧ wr.ownsRow w.heap.size 31 2 (.slice (some ⟨g1, 0, none⟩) P1.length cap1) P1.length (pairCells P1) ∧ wr.ownsRow w.heap.size 31 2 (.slice (some ⟨w.heap.size + 1 + x3.heap.size, 0, none⟩) 1 1) 1 [.int .i64 p.1, .int .i64 p.2] ∧ wr.ownsRow (w.alloc (.cells #[.string f.name, .int .i64 f.main, .int .i64 f.cross, .int .i64 f.length, .int .i64 f.width, .int .i64 f.mass] 34)).heap.size 52 6 v12 ((P0.take j).flatMap (lineX P1) ++ (P1.take k).map (sheetX p)).length (boxCells ((P0.take j).flatMap (lineX P1) ++ (P1.take k).map (sheetX p)))) (fun i _ _ => P1.length - (intOf i).toNat)
      case atStart => exact ⟨0, by omega, rfl, ext_of (by (repeat (first | exact grow_refl _ | refine grow_ext _ ?_ | refine grow_alloc _ ?_ | refine grow_drew ?_))), A0, A1, AX, by simpa using hO⟩
      case round =>
        clear A0 A1 AX hO HA0 HO
        obtain ⟨k, hk, rfl, ⟨x5, rfl⟩, A0, A1, AX, hO⟩ := hrel
        by_cases hlt1 : k < P1.length
        · obtain ⟨c0, c1⟩ := own_pair_at A1 k hlt1
          obtain ⟨d0, d1⟩ := own_one_at AX
          have HB := Lib.hid (HG.out j k p)
          have HT1 := Lib.hid (show (P0.take j).flatMap (lineX P1) ++ (P1.take (k + 1)).map (sheetX p) = ((P0.take j).flatMap (lineX P1) ++ (P1.take k).map (sheetX p)) ++ [sheetX p P1[k]] by rw [List.take_succ_eq_append_getElem hlt1, List.map_append]; simp)
          obtain ⟨q, hq⟩ : ∃ q, q = P1[k] := ⟨_, rfl⟩
          rw [← hq] at c0 c1 HT1
          clear hq
          generalize (P0.take j).flatMap (lineX P1) ++ (P1.take k).map (sheetX p) = M at hO HB HT1
          have HA0 := Lib.hid A0
          have HA1 := Lib.hid A1
          have HAX := Lib.hid AX
          have HO := Lib.hid hO
          clear A0 A1 AX hO
          go_wp2_with (at_builtin; refine app_own rfl _ _ 35 rfl 52 (.agg #[.int .i64 0, .int .i64 0, .int .i64 0, .int .i64 0, .int .i64 0, .int .i64 0]) 6 48 Try.underlying35 info_box rfl (by decide) (w.alloc (.cells #[.string f.name, .int .i64 f.main, .int .i64 f.cross, .int .i64 f.length, .int .i64 f.width, .int .i64 f.mass] 34)) _ _ _ _ rfl ((HO.out.alloc _).alloc _) _ 1 1 (boxCells [sheetX p q]) rfl rfl (cells_new ?_ _ _ _ rfl) (by simp [Value.oneCell', boxCells]) ?_ (by decide) ?_ ?_; (simp [size_ext]); (have := HB.out; omega); (repeat (first | exact grow_refl _ | refine grow_ext _ ?_ | refine grow_alloc _ ?_ | refine grow_drew ?_)); intro v' x' hown3 hgrow)
          have B0 := ((HA0.out.alloc _).alloc _).kept hgrow (own_ne HA0.out HO.out (by decide))
          have B1 := ((HA1.out.alloc _).alloc _).kept hgrow (own_ne HA1.out HO.out (by decide))
          have BX := ((HAX.out.alloc _).alloc _).kept hgrow (own_ne HAX.out HO.out (by decide))
          clear hgrow c0 c1 d0 d1
          go_roundw
          case rel => exact ⟨k + 1, by omega, by go_num, ⟨_, rfl⟩, B0, B1, BX, by rw [HT1.out, boxCells_append, List.length_append]; exact hown3⟩
          case measure => simp [intOf]; omega
        · obtain rfl : k = P1.length := by omega
          rw [List.take_length] at hO
          have HOO := Lib.hid hO
          have HA0 := Lib.hid A0
          clear A0 A1 AX hO
          go_wp2
          go_roundw
          case rel => exact ⟨j + 1, by omega, by go_num, ⟨_, rfl⟩, HA0.out, by rw [HT0.out]; exact HOO.out⟩
          case measure => simp [intOf]; omega
    · obtain rfl : j = P0.length := by omega
      rw [List.take_length] at hO
      have HOO := Lib.hid hO
      clear A0 hO
      go_wp2
      go_ret2
      exact ⟨_, rfl, own_mono HOO.out (by simp), ext_of (by (repeat (first | exact grow_refl _ | refine grow_ext _ ?_ | refine grow_alloc _ ?_ | refine grow_drew ?_)))⟩

set_option maxRecDepth 100000 in
set_option maxHeartbeats 2000000 in
theorem cover_c (f : Fb) (L W lap : Int) (hn : f.name.size ≤ 9223372036854775807) (w : World) :
    Calls Try.prog 22 #[(.agg #[.string f.name, .int .i64 f.main, .int .i64 f.cross, .int .i64 f.length, .int .i64 f.width, .int .i64 f.mass]), .int .i64 L, .int .i64 W, .int .i64 lap] w (RetOwnE w 52 6 (coverR f L W lap).1.length (boxCells (coverR f L W lap).1) (coverR f L W lap).2) := by
  by_cases h0 : (sheetsR f L W lap).2 = 0
  · by_cases h1 : (sheetsR f L W lap).1 ≤ 1000
    · have : coverR f L W lap = (gridX (rowL L f.length lap) (rowL W f.width lap), 0) := by unfold coverR; rw [if_pos h0, if_neg (by omega)]
      rw [this]
      exact cover_ok f L W lap hn h0 h1 w
    · have HR := Lib.hid (show coverR f L W lap = ([], 4) by unfold coverR; rw [if_pos h0, if_pos (by omega)])
      have HSC := Lib.hid (fun w => sheets_c f L W lap hn w)
      generalize sheetsR f L W lap = r at *
      obtain ⟨n, e0⟩ := r
      dsimp only at h0 h1
      subst h0
      go_enter Try.func22, Try.ntmps22
      go_wp2_with fail
      go_at_call 20; refine (HSC.out _).mono ?_; rintro e w' ⟨rfl, x1, rfl⟩
      go_wp2
      go_ret2
      rw [HR.out]
      exact ⟨_, rfl, World.ownsRow_nil _ _ _ _, ext_of (by (repeat (first | exact grow_refl _ | refine grow_ext _ ?_ | refine grow_alloc _ ?_ | refine grow_drew ?_)))⟩
  · have HR := Lib.hid (show coverR f L W lap = ([], (sheetsR f L W lap).2) by unfold coverR; rw [if_neg h0])
    have HSC := Lib.hid (fun w => sheets_c f L W lap hn w)
    generalize sheetsR f L W lap = r at *
    obtain ⟨n, e0⟩ := r
    dsimp only at h0 HR
    have hb : (e0 == 0) = false := by simpa using h0
    go_enter Try.func22, Try.ntmps22
    go_wp2_with fail
    go_at_call 20; refine (HSC.out _).mono ?_; rintro e w' ⟨rfl, x1, rfl⟩
    go_wp2
    go_ret2
    rw [HR.out]
    exact ⟨_, rfl, World.ownsRow_nil _ _ _ _, ext_of (by (repeat (first | exact grow_refl _ | refine grow_ext _ ?_ | refine grow_alloc _ ?_ | refine grow_drew ?_)))⟩

end Go.Proofs.Ytolcpkpfndnkbaa
