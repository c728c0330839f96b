/- GapsFits: the walk of the law. -/
import Derived.Test.YtofjopdcbmaijaaPlainI
import Derived.Test.YtofjopdcbmaijaaAwake21
import Derived.Test.YtofjopdcbmaijaaGapRet
import Derived.Deep.DeepCutAuto
import Derived.Deep.CutBlock
namespace Go.Proofs.Ytofjopdcbmaijaa
open Go.RowKit
set_option maxRecDepth 20000

set_option maxHeartbeats 1000000 in
theorem need_c (c d g n R : Int) (b1 b2 b3 : Nat) (hR : 2 * c + n * d + (n - 1) * g = R) (hc : 0 ≤ c ∧ c ≤ 200) (hd : 0 ≤ d ∧ d ≤ 40) (hg : 0 ≤ g ∧ g ≤ 200) (hn : 1 ≤ n ∧ n ≤ 1048577) (w : World)
    (h1 : w.cell? ⟨b1, 0, none⟩ = some (.int .i64 c)) (h2 : w.cell? ⟨b2, 0, none⟩ = some (.int .i64 d)) (h3 : w.cell? ⟨b3, 0, none⟩ = some (.int .i64 g)) :
    Calls Try.prog 14 #[.int .i64 n, .pointer (some ⟨b1, 0, none⟩), .pointer (some ⟨b2, 0, none⟩), .pointer (some ⟨b3, 0, none⟩)] w (Ret w (.int .i64 R)) := by
  have m1 := mul_range (k := n) (s := d) (m := 1048577) (b := 40) (by omega) (by omega)
  have m2 := mul_range (k := n - 1) (s := g) (m := 1048577) (b := 200) (by omega) (by omega)
  obtain ⟨P, hP⟩ : ∃ P, n * d = P := ⟨_, rfl⟩
  obtain ⟨Q, hQ⟩ : ∃ Q, (n - 1) * g = Q := ⟨_, rfl⟩
  rw [hP] at m1 hR
  rw [hQ] at m2 hR
  have v1 : wrap64 (n * d) = P := by rw [hP]; exact IntWalk.wrap64_in _ (by omega)
  have v2 : wrap64 ((n - 1) * g) = Q := by rw [hQ]; exact IntWalk.wrap64_in _ (by omega)
  have v3 : wrap64 (n - 1) = n - 1 := IntWalk.wrap64_in _ (by omega)
  have v4 : wrap64 (2 * c) = 2 * c := IntWalk.wrap64_in _ (by omega)
  have HR := Lib.hid hR
  clear hP hQ hR
  go_enter Try.func14, Try.ntmps14
  go_wp2
  go_ret
  rw [HR.out]
  exact Ret.of (by (repeat (first | exact grow_refl _ | refine grow_ext _ ?_ | refine grow_alloc _ ?_ | refine grow_drew ?_)))

theorem fit_bars (d : Int) (N : Int) {W : World} {gd gb : Nat} (h1 : Blk W gd #[.int .i64 100] 3) (h2 : Blk W gb #[.string ⟨#[97]⟩, .int .i64 d, .int .i64 N, .int .i64 0, .slice (some ⟨gd, 0, none⟩) 1 1] 34) :
    Bars W (.slice (some ⟨gb, 0, none⟩) 1 1) [fitBar d N (.slice (some ⟨gd, 0, none⟩) 1 1)] := by
  refine ⟨_, 1, rfl, by simp, by decide, fun i hi => ?_⟩
  obtain rfl : i = 0 := by simp at hi; omega
  refine ⟨⟨(show (1 : Nat) ≤ 9223372036854775807 from by decide), ⟨_, 1, rfl, by simp [fitBar], by decide, fun j hj => ?_⟩⟩, _, 0, rfl, ?_⟩
  · obtain rfl : j = 0 := by simp [fitBar] at hj; omega
    exact ⟨gd, 0, rfl, h1.cell 0⟩
  · exact ⟨h2.cell 0, h2.cell 1, h2.cell 2, h2.cell 3, h2.cell 4⟩
theorem fit_runs (s : Int) (N : Int) {W : World} {gr : Nat} (h : Blk W gr #[.string ⟨#[97]⟩, .int .i64 1, .int .i64 2, .int .i64 0, .int .i64 0, .int .i64 0, .int .i64 0, .int .i64 s, .int .i64 0, .int .i64 N] 41) :
    Runs W (.slice (some ⟨gr, 0, none⟩) 1 1) [fitRun s N] := by
  refine ⟨_, 1, rfl, by simp, by decide, fun i hi => ?_⟩
  obtain rfl : i = 0 := by simp at hi; omega
  exact ⟨(show (1 : Nat) ≤ 9223372036854775807 from by decide), gr, 0, rfl, h.cell 0, h.cell 1, h.cell 2, h.cell 3, h.cell 4, h.cell 5, h.cell 6, h.cell 7, h.cell 8, h.cell 9⟩

set_option maxRecDepth 100000 in
set_option maxHeartbeats 8000000 in
theorem lawGapsFits_c (wd c d a : Int) (_ : -9223372036854775808 ≤ wd ∧ wd ≤ 9223372036854775807) (_ : -9223372036854775808 ≤ c ∧ c ≤ 9223372036854775807) (_ : -9223372036854775808 ≤ d ∧ d ≤ 9223372036854775807) (_ : -9223372036854775808 ≤ a ∧ a ≤ 9223372036854775807) (w : World) :
    Calls Try.prog 4 #[.int .i64 wd, .int .i64 c, .int .i64 d, .int .i64 a] w (Ret w (.bool true)) := by
  have HLE := Lib.hid (fun w => gLeast_c d a w)
  by_cases hok : sizeB d = true ∧ inI wd 1 1048576 = true ∧ inI c 0 200 = true ∧ inI a 1 100 = true
  · obtain ⟨hd, hw, hc, ha⟩ := hok
    have HMO := Lib.hid (fun w => gMost_v wd c d a (mostI wd c d a) 0 (by unfold mostE; rw [if_pos hd, if_pos ⟨hw, hc, ha⟩]) w)
    rw [show leastE d a = (leastI d a, 0) by unfold leastE; rw [if_pos hd, if_pos ha]] at HLE
    simp only at HLE
    have hd6 := sizeB_range hd
    have hwr : 1 ≤ wd ∧ wd ≤ 1048576 := by unfold inI at hw; simpa using hw
    have hcr : 0 ≤ c ∧ c ≤ 200 := by unfold inI at hc; simpa using hc
    have har : 1 ≤ a ∧ a ≤ 100 := by unfold inI at ha; simpa using ha
    obtain ⟨hm0, hm1, hm2⟩ := most_fit wd c d a hd6.1
    have hm3 := most_le wd c d a hwr.2 hcr.1 hd6.1
    have hG1 : leastI d a = d ∨ leastI d a = a + 5 ∨ leastI d a = 20 := by unfold leastI; omega
    have hG2 : d ≤ leastI d a ∧ a + 5 ≤ leastI d a ∧ 20 ≤ leastI d a := by unfold leastI; omega
    obtain ⟨G, hG⟩ : ∃ G, leastI d a = G := ⟨_, rfl⟩
    rw [hG] at HLE hm1 hm2 hG1 hG2
    obtain ⟨N, hN⟩ : ∃ N : Nat, mostI wd c d a = (N : Int) := ⟨(mostI wd c d a).toNat, by omega⟩
    rw [hN] at HMO hm0 hm1 hm2 hm3
    have HG := Lib.hid hG
    have HD := Lib.hid hd
    have HG1 := Lib.hid hG1
    have hgr : 20 ≤ G ∧ G ≤ 105 := by omega
    have HN1 := Lib.hid hm1
    have HN2 := Lib.hid hm2
    clear hG hN hd hw hc ha hG1 hm1 hm2
    obtain ⟨hd0, hd1⟩ := hd6
    obtain ⟨hg0, hg1, hg2⟩ := hG2
    obtain ⟨hc0, hc1⟩ := hcr
    obtain ⟨ha0, ha1⟩ := har
    obtain ⟨hw0, hw1⟩ := hwr
    go_enter Try.func4, Try.ntmps4
    go_wp2_with fail
    go_at_call 7; refine (awake21_c _).mono ?_; rintro e w' ⟨rfl, x0, rfl⟩
    go_wp2_with fail
    go_at_call 9; refine (HMO.out _).mono ?_; rintro e w' ⟨rfl, x1, rfl⟩
    go_wp2_with fail
    go_at_call 8; refine (HLE.out _).mono ?_; rintro e w' ⟨rfl, x2, rfl⟩
    go_upto_region 7 with fail
    obtain ⟨g11, hg11⟩ : ∃ g, g = w.heap.size + 1 + 1 + x0.heap.size + x1.heap.size + x2.heap.size := ⟨_, rfl⟩
    rw [← hg11]
    refine world_mask (fun W => Below w.heap.size w W ∧ Blk W w.heap.size #[.int .i64 c] 3 ∧ Blk W (w.heap.size + 1) #[.int .i64 d] 3 ∧ Blk W g11 #[.int .i64 G] 3) _ ⟨by (repeat (first | exact grow_refl _ | refine grow_ext _ ?_ | refine grow_alloc _ ?_ | refine grow_drew ?_)), ?_, ?_, ?_⟩ ?_
    · exact (((((Blk.new' rfl _ _).alloc _).ext _).ext _).ext _).alloc _
    · exact ((((Blk.new' (by simp) _ _).ext _).ext _).ext _).alloc _
    · exact Blk.new' (by rw [hg11]; simp [size_ext]) _ _
    clear hg11
    rintro W1 ⟨hb1, hb2, hb3, hb4⟩
    have HB := Lib.hid hb1
    have HBC := Lib.hid hb2
    have HBD := Lib.hid hb3
    have HBG := Lib.hid hb4
    have k1 : W1.cell? ⟨w.heap.size, 0, none⟩ = some (.int .i64 c) := hb2.cell 0
    have k2 : W1.cell? ⟨w.heap.size + 1, 0, none⟩ = some (.int .i64 d) := hb3.cell 0
    have k3 : W1.cell? ⟨g11, 0, none⟩ = some (.int .i64 G) := hb4.cell 0
    clear hb1 hb2 hb3 hb4 HMO HLE
    go_cut [71] (fun s wx => s = .bool false ∧ ∃ x, wx = ext W1 x)
    case first =>
      have e1 : decide (G < d) = false := by simp; omega
      have e2 : decide (G < a + 5) = false := by simp; omega
      have e3 : decide (G < 20) = false := by simp; omega
      cases e4 : (G != d)
      · go_wp2
        go_meet
        exact ⟨rfl, ext_of (by (repeat (first | exact grow_refl _ | refine grow_ext _ ?_ | refine grow_alloc _ ?_ | refine grow_drew ?_)))⟩
      · cases e5 : (G != a + 5)
        · go_wp2
          go_meet
          exact ⟨rfl, ext_of (by (repeat (first | exact grow_refl _ | refine grow_ext _ ?_ | refine grow_alloc _ ?_ | refine grow_drew ?_)))⟩
        · have e6 : (G != 20) = false := by
            rcases HG1.out with h | h | h
            · rw [h] at e4; simp at e4
            · rw [h] at e5; simp at e5
            · rw [h]; rfl
          go_wp2
          go_meet
          exact ⟨rfl, ext_of (by (repeat (first | exact grow_refl _ | refine grow_ext _ ?_ | refine grow_alloc _ ?_ | refine grow_drew ?_)))⟩
    case rest =>
      obtain ⟨rfl, y1, rfl⟩ := hcut
      go_upto_region 10 with fail
      go_cut [93] (fun s wx => s = .bool false ∧ ∃ x, wx = ext W1 x)
      case first =>
        have e1 : decide ((N : Int) < 0) = false := by simp
        obtain ⟨R2, hR2⟩ : ∃ R, 2 * c + ((N : Int) + 1) * d + (N : Int) * G = R := ⟨_, rfl⟩
        have e4 : decide (R2 ≤ wd) = false := by have := HN2.out; rw [hR2] at this; simp; omega
        have HNE := Lib.hid (fun b1 b2 b3 w => need_c c d G ((N : Int) + 1) R2 b1 b2 b3 (by rw [Int.add_sub_cancel]; exact hR2) ⟨hc0, hc1⟩ (by omega) (by omega) (by omega) w)
        clear hR2
        by_cases hp : 0 < (N : Int)
        · have e2 : decide (0 < (N : Int)) = true := by simpa using hp
          obtain ⟨R1, hR1⟩ : ∃ R, 2 * c + (N : Int) * d + ((N : Int) - 1) * G = R := ⟨_, rfl⟩
          have e3 : decide (wd < R1) = false := by have := HN1.out hp; rw [hR1] at this; simp; omega
          have HNF := Lib.hid (fun b1 b2 b3 w => need_c c d G (N : Int) R1 b1 b2 b3 hR1 ⟨hc0, hc1⟩ (by omega) (by omega) (by omega) w)
          clear hR1
          go_wp2_with fail
          go_at_call 14; refine (HNF.out _ _ _ _ ((HBC.out.below (by (repeat (first | exact grow_refl _ | refine grow_ext _ ?_ | refine grow_alloc _ ?_ | refine grow_drew ?_)))).cell 0) ((HBD.out.below (by (repeat (first | exact grow_refl _ | refine grow_ext _ ?_ | refine grow_alloc _ ?_ | refine grow_drew ?_)))).cell 0) ((HBG.out.below (by (repeat (first | exact grow_refl _ | refine grow_ext _ ?_ | refine grow_alloc _ ?_ | refine grow_drew ?_)))).cell 0)).mono ?_; rintro e w' ⟨rfl, z1, rfl⟩
          go_wp2_with fail
          go_at_call 14; refine (HNE.out _ _ _ _ ((HBC.out.below (by (repeat (first | exact grow_refl _ | refine grow_ext _ ?_ | refine grow_alloc _ ?_ | refine grow_drew ?_)))).cell 0) ((HBD.out.below (by (repeat (first | exact grow_refl _ | refine grow_ext _ ?_ | refine grow_alloc _ ?_ | refine grow_drew ?_)))).cell 0) ((HBG.out.below (by (repeat (first | exact grow_refl _ | refine grow_ext _ ?_ | refine grow_alloc _ ?_ | refine grow_drew ?_)))).cell 0)).mono ?_; rintro e w' ⟨rfl, z2, rfl⟩
          go_wp2
          go_meet
          exact ⟨rfl, ext_of (by (repeat (first | exact grow_refl _ | refine grow_ext _ ?_ | refine grow_alloc _ ?_ | refine grow_drew ?_)))⟩
        · have e2 : decide (0 < (N : Int)) = false := by simpa using hp
          go_wp2_with fail
          go_at_call 14; refine (HNE.out _ _ _ _ ((HBC.out.below (by (repeat (first | exact grow_refl _ | refine grow_ext _ ?_ | refine grow_alloc _ ?_ | refine grow_drew ?_)))).cell 0) ((HBD.out.below (by (repeat (first | exact grow_refl _ | refine grow_ext _ ?_ | refine grow_alloc _ ?_ | refine grow_drew ?_)))).cell 0) ((HBG.out.below (by (repeat (first | exact grow_refl _ | refine grow_ext _ ?_ | refine grow_alloc _ ?_ | refine grow_drew ?_)))).cell 0)).mono ?_; rintro e w' ⟨rfl, z2, rfl⟩
          go_wp2
          go_meet
          exact ⟨rfl, ext_of (by (repeat (first | exact grow_refl _ | refine grow_ext _ ?_ | refine grow_alloc _ ?_ | refine grow_drew ?_)))⟩
      case rest =>
        obtain ⟨rfl, y2, rfl⟩ := hcut
        clear HN1 HN2
        by_cases q1 : (N : Int) < 2
        · have e1 : decide ((N : Int) < 2) = true := by simpa using q1
          go_wp2
          go_ret
          exact Ret.of (by (repeat (first | exact grow_refl _ | exact HB.out | refine grow_ext _ ?_ | refine grow_alloc _ ?_ | refine grow_drew ?_)))
        have e1 : decide ((N : Int) < 2) = false := by simpa using q1
        by_cases q2 : 12 < (N : Int)
        · have e2 : decide (12 < (N : Int)) = true := by simpa using q2
          go_wp2
          go_ret
          exact Ret.of (by (repeat (first | exact grow_refl _ | exact HB.out | refine grow_ext _ ?_ | refine grow_alloc _ ?_ | refine grow_drew ?_)))
        have e2 : decide (12 < (N : Int)) = false := by simpa using q2
        by_cases q3 : d % 2 = 1
        · have ht : d.tmod 2 = 1 := by rw [Int.tmod_eq_emod_of_nonneg (by omega)]; exact q3
          clear q3
          go_wp2
          go_ret
          exact Ret.of (by (repeat (first | exact grow_refl _ | exact HB.out | refine grow_ext _ ?_ | refine grow_alloc _ ?_ | refine grow_drew ?_)))
        have ht : d.tmod 2 = 0 := by rw [Int.tmod_eq_emod_of_nonneg (by omega)]; omega
        have HH := Lib.hid (half_even HD.out (by omega))
        clear q3
        obtain ⟨s, hs⟩ : ∃ s, d + G = s := ⟨_, rfl⟩
        have hsr : 2 ≤ s ∧ s ≤ 145 := by omega
        have HS := Lib.hid hs
        have hws : IntKind.i64.wrap (d + G) = s := by rw [hs]; exact IntWalk.i64_in _ (by omega)
        clear hs
        go_upto_region 16 with fail
        obtain ⟨gb, hgb⟩ : ∃ g, g = W1.heap.size + y2.heap.size + 1 := ⟨_, rfl⟩
        obtain ⟨gd, hgd⟩ : ∃ g, g = W1.heap.size + y2.heap.size := ⟨_, rfl⟩
        obtain ⟨gr, hgr2⟩ : ∃ g, g = W1.heap.size + y2.heap.size + 1 + 1 := ⟨_, rfl⟩
        rw [← hgr2, ← hgb, ← hgd]
        refine world_mask (fun W => Below W1.heap.size W1 W ∧ Blk W gd #[.int .i64 100] 3 ∧ Blk W gb #[.string ⟨#[97]⟩, .int .i64 d, .int .i64 N, .int .i64 0, .slice (some ⟨gd, 0, none⟩) 1 1] 34 ∧ Blk W gr #[.string ⟨#[97]⟩, .int .i64 1, .int .i64 2, .int .i64 0, .int .i64 0, .int .i64 0, .int .i64 0, .int .i64 s, .int .i64 0, .int .i64 N] 41) _ ⟨by (repeat (first | exact grow_refl _ | refine grow_ext _ ?_ | refine grow_alloc _ ?_ | refine grow_drew ?_)), ?_, ?_, ?_⟩ ?_
        · exact ((Blk.new' (by rw [hgd]; simp [size_ext]) _ _).alloc _).alloc _
        · exact (Blk.new' (by rw [hgb]; simp [size_ext]) _ _).alloc _
        · exact Blk.new' (by rw [hgr2]; simp [size_ext]) _ _
        have HNE := Lib.hid (show gd ≠ gr ∧ gb ≠ gr ∧ W1.heap.size ≤ gr by omega)
        obtain ⟨dv, hdv⟩ : ∃ u : Value, u = .slice (some ⟨gd, 0, none⟩) 1 1 := ⟨_, rfl⟩
        have HDV := Lib.hid hdv
        have hnN : (N : Int).toNat = N := by simp
        have HC1 := Lib.hid (fit_cuts d s N dv HD.out (by omega) (by omega))
        have HC2 := Lib.hid (fit_cuts d (s - 1) N dv HD.out (by omega) (by omega))
        have hsd : s - 2 * halfI d = G := by have := HH.out; have := HS.out; omega
        have hck1 : checkE [fitBar d N dv] [fitRun s N] a 50 = ([], 0) := by
          unfold checkE; rw [HC1.out, if_pos rfl, if_pos (by unfold inI; simp; omega), fit_free d s a (by omega) (by have := HG.out; omega)]
        have hcl1 : clearE [fitBar d N dv] [fitRun s N] 50 = (G, 0) := by
          unfold clearE; rw [HC1.out, if_pos rfl, if_neg (by rw [fitL_len]; omega), fit_clear d s (by omega) _ (by omega), hsd]
        have hck2 : (checkE [fitBar d N dv] [fitRun (s - 1) N] a 50).1.length = N ∧ (checkE [fitBar d N dv] [fitRun (s - 1) N] a 50).2 = 0 := by
          unfold checkE; rw [HC2.out, if_pos rfl, if_pos (by unfold inI; simp; omega)]
          exact ⟨by show (checkI _ a).length = N; rw [fit_close d (s - 1) a (by omega) (by have := HG.out; omega) _ (by omega), hnN], rfl⟩
        have HK1 := Lib.hid (fun v u w hl hr => gCheck_c [fitBar d N dv] [fitRun s N] v u a 50 w hl hr)
        rw [hck1] at HK1
        have HCL := Lib.hid (fun v u w hl hr => gClear_v [fitBar d N dv] [fitRun s N] v u 50 G 0 hcl1 w hl hr)
        have HK2 := Lib.hid (fun v u w hl hr => (gCheck_c [fitBar d N dv] [fitRun (s - 1) N] v u a 50 w hl hr).mono fun e W h => fds_len hck2.1 h)
        rw [hck2.2] at HK2
        clear hck1 hck2 hcl1 hsd hnN HC1 HC2 hdv hgd hgb hgr2 k1 k2 k3
        rintro W2 ⟨hb1, hb2, hb3, hb4⟩
        have HB1 := Lib.hid hb1
        have HBA := Lib.hid (fit_bars d N hb2 hb3)
        have HRU := Lib.hid (fit_runs s N hb4)
        rw [← HDV.out] at HBA
        have HBB := Lib.hid (show Blk W2 gd _ _ ∧ Blk W2 gb _ _ ∧ Blk W2 gr _ _ from ⟨hb2, hb3, hb4⟩)
        have kg := (HBG.out.below hb1).cell 0
        have kr : W2.cell? ⟨gr, 7, none⟩ = some (.int .i64 s) := hb4.cell 7
        have kf := hb4.frozen 7
        clear hb1 hb2 hb3 hb4 HBC HBD HBG
        go_wp2_with fail
        go_at_call 15; refine (HK1.out _ _ _ (HBA.out.below (by (repeat (first | exact grow_refl _ | refine grow_ext _ ?_ | refine grow_alloc _ ?_ | refine grow_drew ?_)))) (HRU.out.below (by (repeat (first | exact grow_refl _ | refine grow_ext _ ?_ | refine grow_alloc _ ?_ | refine grow_drew ?_))))).mono ?_; rintro e w' ⟨v9, rfl, ho9, z1, rfl⟩
        obtain ⟨a9, c9, rfl, -, -, -⟩ := own_shape ho9
        clear ho9
        go_wp2_with fail
        go_at_call 16; refine (HCL.out _ _ _ (HBA.out.below (by (repeat (first | exact grow_refl _ | refine grow_ext _ ?_ | refine grow_alloc _ ?_ | refine grow_drew ?_)))) (HRU.out.below (by (repeat (first | exact grow_refl _ | refine grow_ext _ ?_ | refine grow_alloc _ ?_ | refine grow_drew ?_))))).mono ?_; rintro e w' ⟨rfl, z2, rfl⟩
        go_upto_region 21 with fail
        refine world_mask (fun W => Below w.heap.size w W ∧ Bars W (.slice (some ⟨gb, 0, none⟩) 1 1) [fitBar d N dv] ∧ Runs W (.slice (some ⟨gr, 0, none⟩) 1 1) [fitRun (s - 1) N]) _ ⟨?_, ?_, ?_⟩ ?_
        · exact grow_ext _ (grow_ext _ ((HB.out.trans (HB1.out.mono HB.out.size)).setCell (p := ⟨gr, 7, none⟩) (by have := HNE.out.2.2; have := HB.out.size; show _ ≤ gr; omega) _))
        · rw [HDV.out]
          exact ((fit_bars d N (HBB.out.1.other (a := ⟨gr, 7, none⟩) HNE.out.1 _) (HBB.out.2.1.other (a := ⟨gr, 7, none⟩) HNE.out.2.1 _)).ext _).ext _
        · exact ((fit_runs (s - 1) N (HBB.out.2.2.set 7 (.int .i64 (s - 1)))).ext _).ext _
        rintro W3 ⟨hb1, hb2, hb3⟩
        have HB3 := Lib.hid hb1
        have HBA3 := Lib.hid hb2
        have HRU3 := Lib.hid hb3
        clear hb1 hb2 hb3 kg kr kf HBB HBA HRU HNE
        go_wp2_with fail
        go_at_call 15; refine (HK2.out _ _ _ HBA3.out HRU3.out).mono ?_; rintro e w' ⟨a8, c8, rfl, j1, j2, z3, rfl⟩
        go_wp2
        go_ret
        exact Ret.of (by (repeat (first | exact grow_refl _ | exact HB3.out | refine grow_ext _ ?_ | refine grow_alloc _ ?_ | refine grow_drew ?_)))
  · have HMO := Lib.hid (fun w => gMost_v wd c d a (mostE wd c d a).1 (mostE wd c d a).2 rfl w)
    have hm : (mostE wd c d a).1 = 0 ∧ (mostE wd c d a).2 ≠ 0 := by
      unfold mostE
      split
      · rename_i h1
        split
        · rename_i h2
          exact absurd ⟨h1, h2⟩ hok
        · exact ⟨rfl, by decide⟩
      · exact ⟨rfl, by decide⟩
    obtain ⟨m0, m1⟩ := hm
    rw [m0] at HMO
    generalize (mostE wd c d a).2 = E at *
    have d1 : (E != 0) = true := by simpa using m1
    clear hok m0 m1
    go_enter Try.func4, Try.ntmps4
    go_wp2_with fail
    go_at_call 7; refine (awake21_c _).mono ?_; rintro e w' ⟨rfl, x0, rfl⟩
    go_wp2_with fail
    go_at_call 9; refine (HMO.out _).mono ?_; rintro e w' ⟨rfl, x1, rfl⟩
    go_wp2_with fail
    go_at_call 8; refine (HLE.out _).mono ?_; rintro e w' ⟨rfl, x2, rfl⟩
    go_wp2
    go_ret
    exact Ret.of (by (repeat (first | exact grow_refl _ | refine grow_ext _ ?_ | refine grow_alloc _ ?_ | refine grow_drew ?_)))

end Go.Proofs.Ytofjopdcbmaijaa
