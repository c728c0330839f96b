/- SolidHalves: the walk of the law. -/
import Derived.Test.YtafkibnkpcmmgaaSolW
import Derived.Test.YtafkibnkpcmmgaaLawFns
import Derived.Deep.DeepCutAuto
import Derived.Deep.CutBlock
import Derived.RegionTactic
namespace Go.Proofs.Ytafkibnkpcmmgaa
open Go.RowKit

theorem refValid17_v (b : Bx) (r : Bool) (h : validB b = r) (w : World) : Calls Try.prog 11 #[(.agg #[.int .i64 b.lx, .int .i64 b.ly, .int .i64 b.lz, .int .i64 b.hx, .int .i64 b.hy, .int .i64 b.hz])] w (Ret w (.bool r)) := by subst h; exact refValid_c b w

def rightB (l m : List Bx) : Bool := decide (l.length ≤ 4) && decide (m.length ≤ 4) && solidB l m
set_option maxHeartbeats 2000000 in
theorem right17_c (l m : List Bx) (u t : Value) (w : World) (hl : Boxes w u l) (hm : Boxes w t m) :
    Calls Try.prog 10 #[.agg #[u, t]] w (Ret w (.bool (rightB l m))) := by
  obtain ⟨ua, uc, rfl, _, _, _⟩ := hl.shape
  obtain ⟨ta, tc, rfl, _, _, _⟩ := hm.shape
  have HL := Lib.hid hl
  have HM := Lib.hid hm
  have HV := Lib.hid (fun w hl hm => refSolid_c l m (.slice ua l.length uc) (.slice ta m.length tc) w hl hm)
  clear hl hm
  by_cases h1 : l.length ≤ 4
  · have d1 : decide ((l.length : Int) ≤ 4) = true := by simp; omega
    by_cases h2 : m.length ≤ 4
    · have d2 : decide ((m.length : Int) ≤ 4) = true := by simp; omega
      have HR := Lib.hid (show rightB l m = solidB l m by unfold rightB; rw [decide_eq_true h1, decide_eq_true h2]; rfl)
      go_enter Try.func10, Try.ntmps10
      go_wp2_with fail
      go_at_call 24; refine (HV.out _ (HL.out.below (by (repeat (first | exact grow_refl _ | refine grow_ext _ ?_ | refine grow_alloc _ ?_ | refine grow_drew ?_)))) (HM.out.below (by (repeat (first | exact grow_refl _ | refine grow_ext _ ?_ | refine grow_alloc _ ?_ | refine grow_drew ?_))))).mono ?_; rintro e w' ⟨rfl, x1, rfl⟩
      go_wp2
      go_ret
      rw [HR.out]
      exact Ret.of (by (repeat (first | exact grow_refl _ | refine grow_ext _ ?_ | refine grow_alloc _ ?_ | refine grow_drew ?_)))
    · have d2 : decide ((m.length : Int) ≤ 4) = false := by simp; omega
      have HR := Lib.hid (show rightB l m = false by unfold rightB; rw [decide_eq_false h2]; simp)
      go_enter Try.func10, Try.ntmps10
      go_wp2
      go_ret
      rw [HR.out]
      exact Ret.of (by (repeat (first | exact grow_refl _ | refine grow_ext _ ?_ | refine grow_alloc _ ?_ | refine grow_drew ?_)))
  · have d1 : decide ((l.length : Int) ≤ 4) = false := by simp; omega
    have HR := Lib.hid (show rightB l m = false by unfold rightB; rw [decide_eq_false h1]; simp)
    go_enter Try.func10, Try.ntmps10
    go_wp2
    go_ret
    rw [HR.out]
    exact Ret.of (by (repeat (first | exact grow_refl _ | refine grow_ext _ ?_ | refine grow_alloc _ ?_ | refine grow_drew ?_)))
theorem right17_v (l m : List Bx) (u t : Value) (r : Bool) (h : rightB l m = r) (w : World) (hl : Boxes w u l) (hm : Boxes w t m) :
    Calls Try.prog 10 #[.agg #[u, t]] w (Ret w (.bool r)) := by subst h; exact right17_c l m u t w hl hm
theorem right_iff {l m : List Bx} : rightB l m = true ↔ (l.length ≤ 4 ∧ m.length ≤ 4) ∧ solidB l m = true := by unfold rightB; simp only [Bool.and_eq_true, decide_eq_true_iff]

theorem halfLo_lo (b : Bx) (k p : Int) : (halfLo b k p).lx = b.lx ∧ (halfLo b k p).ly = b.ly ∧ (halfLo b k p).lz = b.lz := by
  unfold halfLo; split
  · exact ⟨rfl, rfl, rfl⟩
  · split <;> exact ⟨rfl, rfl, rfl⟩
theorem halfHi_hi (b : Bx) (k p : Int) : (halfHi b k p).hx = b.hx ∧ (halfHi b k p).hy = b.hy ∧ (halfHi b k p).hz = b.hz := by
  unfold halfHi; split
  · exact ⟨rfl, rfl, rfl⟩
  · split <;> exact ⟨rfl, rfl, rfl⟩
theorem withLo_c (b : Bx) (k n : Int) (hk : 0 ≤ k ∧ k ≤ 2) (w : World) : Calls Try.prog 14 #[(.agg #[.int .i64 b.lx, .int .i64 b.ly, .int .i64 b.lz]), .int .i64 k, .int .i64 n] w (Ret w (.agg #[.int .i64 (halfHi b k n).lx, .int .i64 (halfHi b k n).ly, .int .i64 (halfHi b k n).lz])) := by
  rcases (show k = 0 ∨ k = 1 ∨ k = 2 by omega) with rfl | rfl | rfl
  · exact with0_c _ _ _ _ _
  · exact with1_c _ _ _ _ _
  · exact with2_c _ _ _ _ _
theorem withHi_c (b : Bx) (k n : Int) (hk : 0 ≤ k ∧ k ≤ 2) (w : World) : Calls Try.prog 14 #[(.agg #[.int .i64 b.hx, .int .i64 b.hy, .int .i64 b.hz]), .int .i64 k, .int .i64 n] w (Ret w (.agg #[.int .i64 (halfLo b k n).hx, .int .i64 (halfLo b k n).hy, .int .i64 (halfLo b k n).hz])) := by
  rcases (show k = 0 ∨ k = 1 ∨ k = 2 by omega) with rfl | rfl | rfl
  · exact with0_c _ _ _ _ _
  · exact with1_c _ _ _ _ _
  · exact with2_c _ _ _ _ _

theorem valid_w {b : Bx} (h : validB b = true) (k : Int) : InW (b.lo k) ∧ InW (b.hi k) ∧ b.lo k ≤ b.hi k := by
  have := valid_iff.1 h
  unfold InW Bx.lo Bx.hi
  by_cases h0 : k = 0
  · simp only [if_pos h0]; omega
  · by_cases h1 : k = 1
    · simp only [if_neg h0, if_pos h1]; omega
    · simp only [if_neg h0, if_neg h1]; omega

set_option maxRecDepth 100000 in
set_option maxHeartbeats 1000000 in
theorem halves1_c (b : Bx) (k n : Int) (g : Nat) (hb : validB b = true) (hk : 0 ≤ k ∧ k ≤ 2) (hn : 0 ≤ n ∧ n ≤ 65535) (w : World) (hg : BoxAt w g 0 b) :
    Calls Try.prog 12 #[.int .i64 k, .int .u16 n, .pointer (some ⟨g, 0, none⟩)] w (Ret w (.int .i64 (atI (b.lo k) (b.hi k) n))) := by
  obtain ⟨d0, d1, d2, d3, d4, d5⟩ := hg
  obtain ⟨v1, v2, v3⟩ := valid_w hb k
  have hm := at_mul v3 hn
  have HD := Lib.hid (show ((b.hi k - b.lo k) * n).tdiv 65535 = (b.hi k - b.lo k) * n / 65535 from Int.tdiv_eq_ediv_of_nonneg hm.1)
  have HL := Lib.hid (fun w => coordLo_c b k hk w)
  have HH := Lib.hid (fun w => coordHi_c b k hk w)
  unfold InW at v1 v2
  unfold atI
  generalize b.lo k = lo at *
  generalize b.hi k = hi at *
  clear hb
  go_enter Try.func12, Try.ntmps12
  go_wp2_with fail
  refine wp_region_grows (by kernel_rfl) (by kernel_rfl) ?_
  repeat (go_big_quiet_step (first | (go_at_call_of 13 (Value.agg #[.int .i64 b.lx, .int .i64 b.ly, .int .i64 b.lz]); exact Calls.quiet_ext (HL.out _)) | (go_at_call_of 13 (Value.agg #[.int .i64 b.hx, .int .i64 b.hy, .int .i64 b.hz]); exact Calls.quiet_ext (HH.out _))))
  refine wpQuiet_nil ?_; rintro _ ⟨xq, rfl⟩
  go_wp2
  go_ret
  exact Ret.of (by (repeat (first | exact grow_refl _ | refine grow_ext _ ?_ | refine grow_alloc _ ?_ | refine grow_drew ?_)))

theorem halves_pts {l m : List Bx} {b : Bx} {k cut px py pz : Int} (hs : solidB l m = true) (hv : validB b = true) (hc : b.lo k ≤ cut ∧ cut ≤ b.hi k)
    (hx : b.lx ≤ px ∧ px ≤ b.hx) (hy : b.ly ≤ py ∧ py ≤ b.hy) (hz : b.lz ≤ pz ∧ pz ≤ b.hz) :
    ∃ is ml mr pt : Bool, is = (ml && mr) ∧ (is = true → pt = true) ∧ containsR17 l m b = (is, 0) ∧ containsR17 l m (halfLo b k cut) = (ml, 0) ∧ containsR17 l m (halfHi b k cut) = (mr, 0) ∧
      insideR l m px py pz = (pt, 0) ∧ containsR17 l m (ptX px py pz) = (pt, 0) := by
  have hsi := solid_iff.1 hs
  have ho := valid_iff.1 hv
  have ord : b.lx ≤ b.hx ∧ b.ly ≤ b.hy ∧ b.lz ≤ b.hz := by omega
  obtain ⟨o1, o2, c1, c2⟩ := half_in ord hc
  rw [contains_iff] at c1 c2
  have vl : validB (halfLo b k cut) = true := by rw [valid_iff]; omega
  have vr : validB (halfHi b k cut) = true := by rw [valid_iff]; omega
  have vp : validB (ptX px py pz) = true := by rw [valid_iff]; simp only [ptX]; omega
  have cc : ∀ c, validB c = true → containsR17 l m c = (containsS l m c, 0) := fun c h => by unfold containsR17; rw [if_pos ⟨hs, h⟩]
  refine ⟨containsS l m b, containsS l m (halfLo b k cut), containsS l m (halfHi b k cut), containsS l m (ptX px py pz), containsS_halves hsi.2.2.2 ord hc, fun h => ?_, cc _ hv, cc _ vl, cc _ vr, ?_, cc _ vp⟩
  · exact containsS_sub ord (by simp only [ptX]; omega) (by rw [contains_iff]; simp only [ptX]; omega) h
  · unfold insideR; rw [if_pos hs, if_pos vp]

set_option maxRecDepth 100000 in
set_option maxHeartbeats 4000000 in
theorem lawHalves_ok (l m : List Bx) (u t : Value) (b : Bx) (qa qn qx qy : Int) (ha : 0 ≤ qa ∧ qa ≤ 255) (hn : 0 ≤ qn ∧ qn ≤ 65535) (hx : 0 ≤ qx ∧ qx ≤ 65535) (hy : 0 ≤ qy ∧ qy ≤ 65535)
    (hr : rightB l m = true) (hv : validB b = true) (w : World) (hl : Boxes w u l) (hm : Boxes w t m) :
    Calls Try.prog 3 #[.agg #[u, t], (.agg #[.int .i64 b.lx, .int .i64 b.ly, .int .i64 b.lz, .int .i64 b.hx, .int .i64 b.hy, .int .i64 b.hz]), .int .u8 qa, .int .u16 qn, .int .u16 qx, .int .u16 qy] w (Ret w (.bool true)) := by
  obtain ⟨k, hk1⟩ : ∃ k, qa.tmod 3 = k := ⟨_, rfl⟩
  have hk2 : qa % 3 = k := by rw [← hk1, Int.tmod_eq_emod_of_nonneg ha.1]
  have hk : 0 ≤ k ∧ k ≤ 2 := by omega
  have A0 := Lib.hid (fun g w hg => halves1_c b k qn g hv hk hn w hg)
  have A1 := Lib.hid (fun g w hg => halves1_c b 0 qx g hv (by omega) hx w hg)
  have A2 := Lib.hid (fun g w hg => halves1_c b 1 qy g hv (by omega) hy w hg)
  have A3 := Lib.hid (fun g w hg => halves1_c b 2 qn g hv (by omega) hn w hg)
  obtain ⟨a1, a2, a3⟩ := valid_w hv k
  have i0 := at_in a1 a2 a3 hn
  obtain ⟨a1, a2, a3⟩ := valid_w hv 0
  have i1 := at_in a1 a2 a3 hx
  obtain ⟨a1, a2, a3⟩ := valid_w hv 1
  have i2 := at_in a1 a2 a3 hy
  obtain ⟨a1, a2, a3⟩ := valid_w hv 2
  have i3 := at_in a1 a2 a3 hn
  generalize atI (b.lo k) (b.hi k) qn = cut at A0 i0
  generalize atI (b.lo 0) (b.hi 0) qx = px at A1 i1
  generalize atI (b.lo 1) (b.hi 1) qy = py at A2 i2
  generalize atI (b.lo 2) (b.hi 2) qn = pz at A3 i3
  obtain ⟨is, ml, mr, pt, f1, f2, c1, c2, c3, c4, c5⟩ := halves_pts (right_iff.1 hr).2 hv i0 i1 i2 i3
  have F1 := Lib.hid f1
  have F2 := Lib.hid f2
  have C1 := Lib.hid (fun w hl hm => solidContains_v l m u t b _ c1 w hl hm)
  have C2 := Lib.hid (fun w hl hm => solidContains_v l m u t _ _ c2 w hl hm)
  have C3 := Lib.hid (fun w hl hm => solidContains_v l m u t _ _ c3 w hl hm)
  have C4 := Lib.hid (fun w hl hm => solidInside_v l m u t _ _ _ _ c4 w hl hm)
  have C5 := Lib.hid (fun w hl hm => solidContains_v l m u t _ _ c5 w hl hm)
  have WH := Lib.hid (fun w => withHi_c b k cut hk w)
  have WL := Lib.hid (fun w => withLo_c b k cut hk w)
  obtain ⟨e1, e2, e3⟩ := halfLo_lo b k cut
  obtain ⟨e4, e5, e6⟩ := halfHi_hi b k cut
  obtain ⟨L, hL⟩ : ∃ L, L = halfLo b k cut := ⟨_, rfl⟩
  obtain ⟨R, hR⟩ : ∃ R, R = halfHi b k cut := ⟨_, rfl⟩
  rw [← hL] at e1 e2 e3 C2 WH
  rw [← hR] at e4 e5 e6 C3 WL
  have HL := Lib.hid hl
  have HM := Lib.hid hm
  have HR := Lib.hid hr
  have HV := Lib.hid hv
  have HK := Lib.hid hk
  have HQ := Lib.hid (And.intro hk1 hk2)
  clear hl hm hr hv hL hR c1 c2 c3 c4 c5 f1 f2 i0 i1 i2 i3 a1 a2 a3 hk hk1 hk2 hx hy
  go_enter Try.func3, Try.ntmps3
  go_wp2_with fail
  go_at_call 9; refine (awake17_c _).mono ?_; rintro e w' ⟨rfl, x0, rfl⟩
  go_wp2_with fail
  go_at_call 10; refine (right17_v l m _ _ _ HR.out _ (HL.out.below (by (repeat (first | exact grow_refl _ | refine grow_ext _ ?_ | refine grow_alloc _ ?_ | refine grow_drew ?_)))) (HM.out.below (by (repeat (first | exact grow_refl _ | refine grow_ext _ ?_ | refine grow_alloc _ ?_ | refine grow_drew ?_))))).mono ?_; rintro e w' ⟨rfl, x1, rfl⟩
  go_wp2_with fail
  go_at_call 11; refine (refValid17_v b _ HV.out _).mono ?_; rintro e w' ⟨rfl, x2, rfl⟩
  go_upto_region 7 with fail
  try simp only [HQ.out.1, HQ.out.2]
  obtain ⟨g, hg⟩ : ∃ g, g = w.heap.size + 1 := ⟨_, rfl⟩
  rw [← hg]
  refine world_mask (fun W => Below w.heap.size w W ∧ (W.cell? ⟨w.heap.size, 0, none⟩ = some u ∧ W.cell? ⟨w.heap.size, 1, none⟩ = some t) ∧ BoxAt W g 0 b) _ ?_ ?_
  · refine ⟨by (repeat (first | exact grow_refl _ | refine grow_ext _ ?_ | refine grow_alloc _ ?_ | refine grow_drew ?_)), ?_, ?_⟩
    all_goals
      subst hg
      simp [BoxAt, go_sem]
  have hlt : w.heap.size < g := by omega
  have hwg : w.heap.size ≠ g := by omega
  have hgw := hwg.symm
  clear hg x0 x1 x2
  rintro W0 ⟨hB, ⟨s0, s1⟩, ⟨b0, b1, b2, b3, b4, b5⟩⟩
  have HB := Lib.hid hB
  have HG : Hid (g < W0.heap.size) := by
    have := World.block_lt_of_cell? _ _ b0
    exact Lib.hid this
  have HLT := Lib.hid hlt
  clear hB hlt
  go_cut [15, 16] (fun s t' wx => ∃ p q : Nat, s = .pointer (some ⟨p, 0, none⟩) ∧ t' = .pointer (some ⟨q, 0, none⟩) ∧ W0.heap.size ≤ p ∧ W0.heap.size ≤ q ∧ p ≠ q ∧ Below w.heap.size w wx ∧ (wx.cell? ⟨w.heap.size, 0, none⟩ = some u ∧ wx.cell? ⟨w.heap.size, 1, none⟩ = some t) ∧ BoxAt wx g 0 b ∧ BoxAt wx p 0 b ∧ BoxAt wx q 0 b ∧ (wx.frozen? ⟨p, 3, none⟩ = false ∧ wx.frozen? ⟨p, 4, none⟩ = false ∧ wx.frozen? ⟨p, 5, none⟩ = false) ∧ wx.frozen? ⟨q, 0, none⟩ = false ∧ wx.frozen? ⟨q, 1, none⟩ = false ∧ wx.frozen? ⟨q, 2, none⟩ = false)
  case first =>
    go_region
    all_goals
      go_wp2_with fail
      go_meet
      refine ⟨_, _, rfl, rfl, by simp, by simp, by simp, ?_, ?_, ?_, ?_, ?_, ?_, ?_⟩
      · (repeat (first | exact grow_refl _ | exact HB.out | refine grow_ext _ ?_ | refine grow_alloc _ ?_ | refine grow_drew ?_))
      all_goals simp [BoxAt, go_sem, *]
  case rest =>
    clear s0 s1 b0 b1 b2 b3 b4 b5
    obtain ⟨p, q, rfl, rfl, hp, hq, hne, hB1, ⟨s0, s1⟩, hbx, ⟨l0, l1, l2, l3, l4, l5⟩, ⟨r0, r1, r2, r3, r4, r5⟩, ⟨fl, fl1, fl2⟩, fr, fr1, fr2⟩ := hcut
    have HBX := Lib.hid hbx
    obtain ⟨b0, b1, b2, b3, b4, b5⟩ := hbx
    have n1 : w.heap.size ≠ p := by have := HLT.out; have := HG.out; omega
    have n2 : w.heap.size ≠ q := by have := HLT.out; have := HG.out; omega
    have n3 : g ≠ p := by have := HG.out; omega
    have n4 : g ≠ q := by have := HG.out; omega
    have m1 := n1.symm
    have m2 := n2.symm
    have m3 := n3.symm
    have m4 := n4.symm
    have hne' := hne.symm
    have HP := Lib.hid (show w.heap.size ≤ p ∧ w.heap.size ≤ q by have := HB.out.size; omega)
    have HB1 := Lib.hid hB1
    simp only [Nat.zero_add] at l1 l2 l3 l4 l5 r1 r2 r3 r4 r5 b1 b2 b3 b4 b5
    obtain ⟨W1, rfl⟩ : ∃ W1 : World, W1 = wc := ⟨_, rfl⟩
    clear hp hq hB1 HB HG HLT
    go_wp2_with fail
    go_at_call 12; refine (A0.out g _ HBX.out).mono ?_; rintro e w' ⟨rfl, x3, rfl⟩
    go_upto_region 9 with fail
    go_cut [] (fun wx => Below w.heap.size w wx ∧ (wx.cell? ⟨w.heap.size, 0, none⟩ = some u ∧ wx.cell? ⟨w.heap.size, 1, none⟩ = some t) ∧ BoxAt wx g 0 b ∧ BoxAt wx p 0 L ∧ BoxAt wx q 0 R)
    case first =>
      go_region_with (first
        | (go_at_call_of 14 (Value.agg #[.int .i64 b.hx, .int .i64 b.hy, .int .i64 b.hz]); refine Calls.mono (WH.out _) ?_; rintro e w' ⟨rfl, y, rfl⟩)
        | (go_at_call_of 14 (Value.agg #[.int .i64 b.lx, .int .i64 b.ly, .int .i64 b.lz]); refine Calls.mono (WL.out _) ?_; rintro e w' ⟨rfl, y, rfl⟩))
      all_goals
        go_wp2_with fail
        go_meet
        refine ⟨?_, ⟨?_, ?_⟩, ?_, ?_, ?_⟩
        · exact grow_ext _ (grow_ext _ (grow_ext _ ((((((HB1.out.setCell HP.out.1 _).setCell HP.out.1 _).setCell HP.out.1 _).setCell HP.out.2 _).setCell HP.out.2 _).setCell HP.out.2 _)))
        all_goals simp [BoxAt, go_sem, s0, s1, b0, b1, b2, b3, b4, b5, l0, l1, l2, l3, l4, l5, r0, r1, r2, r3, r4, r5, n1, n2, n3, n4, m1, m2, m3, m4, hne, hne', e1, e2, e3, e4, e5, e6]
    case rest =>
      clear e1 e2 e3 e4 e5 e6 s0 s1 b0 b1 b2 b3 b4 b5 l0 l1 l2 l3 l4 l5 r0 r1 r2 r3 r4 r5 fl fl1 fl2 fr fr1 fr2 n1 n2 n3 n4 m1 m2 m3 m4 hne hne' HBX
      obtain ⟨hB, ⟨s0, s1⟩, hbx, ⟨l0, l1, l2, l3, l4, l5⟩, ⟨r0, r1, r2, r3, r4, r5⟩⟩ := hcut
      have HBX := Lib.hid hbx
      obtain ⟨b0, b1, b2, b3, b4, b5⟩ := hbx
      simp only [Nat.zero_add] at l1 l2 l3 l4 l5 r1 r2 r3 r4 r5 b1 b2 b3 b4 b5
      obtain ⟨W2, rfl⟩ : ∃ W2 : World, W2 = wc := ⟨_, rfl⟩
      have HB := Lib.hid hB
      clear hB
      have q1 := Lib.hid (C1.out _ (HL.out.below HB.out) (HM.out.below HB.out))
      have QL : Hid (∀ x, Boxes (ext W2 x) u l) := Lib.hid fun x => HL.out.below (HB.out.trans ((below_ext W2 x).mono HB.out.size))
      have QM : Hid (∀ x, Boxes (ext W2 x) t m) := Lib.hid fun x => HM.out.below (HB.out.trans ((below_ext W2 x).mono HB.out.size))
      go_wp2_with fail
      go_at_call 15; refine (q1.out).mono ?_; rintro e w' ⟨rfl, z1, rfl⟩
      go_wp2_with fail
      go_at_call 15; refine (C2.out _ (QL.out _) (QM.out _)).mono ?_; rintro e w' ⟨rfl, z2, rfl⟩
      rw [ext_ext]
      go_wp2_with fail
      go_at_call 15; refine (C3.out _ (QL.out _) (QM.out _)).mono ?_; rintro e w' ⟨rfl, z3, rfl⟩
      rw [ext_ext]
      clear l0 l1 l2 l3 l4 l5 r0 r1 r2 r3 r4 r5
      go_upto_region 13 with fail
      go_cut [96] (fun s wx => s = .bool false ∧ ∃ x, wx = ext W2 x)
      case first =>
        cases ml <;> cases mr
        all_goals
          have h := F1.out
          simp only [Bool.and_true, Bool.and_false] at h
          subst h
          go_wp2_with fail
          go_meet
          exact ⟨rfl, _, rfl⟩
      case rest =>
        obtain ⟨rfl, x4, rfl⟩ := hcut
        have hbx : ∀ x, BoxAt (ext W2 x) g 0 b := fun x => by simp [BoxAt, go_sem, *]
        have HBE := Lib.hid hbx
        clear hbx
        go_wp2_with fail
        go_at_call 12; refine (A1.out g _ (HBE.out _)).mono ?_; rintro e w' ⟨rfl, x5, rfl⟩
        rw [ext_ext]
        go_wp2_with fail
        go_at_call 12; refine (A2.out g _ (HBE.out _)).mono ?_; rintro e w' ⟨rfl, x6, rfl⟩
        rw [ext_ext]
        go_wp2_with fail
        go_at_call 12; refine (A3.out g _ (HBE.out _)).mono ?_; rintro e w' ⟨rfl, x7, rfl⟩
        rw [ext_ext]
        go_wp2_with fail
        go_at_call 16; refine (C4.out _ (HL.out.below (by (repeat (first | exact grow_refl _ | exact HB.out | refine grow_ext _ ?_ | refine grow_alloc _ ?_ | refine grow_drew ?_)))) (HM.out.below (by (repeat (first | exact grow_refl _ | exact HB.out | refine grow_ext _ ?_ | refine grow_alloc _ ?_ | refine grow_drew ?_))))).mono ?_; rintro e w' ⟨rfl, x8, rfl⟩
        go_wp2_with fail
        go_at_call 15; refine (C5.out _ (HL.out.below (by (repeat (first | exact grow_refl _ | exact HB.out | refine grow_ext _ ?_ | refine grow_alloc _ ?_ | refine grow_drew ?_)))) (HM.out.below (by (repeat (first | exact grow_refl _ | exact HB.out | refine grow_ext _ ?_ | refine grow_alloc _ ?_ | refine grow_drew ?_))))).mono ?_; rintro e w' ⟨rfl, x9, rfl⟩
        cases is <;> cases pt
        all_goals first
          | exact absurd (F2.out rfl) Bool.false_ne_true
          | (go_wp2
             go_ret
             exact Ret.of (by (repeat (first | exact grow_refl _ | exact HB.out | refine grow_ext _ ?_ | refine grow_alloc _ ?_ | refine grow_drew ?_))))

end Go.Proofs.Ytafkibnkpcmmgaa
