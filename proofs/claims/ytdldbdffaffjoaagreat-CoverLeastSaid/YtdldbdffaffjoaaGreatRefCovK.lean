/- RefCov, RefCov2, RefCov3 in one text. -/
import Derived.Test.YtdldbdffaffjoaaGreatCovK
import Derived.Test.YtdldbdffaffjoaaGreatSolK4
import Derived.Test.YtdldbdffaffjoaaGreatLawForms0
import Derived.Test.YtdldbdffaffjoaaGreatCovK0
import Derived.Test.YtdldbdffaffjoaaGreatPlainK1
namespace Go.Proofs.YtdldbdffaffjoaaGreat
open Go.RowKit
set_option maxRecDepth 20000

theorem refValidB_v (b : Bx) (r : Bool) (h : validB b = r) (w : World) : Calls Tryz.prog 12 #[(.agg #[.int .i64 b.lx, .int .i64 b.ly, .int .i64 b.lz, .int .i64 b.hx, .int .i64 b.hy, .int .i64 b.hz])] w (Ret w (.bool r)) := by subst h; exact refValid_c b w
/-- A box that is made longer by six numbers, in the order of -X, X, -Y, Y, -Z, Z (they stand in the places of a box). -/
def madeX (b y : Bx) : Bx := ⟨b.lx - y.lx, b.ly - y.lz, b.lz - y.hy, b.hx + y.ly, b.hy + y.hx, b.hz + y.hz⟩
def timesX (y : Bx) (c : Int) : Bx := ⟨y.lx * c, y.ly * c, y.lz * c, y.hx * c, y.hy * c, y.hz * c⟩
/-- All six numbers lie in a range. -/
def RangeX (b : Bx) (n m : Int) : Prop := (n ≤ b.lx ∧ b.lx ≤ m) ∧ (n ≤ b.ly ∧ b.ly ≤ m) ∧ (n ≤ b.lz ∧ b.lz ≤ m) ∧ (n ≤ b.hx ∧ b.hx ≤ m) ∧ (n ≤ b.hy ∧ b.hy ≤ m) ∧ n ≤ b.hz ∧ b.hz ≤ m
theorem made_zero (b y : Bx) : madeX b (timesX y 0) = b := by simp only [madeX, timesX, Int.mul_zero, Int.sub_zero, Int.add_zero]
theorem RangeX.times {y : Bx} (h : RangeX y 0 1) {c : Int} (h0 : 0 ≤ c) : RangeX (timesX y c) 0 c := by
  obtain ⟨h1, h2, h3, h4, h5, h6⟩ := h
  have key : ∀ a : Int, (0 ≤ a ∧ a ≤ 1) → 0 ≤ a * c ∧ a * c ≤ c := by
    intro a ha
    rcases (show a = 0 ∨ a = 1 by omega) with rfl | rfl
    · rw [Int.zero_mul]; omega
    · rw [Int.one_mul]; omega
  exact ⟨key _ h1, key _ h2, key _ h3, key _ h4, key _ h5, key _ h6⟩

set_option maxHeartbeats 1000000 in
theorem refMade_c (b y : Bx) (hb : RangeX b (-4000000) 4000000) (hy : RangeX y 0 4000000) (w : World) :
    Calls Tryz.prog 75 #[(.agg #[.int .i64 b.lx, .int .i64 b.ly, .int .i64 b.lz, .int .i64 b.hx, .int .i64 b.hy, .int .i64 b.hz]), (.agg #[.int .i64 y.lx, .int .i64 y.ly, .int .i64 y.lz, .int .i64 y.hx, .int .i64 y.hy, .int .i64 y.hz])] w (Ret w (.agg #[.int .i64 (madeX b y).lx, .int .i64 (madeX b y).ly, .int .i64 (madeX b y).lz, .int .i64 (madeX b y).hx, .int .i64 (madeX b y).hy, .int .i64 (madeX b y).hz])) := by
  obtain ⟨b1, b2, b3, b4, b5, b6⟩ := hb
  obtain ⟨y1, y2, y3, y4, y5, y6⟩ := hy
  go_enter Tryz.func75, Tryz.ntmps75
  go_wp2
  refine bodyPost_ret (v := (.agg #[.int .i64 (madeX b y).lx, .int .i64 (madeX b y).ly, .int .i64 (madeX b y).lz, .int .i64 (madeX b y).hx, .int .i64 (madeX b y).hy, .int .i64 (madeX b y).hz])) (by simp [results, Tryz.results75, go_sem, madeX]) rfl ?_
  exact Ret.of (by (repeat (first | exact grow_refl _ | refine grow_ext _ ?_ | refine grow_alloc _ ?_ | refine grow_drew ?_)))

def onesX (n : Int) : Bx := ⟨n, n, n, n, n, n⟩
theorem refAll18_c (n : Int) (w : World) : Calls Tryz.prog 47 #[.int .i64 n] w (Ret w (.agg #[.int .i64 (onesX n).lx, .int .i64 (onesX n).ly, .int .i64 (onesX n).lz, .int .i64 (onesX n).hx, .int .i64 (onesX n).hy, .int .i64 (onesX n).hz])) := by
  go_enter Tryz.func47, Tryz.ntmps47
  go_wp2
  refine bodyPost_ret (v := (.agg #[.int .i64 (onesX n).lx, .int .i64 (onesX n).ly, .int .i64 (onesX n).lz, .int .i64 (onesX n).hx, .int .i64 (onesX n).hy, .int .i64 (onesX n).hz])) (by simp [results, Tryz.results47, go_sem, onesX]) rfl ?_
  exact Ret.of (by (repeat (first | exact grow_refl _ | refine grow_ext _ ?_ | refine grow_alloc _ ?_ | refine grow_drew ?_)))

theorem refRound_c (d : Int) (hd : 0 ≤ d ∧ d ≤ 1000000) (w : World) : Calls Tryz.prog 76 #[.int .i64 d] w (Ret w (.int .i64 (halfI d))) := by
  have e : Int.tdiv (d + 1) 2 = (d + 1) / 2 := Int.tdiv_eq_ediv_of_nonneg (by omega)
  unfold halfI
  go_enter Tryz.func76, Tryz.ntmps76
  go_wp2
  go_ret
  exact Ret.of (by (repeat (first | exact grow_refl _ | refine grow_ext _ ?_ | refine grow_alloc _ ?_ | refine grow_drew ?_)))

set_option maxHeartbeats 1000000 in
theorem refHeld_c (q : Mb) (b : Bx) (r : Bool) (hr : (validB b && containsS q.l q.m b) = r) (hs : solidB q.l q.m = true) (w : World) (hq : MbAt w q) :
    Calls Tryz.prog 74 #[(.agg #[.string q.name, q.u, q.t, .int .i64 q.cover, .int .i64 q.agg, .int .i64 q.poker]), (.agg #[.int .i64 b.lx, .int .i64 b.ly, .int .i64 b.lz, .int .i64 b.hx, .int .i64 b.hy, .int .i64 b.hz])] w (Ret w (.bool r)) := by
  have HQ := Lib.hid hq
  clear hq
  have hsi := solid_iff.1 hs
  cases hv : validB b
  · rw [hv, Bool.false_and] at hr
    subst hr
    have HV := Lib.hid hv
    clear hv
    go_enter Tryz.func74, Tryz.ntmps74
    go_wp2_with fail
    go_at_call 12; refine (refValidB_v b _ HV.out _).mono ?_; rintro e w' ⟨rfl, x1, rfl⟩
    go_wp2
    go_ret
    exact Ret.of (by (repeat (first | exact grow_refl _ | refine grow_ext _ ?_ | refine grow_alloc _ ?_ | refine grow_drew ?_)))
  · rw [hv, Bool.true_and] at hr
    have HC := Lib.hid (fun w hl hm => refContains17_v q.l q.m q.u q.t b r hr (by omega) (by have := valid_iff.1 hv; unfold Ord; omega) w hl hm)
    have HV := Lib.hid hv
    clear hv hr hsi
    go_enter Tryz.func74, Tryz.ntmps74
    go_wp2_with fail
    go_at_call 12; refine (refValidB_v b _ HV.out _).mono ?_; rintro e w' ⟨rfl, x1, rfl⟩
    go_wp2_with fail
    go_at_call 105; refine (HC.out _ (HQ.out.boxes.below (by (repeat (first | exact grow_refl _ | refine grow_ext _ ?_ | refine grow_alloc _ ?_ | refine grow_drew ?_)))) (HQ.out.holes.below (by (repeat (first | exact grow_refl _ | refine grow_ext _ ?_ | refine grow_alloc _ ?_ | refine grow_drew ?_))))).mono ?_; rintro e w' ⟨rfl, x2, rfl⟩
    go_wp2
    go_ret
    exact Ret.of (by (repeat (first | exact grow_refl _ | refine grow_ext _ ?_ | refine grow_alloc _ ?_ | refine grow_drew ?_)))

set_option maxHeartbeats 1000000 in
theorem refCore_c (d : Int) (leg : Bx) (h : validB leg = true) (hd : sizeB d = true) (w : World) : Calls Tryz.prog 46 #[.int .i64 d, (.agg #[.int .i64 leg.lx, .int .i64 leg.ly, .int .i64 leg.lz, .int .i64 leg.hx, .int .i64 leg.hy, .int .i64 leg.hz])] w (Ret w (.agg #[.int .i64 (coreX d leg).lx, .int .i64 (coreX d leg).ly, .int .i64 (coreX d leg).lz, .int .i64 (coreX d leg).hx, .int .i64 (coreX d leg).hy, .int .i64 (coreX d leg).hz])) := by
  have h1 := halfD_in hd
  have h2 := size_iff.1 hd
  have hv := valid_iff.1 h
  have HR := Lib.hid (fun w => refRound_c d (by omega) w)
  have HA := Lib.hid (fun w => refAll18_c (halfI d) w)
  have HM := Lib.hid (fun w => refMade_c leg (onesX (halfI d)) (by unfold RangeX; omega) (by unfold RangeX onesX; simp only; omega) w)
  have e : madeX leg (onesX (halfI d)) = coreX d leg := rfl
  rw [e] at HM
  generalize coreX d leg = C at *
  simp only [onesX] at HA HM
  generalize halfI d = k at *
  clear h hd h2 hv e
  go_enter Tryz.func46, Tryz.ntmps46
  go_wp2_with fail
  refine wp_region_tail 5 (by kernel_rfl) (by kernel_rfl) ?_; simp only [List.take_succ_cons, List.take_zero, List.drop_succ_cons, List.drop_zero]
  repeat (go_big_quiet_step (first
    | (go_at_call 76; exact Calls.quiet_ext (HR.out _))
    | (go_at_call 47; exact Calls.quiet_ext (HA.out _))
    | (go_at_call 75; exact Calls.quiet_ext (HM.out _))))
  refine wpQuiet_nil ?_; rintro _ ⟨xq, rfl⟩
  go_wp2
  refine bodyPost_ret (v := (.agg #[.int .i64 C.lx, .int .i64 C.ly, .int .i64 C.lz, .int .i64 C.hx, .int .i64 C.hy, .int .i64 C.hz])) (by simp [results, Tryz.results46, go_sem]) rfl ?_
  exact Ret.of (by (repeat (first | exact grow_refl _ | refine grow_ext _ ?_ | refine grow_alloc _ ?_ | refine grow_drew ?_)))

end Go.Proofs.YtdldbdffaffjoaaGreat

namespace Go.Proofs.YtdldbdffaffjoaaGreat
open Go.RowKit
set_option maxRecDepth 20000

theorem BoxAt.shape {w : World} {b off : Nat} {x : Bx} (h : BoxAt w b off x) : w.cell? ⟨b, off, none⟩ = some (.int .i64 x.lx) ∧ w.cell? ⟨b, off + 1, none⟩ = some (.int .i64 x.ly) ∧ w.cell? ⟨b, off + 2, none⟩ = some (.int .i64 x.lz) ∧
  w.cell? ⟨b, off + 3, none⟩ = some (.int .i64 x.hx) ∧ w.cell? ⟨b, off + 4, none⟩ = some (.int .i64 x.hy) ∧ w.cell? ⟨b, off + 5, none⟩ = some (.int .i64 x.hz) := h

set_option maxRecDepth 100000 in
set_option maxHeartbeats 4000000 in
theorem refMost_c (q : Mb) (b y : Bx) (r : Int) (hr : topC (fun c => containsS q.l q.m (madeX b (timesX y c))) = r)
    (hd : ∀ a c : Nat, a ≤ c → containsS q.l q.m (madeX b (timesX y c)) = true → containsS q.l q.m (madeX b (timesX y a)) = true)
    (ho : ∀ c : Nat, Ordd (madeX b (timesX y c))) (hs : solidB q.l q.m = true) (hb : RangeX b (-1500000) 1500000) (hy : RangeX y 0 1) (w : World) (hq : MbAt w q) :
    Calls Tryz.prog 45 #[(.agg #[.string q.name, q.u, q.t, .int .i64 q.cover, .int .i64 q.agg, .int .i64 q.poker]), (.agg #[.int .i64 b.lx, .int .i64 b.ly, .int .i64 b.lz, .int .i64 b.hx, .int .i64 b.hy, .int .i64 b.hz]), (.agg #[.int .i64 y.lx, .int .i64 y.ly, .int .i64 y.lz, .int .i64 y.hx, .int .i64 y.hy, .int .i64 y.hz])] w (Ret w (.int .i64 r)) := by
  have hp : ∀ c : Nat, (validB (madeX b (timesX y c)) && containsS q.l q.m (madeX b (timesX y c))) = containsS q.l q.m (madeX b (timesX y c)) := fun c => held_ord hs (ho c)
  have H0 := Lib.hid (fun r (h : containsS q.l q.m b = r) w hq => refHeld_c q b r (by have := hp 0; rw [Int.ofNat_zero, made_zero] at this; rw [this, h]) hs w hq)
  have HH := Lib.hid (fun (c : Nat) w hq => refHeld_c q (madeX b (timesX y c)) _ (hp c) hs w hq)
  have HQ := Lib.hid hq
  have e0 : containsS q.l q.m (madeX b (timesX y (0 : Nat))) = containsS q.l q.m b := by rw [Int.ofNat_zero, made_zero]
  have HD := Lib.hid hd
  have HY := Lib.hid hy
  have HB := Lib.hid hb
  clear hq hp ho
  cases hn : containsS q.l q.m b
  · have HF := Lib.hid (H0.out _ hn)
    obtain rfl : -1 = r := by rw [← hr]; exact (topC_none hd (e0.trans hn)).symm
    clear hd hn e0 hr hy hb hs
    go_enter Tryz.func45, Tryz.ntmps45
    go_wp2_with fail
    go_at_call 74; refine (HF.out _ (HQ.out.below (by (repeat (first | exact grow_refl _ | refine grow_ext _ ?_ | refine grow_alloc _ ?_ | refine grow_drew ?_))))).mono ?_; rintro e w' ⟨rfl, x1, rfl⟩
    go_wp2
    go_ret
    exact Ret.of (by (repeat (first | exact grow_refl _ | refine grow_ext _ ?_ | refine grow_alloc _ ?_ | refine grow_drew ?_)))
  have HF := Lib.hid (H0.out _ hn)
  have HN := Lib.hid (e0.trans hn)
  have HR := Lib.hid hr
  clear hd hn e0 hr hy hb hs
  go_enter Tryz.func45, Tryz.ntmps45
  go_wp2_with fail
  go_at_call 74; refine (HF.out _ (HQ.out.below (by (repeat (first | exact grow_refl _ | refine grow_ext _ ?_ | refine grow_alloc _ ?_ | refine grow_drew ?_))))).mono ?_; rintro e w' ⟨rfl, x1, rfl⟩
  go_wp2_with fail
  refine world_mask (fun W => MbAt W q ∧ (∃ z, W = ext w z) ∧ MCells W w.heap.size q ∧ BoxAt W (w.heap.size + 1) 0 b ∧ BoxAt W (w.heap.size + 1 + 1) 0 y) _ ?_ ?_
  · exact ⟨HQ.out.below (by (repeat (first | exact grow_refl _ | refine grow_ext _ ?_ | refine grow_alloc _ ?_ | refine grow_drew ?_))), ext_of (by (repeat (first | exact grow_refl _ | refine grow_ext _ ?_ | refine grow_alloc _ ?_ | refine grow_drew ?_))), by simp [MCells, go_sem], by simp [BoxAt, go_sem], by simp [BoxAt, go_sem]⟩
  rintro W1 ⟨hq1, hbe, hm1, hb1, hy1⟩
  have HQ1 := Lib.hid hq1
  have HBE := Lib.hid hbe
  have HM1 := Lib.hid hm1
  have HB1 := Lib.hid hb1
  have HY1 := Lib.hid hy1
  clear hq1 hbe hm1 hb1 hy1
  go_loopw [7, 8] (fun i j wr => ∃ lo hi : Nat, lo ≤ hi ∧ hi ≤ 2097152 ∧ i = .int .i64 lo ∧ j = .int .i64 hi ∧ containsS q.l q.m (madeX b (timesX y lo)) = true ∧ (∀ k : Nat, hi < k → k < 2097153 → containsS q.l q.m (madeX b (timesX y k)) = false) ∧ ∃ x, wr = ext W1 x) (fun i j _ => (intOf j).toNat - (intOf i).toNat)
  case atStart => exact ⟨0, 2097152, by decide, by decide, rfl, rfl, HN.out, fun k h1 h2 => by omega, ext_of (Below.refl _ _)⟩
  case round =>
    obtain ⟨lo, hi, k1, k2, rfl, rfl, hlo, hhi, x, rfl⟩ := hrel
    have HLO := Lib.hid hlo
    have HHI := Lib.hid hhi
    clear hlo hhi
    obtain ⟨m0, m1, m2, m3, m4, m5⟩ := HM1.out.ext x
    obtain ⟨c0, c1, c2, c3, c4, c5⟩ := BoxAt.shape (HB1.out.ext x)
    obtain ⟨y0, y1, y2, y3, y4, y5⟩ := BoxAt.shape (HY1.out.ext x)
    simp only [Nat.zero_add] at c1 c2 c3 c4 c5 y1 y2 y3 y4 y5
    by_cases hlt : lo < hi
    · have e1 : Int.tdiv ((lo : Int) + (hi : Int) + 1) 2 = ((lo : Int) + (hi : Int) + 1) / 2 := Int.tdiv_eq_ediv_of_nonneg (by omega)
      go_upto_region 6 with fail
      obtain ⟨c, hc⟩ : ∃ c : Nat, ((lo : Int) + (hi : Int) + 1) / 2 = c := ⟨(lo + hi + 1) / 2, by omega⟩
      have c6 : lo < c := by omega
      have c7 : c ≤ hi := by omega
      rw [hc]
      clear hc e1
      obtain ⟨t1, t2, t3, t4, t5, t6⟩ := RangeX.times HY.out (c := (c : Int)) (by omega)
      have hM := Lib.hid (refMade_c b (timesX y c) (by have := HB.out; unfold RangeX at *; omega) (by have := RangeX.times HY.out (c := (c : Int)) (by omega); unfold RangeX at *; omega))
      have hH := Lib.hid (fun w hq => HH.out c w hq)
      obtain ⟨p, hp⟩ : ∃ p, containsS q.l q.m (madeX b (timesX y c)) = p := ⟨_, rfl⟩
      rw [hp] at hH
      have HP := Lib.hid hp
      clear hp
      obtain ⟨B, hB⟩ : ∃ B, madeX b (timesX y c) = B := ⟨_, rfl⟩
      rw [hB] at hM hH
      clear hB
      simp only [timesX] at t1 t2 t3 t4 t5 t6 hM
      have v0 : wrap64 (y.lx * (c : Int)) = y.lx * (c : Int) := IntWalk.wrap64_in _ (by omega)
      have v1 : wrap64 (y.ly * (c : Int)) = y.ly * (c : Int) := IntWalk.wrap64_in _ (by omega)
      have v2 : wrap64 (y.lz * (c : Int)) = y.lz * (c : Int) := IntWalk.wrap64_in _ (by omega)
      have v3 : wrap64 (y.hx * (c : Int)) = y.hx * (c : Int) := IntWalk.wrap64_in _ (by omega)
      have v4 : wrap64 (y.hy * (c : Int)) = y.hy * (c : Int) := IntWalk.wrap64_in _ (by omega)
      have v5 : wrap64 (y.hz * (c : Int)) = y.hz * (c : Int) := IntWalk.wrap64_in _ (by omega)
      clear t1 t2 t3 t4 t5 t6
      go_wp2_with fail
      refine wp_loop_rounds 7 ?_
      rw [rounds_succ]
      go_wp2_with fail
      rw [rounds_succ]
      go_wp2_with fail
      rw [rounds_succ]
      go_wp2_with fail
      rw [rounds_succ]
      go_wp2_with fail
      rw [rounds_succ]
      go_wp2_with fail
      rw [rounds_succ]
      go_wp2_with fail
      rw [rounds_succ]
      go_wp2_with fail
      clear v0 v1 v2 v3 v4 v5
      refine wp_region_grows (by kernel_rfl) (by kernel_rfl) ?_
      repeat (go_big_quiet_step (first
        | (go_at_call 75; exact Calls.quiet_ext (hM.out _))
        | (go_at_call 74; exact Calls.quiet_ext (hH.out _ (HQ1.out.below (by (repeat (first | exact grow_refl _ | refine grow_ext _ ?_ | refine grow_alloc _ ?_ | refine grow_drew ?_))))))))
      refine wpQuiet_nil ?_; rintro _ ⟨xq, rfl⟩
      cases p
      · go_wp2
        go_roundw
        case rel => exact ⟨lo, c - 1, by omega, by omega, rfl, by rw [Int.natCast_sub (by omega)]; rfl, HLO.out, fun k h1 h2 => by
          cases hk : containsS q.l q.m (madeX b (timesX y k))
          · rfl
          · have := HD.out c k (by omega) hk
            rw [HP.out] at this
            exact absurd this Bool.false_ne_true, ext_of (by (repeat (first | exact grow_refl _ | refine grow_ext _ ?_ | refine grow_alloc _ ?_ | refine grow_drew ?_)))⟩
        case measure => simp [intOf]; omega
      · go_wp2
        go_roundw
        case rel => exact ⟨c, hi, by omega, by omega, rfl, rfl, HP.out, HHI.out, ext_of (by (repeat (first | exact grow_refl _ | refine grow_ext _ ?_ | refine grow_alloc _ ?_ | refine grow_drew ?_)))⟩
        case measure => simp [intOf]; omega
    · obtain rfl : lo = hi := by omega
      have hrr : (lo : Int) = r := by
        rw [← HR.out]
        unfold topC
        rw [topN_of (k := lo + 1) (by omega) (fun _ => by simpa using HLO.out) (fun j h1 h2 => HHI.out j (by omega) h2)]
        omega
      subst hrr
      go_wp2
      go_ret
      obtain ⟨z, rfl⟩ := HBE.out
      exact Ret.of (by (repeat (first | exact grow_refl _ | refine grow_ext _ ?_ | refine grow_alloc _ ?_ | refine grow_drew ?_)))

end Go.Proofs.YtdldbdffaffjoaaGreat

namespace Go.Proofs.YtdldbdffaffjoaaGreat
open Go.RowKit
set_option maxRecDepth 20000

theorem made_ones (b : Bx) (c : Int) : madeX b (timesX (onesX 1) c) = grownX b c := by simp only [madeX, timesX, onesX, grownX, Int.one_mul]
theorem core_range {d : Int} {leg : Bx} (h : validB leg = true) (hd : sizeB d = true) : RangeX (coreX d leg) (-1500000) 1500000 := by
  have h1 := halfD_in hd
  have h2 := valid_iff.1 h
  unfold RangeX coreX; simp only [grownX]; omega

set_option maxRecDepth 100000 in
set_option maxHeartbeats 1000000 in
theorem refOf_c (q : Mb) (d : Int) (leg : Bx) (r : Int) (hr : coverC q.l q.m (coreX d leg) = r) (hs : solidB q.l q.m = true) (h : validB leg = true) (hd : sizeB d = true) (w : World) (hq : MbAt w q) :
    Calls Tryz.prog 14 #[(.agg #[.string q.name, q.u, q.t, .int .i64 q.cover, .int .i64 q.agg, .int .i64 q.poker]), .int .i64 d, (.agg #[.int .i64 leg.lx, .int .i64 leg.ly, .int .i64 leg.lz, .int .i64 leg.hx, .int .i64 leg.hy, .int .i64 leg.hz])] w (Ret w (.int .i64 r)) := by
  have HC := Lib.hid (fun w => refCore_c d leg h hd w)
  have HA := Lib.hid (fun w => refAll18_c 1 w)
  have ho := core_ord h hd
  have HM := Lib.hid (fun w hq => refMost_c q (coreX d leg) (onesX 1) r (by simp only [made_ones]; exact hr) (fun a c hac => by rw [made_ones, made_ones]; exact cover_down ho a c hac) (fun c => by rw [made_ones]; exact (grown_le ho (Nat.le_refl c)).1) hs (core_range h hd) (by unfold RangeX onesX; simp only; omega) w hq)
  have HQ := Lib.hid hq
  simp only [onesX] at HA HM
  generalize coreX d leg = C at *
  clear hq hr hs h hd ho
  go_enter Tryz.func14, Tryz.ntmps14
  go_wp2_with fail
  refine wp_region_grows (by kernel_rfl) (by kernel_rfl) ?_
  repeat (go_big_quiet_step (first
    | (go_at_call 46; exact Calls.quiet_ext (HC.out _))
    | (go_at_call 47; exact Calls.quiet_ext (HA.out _))
    | (go_at_call 45; exact Calls.quiet_ext (HM.out _ (HQ.out.below (by (repeat (first | exact grow_refl _ | refine grow_ext _ ?_ | refine grow_alloc _ ?_ | refine grow_drew ?_))))))))
  refine wpQuiet_nil ?_; rintro _ ⟨xq, rfl⟩
  go_wp2
  go_ret
  exact Ret.of (by (repeat (first | exact grow_refl _ | refine grow_ext _ ?_ | refine grow_alloc _ ?_ | refine grow_drew ?_)))

def unitX (i : Nat) : Bx := ⟨if i = 0 then 1 else 0, if i = 1 then 1 else 0, if i = 2 then 1 else 0, if i = 3 then 1 else 0, if i = 4 then 1 else 0, if i = 5 then 1 else 0⟩
theorem made_unit (b : Bx) (i : Nat) (hi : i < 6) (c : Int) : madeX b (timesX (unitX i) c) = sideX b i c := by
  rcases (show i = 0 ∨ i = 1 ∨ i = 2 ∨ i = 3 ∨ i = 4 ∨ i = 5 by omega) with rfl | rfl | rfl | rfl | rfl | rfl
  all_goals simp [madeX, timesX, unitX, sideX]
theorem refMostU_c (q : Mb) (C : Bx) (i : Nat) (hi : i < 6) (r : Int) (hr : sideC q.l q.m C i = r) (hs : solidB q.l q.m = true) (ho : Ordd C) (hc : RangeX C (-1500000) 1500000) (w : World) (hq : MbAt w q) :
    Calls Tryz.prog 45 #[(.agg #[.string q.name, q.u, q.t, .int .i64 q.cover, .int .i64 q.agg, .int .i64 q.poker]), (.agg #[.int .i64 C.lx, .int .i64 C.ly, .int .i64 C.lz, .int .i64 C.hx, .int .i64 C.hy, .int .i64 C.hz]), (.agg #[.int .i64 (unitX i).lx, .int .i64 (unitX i).ly, .int .i64 (unitX i).lz, .int .i64 (unitX i).hx, .int .i64 (unitX i).hy, .int .i64 (unitX i).hz])] w (Ret w (.int .i64 r)) :=
  refMost_c q C (unitX i) r (by simp only [made_unit _ i hi]; exact hr) (fun a c hac => by rw [made_unit _ i hi, made_unit _ i hi]; exact side_down ho i a c hac) (fun c => by rw [made_unit _ i hi]; exact (side_le ho i (Nat.le_refl c)).1) hs hc (by unfold RangeX unitX; simp only; omega) w hq

set_option maxRecDepth 100000 in
set_option maxHeartbeats 4000000 in
theorem refSides_c (q : Mb) (d : Int) (leg : Bx) (s0 s1 s2 s3 s4 s5 : Int) (hs : solidB q.l q.m = true) (h : validB leg = true) (hd : sizeB d = true)
    (e0 : sideC q.l q.m (coreX d leg) 0 = s0) (e1 : sideC q.l q.m (coreX d leg) 1 = s1) (e2 : sideC q.l q.m (coreX d leg) 2 = s2) (e3 : sideC q.l q.m (coreX d leg) 3 = s3) (e4 : sideC q.l q.m (coreX d leg) 4 = s4) (e5 : sideC q.l q.m (coreX d leg) 5 = s5) (w : World) (hq : MbAt w q) :
    Calls Tryz.prog 15 #[(.agg #[.string q.name, q.u, q.t, .int .i64 q.cover, .int .i64 q.agg, .int .i64 q.poker]), .int .i64 d, (.agg #[.int .i64 leg.lx, .int .i64 leg.ly, .int .i64 leg.lz, .int .i64 leg.hx, .int .i64 leg.hy, .int .i64 leg.hz])] w (Ret w (.agg #[.int .i64 s0, .int .i64 s1, .int .i64 s2, .int .i64 s3, .int .i64 s4, .int .i64 s5])) := by
  have HC := Lib.hid (fun w => refCore_c d leg h hd w)
  have ho := core_ord h hd
  have hc := core_range h hd
  have HQ := Lib.hid hq
  have G0 := Lib.hid (fun w hq => refMostU_c q _ 0 (by decide) s0 e0 hs ho hc w hq)
  have G1 := Lib.hid (fun w hq => refMostU_c q _ 1 (by decide) s1 e1 hs ho hc w hq)
  have G2 := Lib.hid (fun w hq => refMostU_c q _ 2 (by decide) s2 e2 hs ho hc w hq)
  have G3 := Lib.hid (fun w hq => refMostU_c q _ 3 (by decide) s3 e3 hs ho hc w hq)
  have G4 := Lib.hid (fun w hq => refMostU_c q _ 4 (by decide) s4 e4 hs ho hc w hq)
  have G5 := Lib.hid (fun w hq => refMostU_c q _ 5 (by decide) s5 e5 hs ho hc w hq)
  simp only [unitX, Nat.reduceEqDiff, if_true, if_false, Nat.zero_ne_one, Nat.one_ne_zero] at G0 G1 G2 G3 G4 G5
  generalize coreX d leg = C at *
  clear hq e0 e1 e2 e3 e4 e5 hs h hd ho hc
  go_enter Tryz.func15, Tryz.ntmps15
  go_wp2_with fail
  refine wp_loop_rounds 7 ?_
  rw [rounds_succ]
  go_wp2_with fail
  refine wp_region_tail 8 (by kernel_rfl) (by kernel_rfl) ?_; simp only [List.take_succ_cons, List.take_zero, List.drop_succ_cons, List.drop_zero]
  repeat (go_big_quiet_step (first | (go_at_call 46; exact Calls.quiet_ext (HC.out _)) | (go_at_call 45; exact Calls.quiet_ext (G0.out _ (HQ.out.below (by (repeat (first | exact grow_refl _ | refine grow_ext _ ?_ | refine grow_alloc _ ?_ | refine grow_drew ?_))))))))
  refine wpQuiet_nil ?_; rintro _ ⟨xq, rfl⟩
  go_wp2_with fail
  rw [rounds_succ]
  go_wp2_with fail
  refine wp_region_tail 8 (by kernel_rfl) (by kernel_rfl) ?_; simp only [List.take_succ_cons, List.take_zero, List.drop_succ_cons, List.drop_zero]
  repeat (go_big_quiet_step (first | (go_at_call 46; exact Calls.quiet_ext (HC.out _)) | (go_at_call 45; exact Calls.quiet_ext (G1.out _ (HQ.out.below (by (repeat (first | exact grow_refl _ | refine grow_ext _ ?_ | refine grow_alloc _ ?_ | refine grow_drew ?_))))))))
  refine wpQuiet_nil ?_; rintro _ ⟨xq, rfl⟩
  go_wp2_with fail
  rw [rounds_succ]
  go_wp2_with fail
  refine wp_region_tail 8 (by kernel_rfl) (by kernel_rfl) ?_; simp only [List.take_succ_cons, List.take_zero, List.drop_succ_cons, List.drop_zero]
  repeat (go_big_quiet_step (first | (go_at_call 46; exact Calls.quiet_ext (HC.out _)) | (go_at_call 45; exact Calls.quiet_ext (G2.out _ (HQ.out.below (by (repeat (first | exact grow_refl _ | refine grow_ext _ ?_ | refine grow_alloc _ ?_ | refine grow_drew ?_))))))))
  refine wpQuiet_nil ?_; rintro _ ⟨xq, rfl⟩
  go_wp2_with fail
  rw [rounds_succ]
  go_wp2_with fail
  refine wp_region_tail 8 (by kernel_rfl) (by kernel_rfl) ?_; simp only [List.take_succ_cons, List.take_zero, List.drop_succ_cons, List.drop_zero]
  repeat (go_big_quiet_step (first | (go_at_call 46; exact Calls.quiet_ext (HC.out _)) | (go_at_call 45; exact Calls.quiet_ext (G3.out _ (HQ.out.below (by (repeat (first | exact grow_refl _ | refine grow_ext _ ?_ | refine grow_alloc _ ?_ | refine grow_drew ?_))))))))
  refine wpQuiet_nil ?_; rintro _ ⟨xq, rfl⟩
  go_wp2_with fail
  rw [rounds_succ]
  go_wp2_with fail
  refine wp_region_tail 8 (by kernel_rfl) (by kernel_rfl) ?_; simp only [List.take_succ_cons, List.take_zero, List.drop_succ_cons, List.drop_zero]
  repeat (go_big_quiet_step (first | (go_at_call 46; exact Calls.quiet_ext (HC.out _)) | (go_at_call 45; exact Calls.quiet_ext (G4.out _ (HQ.out.below (by (repeat (first | exact grow_refl _ | refine grow_ext _ ?_ | refine grow_alloc _ ?_ | refine grow_drew ?_))))))))
  refine wpQuiet_nil ?_; rintro _ ⟨xq, rfl⟩
  go_wp2_with fail
  rw [rounds_succ]
  go_wp2_with fail
  refine wp_region_tail 8 (by kernel_rfl) (by kernel_rfl) ?_; simp only [List.take_succ_cons, List.take_zero, List.drop_succ_cons, List.drop_zero]
  repeat (go_big_quiet_step (first | (go_at_call 46; exact Calls.quiet_ext (HC.out _)) | (go_at_call 45; exact Calls.quiet_ext (G5.out _ (HQ.out.below (by (repeat (first | exact grow_refl _ | refine grow_ext _ ?_ | refine grow_alloc _ ?_ | refine grow_drew ?_))))))))
  refine wpQuiet_nil ?_; rintro _ ⟨xq, rfl⟩
  go_wp2_with fail
  rw [rounds_succ]
  go_wp2
  refine bodyPost_ret (v := .agg #[.int .i64 s0, .int .i64 s1, .int .i64 s2, .int .i64 s3, .int .i64 s4, .int .i64 s5]) (by simp [results, Tryz.results15, go_sem]) rfl ?_
  exact Ret.of (by (repeat (first | exact grow_refl _ | refine grow_ext _ ?_ | refine grow_alloc _ ?_ | refine grow_drew ?_)))

end Go.Proofs.YtdldbdffaffjoaaGreat

