/- Cores of legs; what the concrete of a member holds; the greatest number with which it holds a box. -/
import Derived.Test.YtdldbdffaffjoaaCovA
import Derived.Test.YtdldbdffaffjoaaSearch
import Derived.Test.YtdldbdffaffjoaaSolB
import Derived.Test.YtdldbdffaffjoaaPlainK
import Derived.Test.YtdldbdffaffjoaaMb
namespace Go.Proofs.Ytdldbdffaffjoaa
open Go.RowKit

def coreR (d : Int) (leg : Bx) : Bx × Bool := if sizeB d = true then ((grownR leg ((d + 1) / 2)).1, (grownR leg ((d + 1) / 2)).2 == 0) else (zeroX, false)
set_option maxHeartbeats 1000000 in
theorem core_c (d : Int) (leg : Bx) (w : World) : Calls Try.prog 21 #[.int .i64 d, (.agg #[.int .i64 leg.lx, .int .i64 leg.ly, .int .i64 leg.lz, .int .i64 leg.hx, .int .i64 leg.hy, .int .i64 leg.hz])] w (Ret w (.tuple #[(.agg #[.int .i64 (coreR d leg).1.lx, .int .i64 (coreR d leg).1.ly, .int .i64 (coreR d leg).1.lz, .int .i64 (coreR d leg).1.hx, .int .i64 (coreR d leg).1.hy, .int .i64 (coreR d leg).1.hz]), .bool (coreR d leg).2])) := by
  have HR := Lib.hid (fun w => Round_c d w)
  unfold coreR roundR at *
  cases h : sizeB d
  · rw [h] at HR
    simp only [Bool.false_eq_true, if_false] at HR ⊢
    go_enter Try.func21, Try.ntmps21
    go_wp2_with fail
    go_at_call 13; refine (HR.out _).mono ?_; rintro e w' ⟨rfl, x1, rfl⟩
    go_wp2
    refine bodyPost_ret (v := .tuple #[(.agg #[.int .i64 zeroX.lx, .int .i64 zeroX.ly, .int .i64 zeroX.lz, .int .i64 zeroX.hx, .int .i64 zeroX.hy, .int .i64 zeroX.hz]), .bool false]) (by simp [results, Try.results21, go_sem, zeroX]) rfl ?_
    exact Ret.of (by (repeat (first | exact grow_refl _ | refine grow_ext _ ?_ | refine grow_alloc _ ?_ | refine grow_drew ?_)))
  · rw [h] at HR
    simp only [if_true] at HR ⊢
    have HG := Lib.hid (fun w => Grown_c leg ((d + 1) / 2) w)
    generalize (grownR leg ((d + 1) / 2)).1 = G at *
    generalize (grownR leg ((d + 1) / 2)).2 = E at *
    generalize (d + 1) / 2 = r at *
    go_enter Try.func21, Try.ntmps21
    go_wp2_with fail
    go_at_call 13; refine (HR.out _).mono ?_; rintro e w' ⟨rfl, x1, rfl⟩
    go_wp2_with fail
    go_at_call 27; refine (HG.out _).mono ?_; rintro e w' ⟨rfl, x2, rfl⟩
    go_wp2
    refine bodyPost_ret (v := .tuple #[(.agg #[.int .i64 G.lx, .int .i64 G.ly, .int .i64 G.lz, .int .i64 G.hx, .int .i64 G.hy, .int .i64 G.hz]), .bool (E == 0)]) (by simp [results, Try.results21, go_sem]) rfl ?_
    exact Ret.of (by (repeat (first | exact grow_refl _ | refine grow_ext _ ?_ | refine grow_alloc _ ?_ | refine grow_drew ?_)))

set_option maxHeartbeats 1000000 in
theorem held_c (q : Mb) (b : Bx) (r : Bool) (hr : (validB b && containsS q.l q.m b) = r) (hs : solidB q.l q.m = true) (w : World) (hq : MbAt w q) :
    Calls Try.prog 22 #[(.agg #[.string q.name, q.u, q.t, .int .i64 q.cover, .int .i64 q.agg, .int .i64 q.poker]), (.agg #[.int .i64 b.lx, .int .i64 b.ly, .int .i64 b.lz, .int .i64 b.hx, .int .i64 b.hy, .int .i64 b.hz])] w (Ret w (.bool r)) := by
  have HQ := Lib.hid hq
  clear hq
  cases hv : validB b
  · rw [hv, Bool.false_and] at hr
    subst hr
    have HV := Lib.hid hv
    clear hv
    go_enter Try.func22, Try.ntmps22
    go_wp2_with fail
    go_at_call 31; refine (valid_v b _ HV.out _).mono ?_; rintro e w' ⟨rfl, x1, rfl⟩
    go_wp2
    go_ret
    exact Ret.of (by (repeat (first | exact grow_refl _ | refine grow_ext _ ?_ | refine grow_alloc _ ?_ | refine grow_drew ?_)))
  · rw [hv, Bool.true_and] at hr
    have HC := Lib.hid (fun w hl hm => solidContains_v q.l q.m q.u q.t b (r, 0) (by unfold containsR17; rw [if_pos ⟨hs, hv⟩, hr]) w hl hm)
    have HV := Lib.hid hv
    clear hv hr
    go_enter Try.func22, Try.ntmps22
    go_wp2_with fail
    go_at_call 31; refine (valid_v b _ HV.out _).mono ?_; rintro e w' ⟨rfl, x1, rfl⟩
    go_wp2_with fail
    go_at_call 28; refine (HC.out _ (HQ.out.boxes.below (by (repeat (first | exact grow_refl _ | refine grow_ext _ ?_ | refine grow_alloc _ ?_ | refine grow_drew ?_)))) (HQ.out.holes.below (by (repeat (first | exact grow_refl _ | refine grow_ext _ ?_ | refine grow_alloc _ ?_ | refine grow_drew ?_))))).mono ?_; rintro e w' ⟨rfl, x2, rfl⟩
    cases r
    all_goals
      go_wp2
      go_ret
      exact Ret.of (by (repeat (first | exact grow_refl _ | refine grow_ext _ ?_ | refine grow_alloc _ ?_ | refine grow_drew ?_)))

theorem coverAll_c (b : Bx) (c : Int) (hb : validB b = true) (hc : 0 ≤ c ∧ c ≤ 2097152) (w : World) : Calls Try.prog 34 #[(.agg #[.int .i64 b.lx, .int .i64 b.ly, .int .i64 b.lz, .int .i64 b.hx, .int .i64 b.hy, .int .i64 b.hz]), .int .i64 c] w (Ret w (.agg #[.int .i64 (grownX b c).lx, .int .i64 (grownX b c).ly, .int .i64 (grownX b c).lz, .int .i64 (grownX b c).hx, .int .i64 (grownX b c).hy, .int .i64 (grownX b c).hz])) := by
  have hv := valid_iff.1 hb
  clear hb
  go_enter Try.func34, Try.ntmps34
  go_wp2
  refine bodyPost_ret (v := (.agg #[.int .i64 (grownX b c).lx, .int .i64 (grownX b c).ly, .int .i64 (grownX b c).lz, .int .i64 (grownX b c).hx, .int .i64 (grownX b c).hy, .int .i64 (grownX b c).hz])) (by simp [results, Try.results34, go_sem, grownX]) rfl ?_
  exact Ret.of (by (repeat (first | exact grow_refl _ | refine grow_ext _ ?_ | refine grow_alloc _ ?_ | refine grow_drew ?_)))

theorem ofOne_c (b : Bx) (c : Int) (hb : validB b = true) (hc : 0 ≤ c ∧ c ≤ 2097152) (g : Nat) (w : World) (hg : BoxAt w g 0 b) : Calls Try.prog 33 #[.int .i64 c, .pointer (some ⟨g, 0, none⟩)] w (Ret w (.agg #[.int .i64 (grownX b c).lx, .int .i64 (grownX b c).ly, .int .i64 (grownX b c).lz, .int .i64 (grownX b c).hx, .int .i64 (grownX b c).hy, .int .i64 (grownX b c).hz])) := by
  obtain ⟨g0, g1, g2, g3, g4, g5⟩ := hg
  have HA := Lib.hid (fun w => coverAll_c b c hb hc w)
  go_enter Try.func33, Try.ntmps33
  go_wp2_with fail
  go_at_call 34; refine (HA.out _).mono ?_; rintro e w' ⟨rfl, x1, rfl⟩
  go_wp2
  refine bodyPost_ret (v := (.agg #[.int .i64 (grownX b c).lx, .int .i64 (grownX b c).ly, .int .i64 (grownX b c).lz, .int .i64 (grownX b c).hx, .int .i64 (grownX b c).hy, .int .i64 (grownX b c).hz])) (by simp [results, Try.results33, go_sem]) rfl ?_
  exact Ret.of (by (repeat (first | exact grow_refl _ | refine grow_ext _ ?_ | refine grow_alloc _ ?_ | refine grow_drew ?_)))
theorem enters_ofOne : Enters 33 := enters_of Try.func33 (by decide) (by simp [Try.f33])

set_option maxRecDepth 100000 in
set_option maxHeartbeats 1000000 in
theorem sidesOne_c (b : Bx) (i : Nat) (c : Int) (hb : validB b = true) (hi : i < 6) (hc : 0 ≤ c ∧ c ≤ 2097152) (g k : Nat) (w : World) (hg : BoxAt w g 0 b) (hk : w.cell? ⟨k, 0, none⟩ = some (.int .i64 i)) :
    Calls Try.prog 24 #[.int .i64 c, .pointer (some ⟨g, 0, none⟩), .pointer (some ⟨k, 0, none⟩)] w (Ret w (.agg #[.int .i64 (sideX b i c).lx, .int .i64 (sideX b i c).ly, .int .i64 (sideX b i c).lz, .int .i64 (sideX b i c).hx, .int .i64 (sideX b i c).hy, .int .i64 (sideX b i c).hz])) := by
  obtain ⟨g0, g1, g2, g3, g4, g5⟩ := hg
  have hv := valid_iff.1 hb
  clear hb
  obtain ⟨n, hn⟩ : ∃ n, sideX b i c = sideX b n c ∧ n = i := ⟨_, rfl, rfl⟩
  rw [hn.1]
  have HN := Lib.hid hn.2
  clear hn
  rcases (show i = 0 ∨ i = 1 ∨ i = 2 ∨ i = 3 ∨ i = 4 ∨ i = 5 by omega) with rfl | rfl | rfl | rfl | rfl | rfl
  all_goals
    simp only [Int.ofNat_zero, Int.ofNat_one, Int.cast_ofNat_Int] at hk
    go_enter Try.func24, Try.ntmps24
    go_wp2_with fail
    go_region
    go_wp2
    refine bodyPost_ret (v := (.agg #[.int .i64 (sideX b n c).lx, .int .i64 (sideX b n c).ly, .int .i64 (sideX b n c).lz, .int .i64 (sideX b n c).hx, .int .i64 (sideX b n c).hy, .int .i64 (sideX b n c).hz])) (by simp [results, Try.results24, go_sem, sideX, HN.out, Int.sub_eq_add_neg]) rfl ?_
    exact Ret.of (by (repeat (first | exact grow_refl _ | refine grow_ext _ ?_ | refine grow_alloc _ ?_ | refine grow_drew ?_)))
theorem enters_sidesOne : Enters 24 := enters_of Try.func24 (by decide) (by simp [Try.f24])

end Go.Proofs.Ytdldbdffaffjoaa
