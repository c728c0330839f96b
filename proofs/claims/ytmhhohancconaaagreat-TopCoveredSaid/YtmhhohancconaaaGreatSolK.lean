/- SolA, SolB, SolC in one text. -/
import Derived.Test.YtmhhohancconaaaGreatPlainK0
import Derived.Test.YtmhhohancconaaaGreatRefK
import Derived.Test.YtmhhohancconaaaGreatBaseK
import Derived.Lib.AppendZeros
import Derived.Laws.OwnMore
namespace Go.Proofs.YtmhhohancconaaaGreat
open Go.RowKit
set_option maxRecDepth 20000

theorem thick_val {b : Bx} (h : validB b = true) : thickB b = decide (b.lx < b.hx ∧ b.ly < b.hy ∧ b.lz < b.hz) := by unfold thickB; rw [h]; rfl

set_option maxHeartbeats 1000000 in
theorem thick_c (b : Bx) (w : World) : Calls Tryz.prog 56 #[(.agg #[.int .i64 b.lx, .int .i64 b.ly, .int .i64 b.lz, .int .i64 b.hx, .int .i64 b.hy, .int .i64 b.hz])] w (Ret w (.bool (thickB b))) := by
  cases hv : validB b
  · have HR := Lib.hid (show thickB b = false by unfold thickB; rw [hv]; rfl)
    have HV := Lib.hid hv
    clear hv
    go_enter Tryz.func56, Tryz.ntmps56
    go_wp2_with fail
    go_at_call 34; refine (valid_v b _ HV.out _).mono ?_; rintro e w' ⟨rfl, x1, rfl⟩
    go_wp2
    go_ret
    rw [HR.out]
    exact Ret.of (by (repeat (first | exact grow_refl _ | refine grow_ext _ ?_ | refine grow_alloc _ ?_ | refine grow_drew ?_)))
  · have HR := Lib.hid (thick_val hv)
    have HV := Lib.hid hv
    clear hv
    go_enter Tryz.func56, Tryz.ntmps56
    go_wp2_with fail
    go_at_call 34; refine (valid_v b _ HV.out _).mono ?_; rintro e w' ⟨rfl, x1, rfl⟩
    go_wp2
    all_goals
      go_ret
      rw [HR.out]
      exact Ret.bool (by first | (simp [*]; done) | (simp; omega)) (by (repeat (first | exact grow_refl _ | refine grow_ext _ ?_ | refine grow_alloc _ ?_ | refine grow_drew ?_)))
theorem thick_v (b : Bx) (r : Bool) (h : thickB b = r) (w : World) : Calls Tryz.prog 56 #[(.agg #[.int .i64 b.lx, .int .i64 b.ly, .int .i64 b.lz, .int .i64 b.hx, .int .i64 b.hy, .int .i64 b.hz])] w (Ret w (.bool r)) := by subst h; exact thick_c b w

set_option maxHeartbeats 1000000 in
theorem valid1_c (b : Bx) (w : World) : Calls Tryz.prog 55 #[(.agg #[.int .i64 b.lx, .int .i64 b.ly, .int .i64 b.lz, .int .i64 b.hx, .int .i64 b.hy, .int .i64 b.hz])] w (Ret w (.bool (!thickB b))) := by
  go_enter Tryz.func55, Tryz.ntmps55
  go_wp2_with fail
  go_at_call 56; refine (thick_c b _).mono ?_; rintro e w' ⟨rfl, x1, rfl⟩
  go_wp2
  go_ret
  exact Ret.of (by (repeat (first | exact grow_refl _ | refine grow_ext _ ?_ | refine grow_alloc _ ?_ | refine grow_drew ?_)))
theorem enters_valid1 : Enters 55 := enters_of Tryz.func55 (by decide) (by simp [Tryz.f55])

set_option maxHeartbeats 2000000 in
theorem opens_c (h b : Bx) (w : World) : Calls Tryz.prog 60 #[(.agg #[.int .i64 h.lx, .int .i64 h.ly, .int .i64 h.lz, .int .i64 h.hx, .int .i64 h.hy, .int .i64 h.hz]), (.agg #[.int .i64 b.lx, .int .i64 b.ly, .int .i64 b.lz, .int .i64 b.hx, .int .i64 b.hy, .int .i64 b.hz])] w (Ret w (.bool (opensB h b))) := by
  go_enter Tryz.func60, Tryz.ntmps60
  go_wp2
  all_goals
    go_ret
    exact Ret.bool (by unfold opensB; first | (simp [*]; done) | (simp; omega)) (by (repeat (first | exact grow_refl _ | refine grow_ext _ ?_ | refine grow_alloc _ ?_ | refine grow_drew ?_)))

theorem any_thin (l : List Bx) : (l.any fun b => !thickB b) = !l.all thickB := by
  induction l with
  | nil => rfl
  | cons a l ih => rw [List.any_cons, List.all_cons, ih, Bool.not_and]
theorem thin_c (l : List Bx) (v : Value) (w : World) (hl : Boxes w v l) :
    Calls Tryz.prog 57 #[v, .func (.func 55) #[] #[]] w (Ret w (.bool (!l.all thickB))) := by
  rw [← any_thin]
  exact containsFunc_c 55 enters_valid1 #[] (fun b => !thickB b) l v w hl (fun b x _ => valid1_c b _)

set_option maxHeartbeats 2000000 in
theorem solidValid_c (l m : List Bx) (u t : Value) (w : World) (hl : Boxes w u l) (hm : Boxes w t m) : Calls Tryz.prog 33 #[.agg #[u, t]] w (Ret w (.bool (solidB l m))) := by
  obtain ⟨a, cap, rfl, hcap, hcap2, _⟩ := hl.shape
  obtain ⟨a', cap', rfl, hcap', hcap2', _⟩ := hm.shape
  have HL := Lib.hid hl
  have HM := Lib.hid hm
  clear hl hm
  by_cases h1 : 1 ≤ l.length ∧ l.length ≤ 20 ∧ m.length ≤ 20
  · obtain ⟨h1, h2, h3⟩ := h1
    have d1 : decide ((1 : Int) ≤ (l.length : Int)) = true := by simp; omega
    have d2 : decide ((l.length : Int) ≤ 20) = true := by simp; omega
    have d3 : decide ((m.length : Int) ≤ 20) = true := by simp; omega
    have HR := Lib.hid (show solidB l m = (l.all thickB && m.all thickB) by unfold solidB; simp [h1, h2, h3])
    have HA := Lib.hid (fun w hl => thin_c l (.slice a l.length cap) w hl)
    have HB := Lib.hid (fun w hm => thin_c m (.slice a' m.length cap') w hm)
    clear h1 h2 h3
    generalize l.all thickB = p at *
    generalize m.all thickB = q at *
    cases p
    · go_enter Tryz.func33, Tryz.ntmps33
      go_wp2_with fail
      go_at_call 57; refine (HA.out _ (HL.out.below (by (repeat (first | exact grow_refl _ | refine grow_ext _ ?_ | refine grow_alloc _ ?_ | refine grow_drew ?_))))).mono ?_; rintro e w' ⟨rfl, x1, rfl⟩
      go_wp2
      go_ret
      rw [HR.out]
      exact Ret.of (by (repeat (first | exact grow_refl _ | refine grow_ext _ ?_ | refine grow_alloc _ ?_ | refine grow_drew ?_)))
    · cases q
      all_goals
        go_enter Tryz.func33, Tryz.ntmps33
        go_wp2_with fail
        go_at_call 57; refine (HA.out _ (HL.out.below (by (repeat (first | exact grow_refl _ | refine grow_ext _ ?_ | refine grow_alloc _ ?_ | refine grow_drew ?_))))).mono ?_; rintro e w' ⟨rfl, x1, rfl⟩
        go_wp2_with fail
        go_at_call 57; refine (HB.out _ (HM.out.below (by (repeat (first | exact grow_refl _ | refine grow_ext _ ?_ | refine grow_alloc _ ?_ | refine grow_drew ?_))))).mono ?_; rintro e w' ⟨rfl, x2, rfl⟩
        go_wp2
        go_ret
        rw [HR.out]
        exact Ret.of (by (repeat (first | exact grow_refl _ | refine grow_ext _ ?_ | refine grow_alloc _ ?_ | refine grow_drew ?_)))
  · have HR := Lib.hid (show solidB l m = false by
      cases hs : solidB l m
      · rfl
      · have := solid_iff.1 hs; omega)
    by_cases g1 : 1 ≤ l.length
    · have d1 : decide ((1 : Int) ≤ (l.length : Int)) = true := by simp; omega
      by_cases g2 : l.length ≤ 20
      · have d2 : decide ((l.length : Int) ≤ 20) = true := by simp; omega
        have d3 : decide ((m.length : Int) ≤ 20) = false := by simp; omega
        clear h1 g1 g2
        go_enter Tryz.func33, Tryz.ntmps33
        go_wp2
        go_ret
        rw [HR.out]
        exact Ret.of (by (repeat (first | exact grow_refl _ | refine grow_ext _ ?_ | refine grow_alloc _ ?_ | refine grow_drew ?_)))
      · have d2 : decide ((l.length : Int) ≤ 20) = false := by simp; omega
        clear h1 g1 g2
        go_enter Tryz.func33, Tryz.ntmps33
        go_wp2
        go_ret
        rw [HR.out]
        exact Ret.of (by (repeat (first | exact grow_refl _ | refine grow_ext _ ?_ | refine grow_alloc _ ?_ | refine grow_drew ?_)))
    · have d1 : decide ((1 : Int) ≤ (l.length : Int)) = false := by simp; omega
      clear h1 g1
      go_enter Tryz.func33, Tryz.ntmps33
      go_wp2
      go_ret
      rw [HR.out]
      exact Ret.of (by (repeat (first | exact grow_refl _ | refine grow_ext _ ?_ | refine grow_alloc _ ?_ | refine grow_drew ?_)))
theorem solidValid_v (l m : List Bx) (u t : Value) (r : Bool) (h : solidB l m = r) (w : World) (hl : Boxes w u l) (hm : Boxes w t m) : Calls Tryz.prog 33 #[.agg #[u, t]] w (Ret w (.bool r)) := by subst h; exact solidValid_c l m u t w hl hm

end Go.Proofs.YtmhhohancconaaaGreat

namespace Go.Proofs.YtmhhohancconaaaGreat
open Go.RowKit
set_option maxRecDepth 20000

def hullS (l m : List Bx) : Bx × Int := if solidB l m = true then (hullX l, 0) else (zeroX, 1)
theorem hullR_ok {l m : List Bx} (h : solidB l m = true) : hullR l = (hullX l, 0) := by
  have := solid_iff.1 h
  unfold hullR
  rw [if_pos (all_valid this.2.2.1), if_pos (by omega)]

theorem opens_axes {h b : Bx} : opensB h b = true ↔ ∀ k : Nat, k < 3 → b.lo k < h.hi k ∧ h.lo k < b.hi k := by
  rw [opens_iff]
  constructor
  · intro ⟨h1, h2, h3, h4, h5, h6⟩ k hk
    have : k = 0 ∨ k = 1 ∨ k = 2 := by omega
    rcases this with rfl | rfl | rfl
    · exact ⟨h1, h2⟩
    · exact ⟨h3, h4⟩
    · exact ⟨h5, h6⟩
  · intro hh
    have h0 := hh 0 (by omega)
    have h1 := hh 1 (by omega)
    have h2 := hh 2 (by omega)
    exact ⟨h0.1, h0.2, h1.1, h1.2, h2.1, h2.2⟩

set_option maxHeartbeats 1000000 in
theorem contains1_c (h b : Bx) (g : Nat) (w : World) (hb : BoxAt w g 0 b) : Calls Tryz.prog 59 #[(.agg #[.int .i64 h.lx, .int .i64 h.ly, .int .i64 h.lz, .int .i64 h.hx, .int .i64 h.hy, .int .i64 h.hz]), .pointer (some ⟨g, 0, none⟩)] w (Ret w (.bool (opensB h b))) := by
  obtain ⟨c0, c1, c2, c3, c4, c5⟩ := hb
  simp only [Nat.zero_add] at c1 c2 c3 c4 c5
  go_enter Tryz.func59, Tryz.ntmps59
  go_wp2_with fail
  go_at_call 60; refine (opens_c h b _).mono ?_; rintro e w' ⟨rfl, x1, rfl⟩
  go_wp2
  go_ret
  exact Ret.of (by (repeat (first | exact grow_refl _ | refine grow_ext _ ?_ | refine grow_alloc _ ?_ | refine grow_drew ?_)))
theorem enters_contains1 : Enters 59 := enters_of Tryz.func59 (by decide) (by simp [Tryz.f59])

def containsR17 (l m : List Bx) (b : Bx) : Bool × Int := if solidB l m = true ∧ validB b = true then (containsS l m b, 0) else (false, 1)
theorem covers_ok {l m : List Bx} {b : Bx} (h : solidB l m = true) (hb : validB b = true) : coversV l b = (coversB l b, 0) := by
  have := solid_iff.1 h
  unfold coversV
  rw [if_pos ⟨all_valid this.2.2.1, hb⟩, if_pos (by omega)]

set_option maxHeartbeats 2000000 in
theorem solidContains_c (l m : List Bx) (u t : Value) (b : Bx) (w : World) (hl : Boxes w u l) (hm : Boxes w t m) :
    Calls Tryz.prog 35 #[.agg #[u, t], (.agg #[.int .i64 b.lx, .int .i64 b.ly, .int .i64 b.lz, .int .i64 b.hx, .int .i64 b.hy, .int .i64 b.hz])] w (Ret w (.tuple #[.bool (containsR17 l m b).1, .int .i64 (containsR17 l m b).2])) := by
  have HL := Lib.hid hl
  have HM := Lib.hid hm
  clear hl hm
  cases hv : solidB l m
  · have HR := Lib.hid (show containsR17 l m b = (false, 1) by unfold containsR17; rw [hv]; simp)
    have HV := Lib.hid hv
    clear hv
    go_enter Tryz.func35, Tryz.ntmps35
    go_wp2_with fail
    go_at_call 33; refine (solidValid_v l m _ _ _ HV.out _ (HL.out.below (by (repeat (first | exact grow_refl _ | refine grow_ext _ ?_ | refine grow_alloc _ ?_ | refine grow_drew ?_)))) (HM.out.below (by (repeat (first | exact grow_refl _ | refine grow_ext _ ?_ | refine grow_alloc _ ?_ | refine grow_drew ?_))))).mono ?_; rintro e w' ⟨rfl, x1, rfl⟩
    go_wp2
    go_ret2
    rw [HR.out]
    exact Ret.of (by (repeat (first | exact grow_refl _ | refine grow_ext _ ?_ | refine grow_alloc _ ?_ | refine grow_drew ?_)))
  cases hb : validB b
  · have HR := Lib.hid (show containsR17 l m b = (false, 1) by unfold containsR17; rw [hb]; simp)
    have HV := Lib.hid hv
    have HB := Lib.hid hb
    clear hv hb
    go_enter Tryz.func35, Tryz.ntmps35
    go_wp2_with fail
    go_at_call 33; refine (solidValid_v l m _ _ _ HV.out _ (HL.out.below (by (repeat (first | exact grow_refl _ | refine grow_ext _ ?_ | refine grow_alloc _ ?_ | refine grow_drew ?_)))) (HM.out.below (by (repeat (first | exact grow_refl _ | refine grow_ext _ ?_ | refine grow_alloc _ ?_ | refine grow_drew ?_))))).mono ?_; rintro e w' ⟨rfl, x1, rfl⟩
    go_wp2_with fail
    go_at_call 34; refine (valid_v b _ HB.out _).mono ?_; rintro e w' ⟨rfl, x2, rfl⟩
    go_wp2
    go_ret2
    rw [HR.out]
    exact Ret.of (by (repeat (first | exact grow_refl _ | refine grow_ext _ ?_ | refine grow_alloc _ ?_ | refine grow_drew ?_)))
  cases ho : m.any fun h => opensB h b
  · have HR := Lib.hid (show containsR17 l m b = (coversB l b, 0) by unfold containsR17 containsS; rw [hv, hb, ho]; simp)
    have HC := Lib.hid (fun w hl => Covers_c l u b w hl)
    rw [covers_ok hv hb] at HC
    have HV := Lib.hid hv
    have HB := Lib.hid hb
    have HO := Lib.hid ho
    clear hv hb ho
    go_enter Tryz.func35, Tryz.ntmps35
    go_wp2_with fail
    go_at_call 33; refine (solidValid_v l m _ _ _ HV.out _ (HL.out.below (by (repeat (first | exact grow_refl _ | refine grow_ext _ ?_ | refine grow_alloc _ ?_ | refine grow_drew ?_)))) (HM.out.below (by (repeat (first | exact grow_refl _ | refine grow_ext _ ?_ | refine grow_alloc _ ?_ | refine grow_drew ?_))))).mono ?_; rintro e w' ⟨rfl, x1, rfl⟩
    go_wp2_with fail
    go_at_call 34; refine (valid_v b _ HB.out _).mono ?_; rintro e w' ⟨rfl, x2, rfl⟩
    go_wp2_with fail
    go_at_call 57
    refine Calls.mono (containsFunc_c 59 enters_contains1 #[.pointer (some ⟨w.heap.size + 1, 0, none⟩)] (fun h => opensB h b) m _ _ (HM.out.below (by (repeat (first | exact grow_refl _ | refine grow_ext _ ?_ | refine grow_alloc _ ?_ | refine grow_drew ?_)))) (fun h y _ => contains1_c h b (w.heap.size + 1) _ (by simp [BoxAt, go_sem]))) ?_
    rintro e w' ⟨rfl, x3, rfl⟩
    rw [HO.out]
    go_wp2_with fail
    go_at_call 61; refine (HC.out _ (HL.out.below (by (repeat (first | exact grow_refl _ | refine grow_ext _ ?_ | refine grow_alloc _ ?_ | refine grow_drew ?_))))).mono ?_; rintro e w' ⟨rfl, x4, rfl⟩
    go_wp2
    go_ret2
    rw [HR.out]
    exact Ret.of (by (repeat (first | exact grow_refl _ | refine grow_ext _ ?_ | refine grow_alloc _ ?_ | refine grow_drew ?_)))
  · have HR := Lib.hid (show containsR17 l m b = (false, 0) by unfold containsR17 containsS; rw [hv, hb, ho]; simp)
    have HV := Lib.hid hv
    have HB := Lib.hid hb
    have HO := Lib.hid ho
    clear hv hb ho
    go_enter Tryz.func35, Tryz.ntmps35
    go_wp2_with fail
    go_at_call 33; refine (solidValid_v l m _ _ _ HV.out _ (HL.out.below (by (repeat (first | exact grow_refl _ | refine grow_ext _ ?_ | refine grow_alloc _ ?_ | refine grow_drew ?_)))) (HM.out.below (by (repeat (first | exact grow_refl _ | refine grow_ext _ ?_ | refine grow_alloc _ ?_ | refine grow_drew ?_))))).mono ?_; rintro e w' ⟨rfl, x1, rfl⟩
    go_wp2_with fail
    go_at_call 34; refine (valid_v b _ HB.out _).mono ?_; rintro e w' ⟨rfl, x2, rfl⟩
    go_wp2_with fail
    go_at_call 57
    refine Calls.mono (containsFunc_c 59 enters_contains1 #[.pointer (some ⟨w.heap.size + 1, 0, none⟩)] (fun h => opensB h b) m _ _ (HM.out.below (by (repeat (first | exact grow_refl _ | refine grow_ext _ ?_ | refine grow_alloc _ ?_ | refine grow_drew ?_)))) (fun h y _ => contains1_c h b (w.heap.size + 1) _ (by simp [BoxAt, go_sem]))) ?_
    rintro e w' ⟨rfl, x3, rfl⟩
    rw [HO.out]
    go_wp2
    go_ret2
    rw [HR.out]
    exact Ret.of (by (repeat (first | exact grow_refl _ | refine grow_ext _ ?_ | refine grow_alloc _ ?_ | refine grow_drew ?_)))
theorem solidContains_v (l m : List Bx) (u t : Value) (b : Bx) (r : Bool × Int) (h : containsR17 l m b = r) (w : World) (hl : Boxes w u l) (hm : Boxes w t m) :
    Calls Tryz.prog 35 #[.agg #[u, t], (.agg #[.int .i64 b.lx, .int .i64 b.ly, .int .i64 b.lz, .int .i64 b.hx, .int .i64 b.hy, .int .i64 b.hz])] w (Ret w (.tuple #[.bool r.1, .int .i64 r.2])) := by subst h; exact solidContains_c l m u t b w hl hm

def insideR (l m : List Bx) (x y z : Int) : Bool × Int := if solidB l m = true then (if validB (ptX x y z) = true then (containsS l m (ptX x y z), 0) else (false, 2)) else (false, 1)
set_option maxHeartbeats 2000000 in
theorem solidInside_c (l m : List Bx) (u t : Value) (x y z : Int) (w : World) (hl : Boxes w u l) (hm : Boxes w t m) :
    Calls Tryz.prog 16 #[.agg #[u, t], (.agg #[.int .i64 x, .int .i64 y, .int .i64 z])] w (Ret w (.tuple #[.bool (insideR l m x y z).1, .int .i64 (insideR l m x y z).2])) := by
  have HL := Lib.hid hl
  have HM := Lib.hid hm
  clear hl hm
  cases hv : solidB l m
  · have HR := Lib.hid (show insideR l m x y z = (false, 1) by unfold insideR; rw [hv]; rfl)
    have HV := Lib.hid hv
    clear hv
    go_enter Tryz.func16, Tryz.ntmps16
    go_wp2_with fail
    go_at_call 33; refine (solidValid_v l m _ _ _ HV.out _ (HL.out.below (by (repeat (first | exact grow_refl _ | refine grow_ext _ ?_ | refine grow_alloc _ ?_ | refine grow_drew ?_)))) (HM.out.below (by (repeat (first | exact grow_refl _ | refine grow_ext _ ?_ | refine grow_alloc _ ?_ | refine grow_drew ?_))))).mono ?_; rintro e w' ⟨rfl, x1, rfl⟩
    go_wp2
    go_ret2
    rw [HR.out]
    exact Ret.of (by (repeat (first | exact grow_refl _ | refine grow_ext _ ?_ | refine grow_alloc _ ?_ | refine grow_drew ?_)))
  cases hb : validB (ptX x y z)
  · have HR := Lib.hid (show insideR l m x y z = (false, 2) by unfold insideR; rw [hv, hb]; rfl)
    have HV := Lib.hid hv
    have HB := Lib.hid hb
    clear hv hb
    go_enter Tryz.func16, Tryz.ntmps16
    go_wp2_with fail
    go_at_call 33; refine (solidValid_v l m _ _ _ HV.out _ (HL.out.below (by (repeat (first | exact grow_refl _ | refine grow_ext _ ?_ | refine grow_alloc _ ?_ | refine grow_drew ?_)))) (HM.out.below (by (repeat (first | exact grow_refl _ | refine grow_ext _ ?_ | refine grow_alloc _ ?_ | refine grow_drew ?_))))).mono ?_; rintro e w' ⟨rfl, x1, rfl⟩
    go_wp2_with fail
    go_at_call 34; refine (valid_v (ptX x y z) _ HB.out _).mono ?_; rintro e w' ⟨rfl, x2, rfl⟩
    go_wp2
    go_ret2
    rw [HR.out]
    exact Ret.of (by (repeat (first | exact grow_refl _ | refine grow_ext _ ?_ | refine grow_alloc _ ?_ | refine grow_drew ?_)))
  · have HR := Lib.hid (show insideR l m x y z = (containsS l m (ptX x y z), 0) by unfold insideR; rw [hv, hb]; rfl)
    have HC := Lib.hid (show containsR17 l m (ptX x y z) = (containsS l m (ptX x y z), 0) by unfold containsR17; rw [hv, hb]; simp)
    have HV := Lib.hid hv
    have HB := Lib.hid hb
    clear hv hb
    go_enter Tryz.func16, Tryz.ntmps16
    go_wp2_with fail
    go_at_call 33; refine (solidValid_v l m _ _ _ HV.out _ (HL.out.below (by (repeat (first | exact grow_refl _ | refine grow_ext _ ?_ | refine grow_alloc _ ?_ | refine grow_drew ?_)))) (HM.out.below (by (repeat (first | exact grow_refl _ | refine grow_ext _ ?_ | refine grow_alloc _ ?_ | refine grow_drew ?_))))).mono ?_; rintro e w' ⟨rfl, x1, rfl⟩
    go_wp2_with fail
    go_at_call 34; refine (valid_v (ptX x y z) _ HB.out _).mono ?_; rintro e w' ⟨rfl, x2, rfl⟩
    go_wp2_with fail
    go_at_call 35; refine (solidContains_v l m _ _ (ptX x y z) _ HC.out _ (HL.out.below (by (repeat (first | exact grow_refl _ | refine grow_ext _ ?_ | refine grow_alloc _ ?_ | refine grow_drew ?_)))) (HM.out.below (by (repeat (first | exact grow_refl _ | refine grow_ext _ ?_ | refine grow_alloc _ ?_ | refine grow_drew ?_))))).mono ?_; rintro e w' ⟨rfl, x3, rfl⟩
    go_wp2
    go_ret2
    rw [HR.out]
    exact Ret.of (by (repeat (first | exact grow_refl _ | refine grow_ext _ ?_ | refine grow_alloc _ ?_ | refine grow_drew ?_)))
theorem solidInside_v (l m : List Bx) (u t : Value) (x y z : Int) (r : Bool × Int) (h : insideR l m x y z = r) (w : World) (hl : Boxes w u l) (hm : Boxes w t m) :
    Calls Tryz.prog 16 #[.agg #[u, t], (.agg #[.int .i64 x, .int .i64 y, .int .i64 z])] w (Ret w (.tuple #[.bool r.1, .int .i64 r.2])) := by subst h; exact solidInside_c l m u t x y z w hl hm

end Go.Proofs.YtmhhohancconaaaGreat

namespace Go.Proofs.YtmhhohancconaaaGreat
open Go.RowKit
set_option maxRecDepth 20000

theorem run_append_none {P : Program} (w : World) (base : Nat) (t ty e : TypeId) (i : TypeInfo) (size c : Nat) (ht : P.underlying t = some (.slice e)) (hi : P.info? e = some i)
    (v : Value) (n : Nat) (xs : List Value) (hown : w.ownsRow base e size v n xs) :
    (Builtin.append_ #[t, t] ty #[v, .slice none 0 c]).run P w = .ok v w := by
  rcases hown.2 with ⟨rfl, rfl⟩ | ⟨g, cap, cur, rfl, _, _, hnc, _⟩
  · simp [Builtin.append_, run_underlying ht, sizeOf, typeInfo, hi, Builtin.lenOf, Builtin.firstCells]
  · simp [Builtin.append_, run_underlying ht, sizeOf, typeInfo, hi, Builtin.lenOf, Builtin.firstCells, hnc, storeCells]

/-- append(s, x...) of whatever slice. -/
theorem app_any {P : Program} {ops : Array Oper} {rest : List Oper} {o : Oper} {a : Act} {Q : Exit → Act → World → Prop} (hgd : o.guard = none) (s x : Operand) (t : TypeId)
    (ho : o.op = .call { callee := .builtin .append, args := #[s, x], argTypes := #[t, t] })
    (e : TypeId) (z : Value) (size bytes : Nat) (ht : P.underlying t = some (.slice e)) (hi : (P.info? e).map (fun i => (i.zero, i.size, i.bytes)) = some (some z, size, bytes)) (hzs : z.cells.size = size) (hsz : 0 < size)
    (B : World) (v : Value) (n : Nat) (xs : List Value) (w : World) (hs : a.eval s = v) (hown : w.ownsRow B.heap.size e size v n xs)
    (ad : Option Addr) (m c : Nat) (news : List Value) (hx : a.eval x = .slice ad m c) (hl : news.length = m * size) (hnil : ad = none → m = 0) (hnews : ∀ a', ad = some a' → ∀ j u, news[j]? = some u → w.cell? (a'.add j) = some u) (h1 : ∀ u ∈ news, u.oneCell' = true)
    (hroom : (n + m) * bytes ≤ 140737488355328) (hby : 0 < bytes) (hB : Below B.heap.size B w)
    (h : ∀ v' y, (ext B y).ownsRow B.heap.size e size v' (n + m) (xs ++ news) → w.grownBy (ext B y) v.ownBlock → wpList P ops Q rest (a.put o.dst v') (ext B y)) : wpList P ops Q (o :: rest) a w := by
  cases ad with
  | some ad => exact app_own_at hgd s x t ho e z size bytes ht hi hzs hsz B v n xs w hs hown ad m c news hx hl (hnews ad rfl) h1 hroom hby hB h
  | none =>
    obtain rfl := hnil rfl
    obtain ⟨i0, hi, hz0, hz1, hz2⟩ := info_parts hi
    have hn0 : news = [] := List.eq_nil_of_length_eq_zero (by omega)
    subst hn0
    refine Lib.wpList_append_run w hgd s x t t ho v _ hs hx v w (run_append_none w B.heap.size t o.type e i0 size c ht hi v n xs hown) ?_
    obtain ⟨y, hy⟩ := ext_of hB
    rw [hy]
    exact h v y (by rw [← hy]; simpa using hown) (by rw [← hy]; exact ⟨rfl, rfl, rfl, Nat.le_refl _, fun _ _ _ => rfl⟩)

theorem Boxes.slice {w : World} {v : Value} {l : List Bx} (h : Boxes w v l) : ∃ a cap, v = .slice a l.length cap ∧ l.length ≤ cap ∧ cap ≤ 9223372036854775807 ∧ (a = none → l.length = 0) ∧ ∀ a', a = some a' → ∀ j u, (boxCells l)[j]? = some u → w.cell? (a'.add j) = some u := by
  obtain ⟨a, cap, rfl, h1, h2, h3⟩ := h.shape
  refine ⟨a, cap, rfl, h1, h2, fun ha => ?_, fun a' ha => ?_⟩
  · subst ha
    rcases Nat.eq_zero_or_pos l.length with e | e
    · exact e
    · obtain ⟨_, _, e', _⟩ := h3 0 e; cases e'
  · subst ha; exact h.cells

end Go.Proofs.YtmhhohancconaaaGreat

