/- Solids: what they contain, their hull: the program's functions and the reference's. -/
import Derived.Test.YtdldbdffaffjoaaSolA
import Derived.Test.YtdldbdffaffjoaaRefH
namespace Go.Proofs.Ytdldbdffaffjoaa
open Go.RowKit

def hullS (l m : List Bx) : Bx × Int := if solidB l m = true then (hullX l, 0) else (zeroX, 1)
theorem hullR_ok {l m : List Bx} (h : solidB l m = true) : hullR l = (hullX l, 0) := by
  have := solid_iff.1 h
  unfold hullR
  rw [if_pos (all_valid this.2.2.1), if_pos (by omega)]

theorem opens_axes {h b : Bx} : opensB h b = true ↔ ∀ k : Nat, k < 3 → b.lo k < h.hi k ∧ h.lo k < b.hi k := by
  rw [opens_iff]
  constructor
  · intro ⟨h1, h2, h3, h4, h5, h6⟩ k hk
    have : k = 0 ∨ k = 1 ∨ k = 2 := by omega
    rcases this with rfl | rfl | rfl
    · exact ⟨h1, h2⟩
    · exact ⟨h3, h4⟩
    · exact ⟨h5, h6⟩
  · intro hh
    have h0 := hh 0 (by omega)
    have h1 := hh 1 (by omega)
    have h2 := hh 2 (by omega)
    exact ⟨h0.1, h0.2, h1.1, h1.2, h2.1, h2.2⟩

set_option maxHeartbeats 1000000 in
theorem contains1_c (h b : Bx) (g : Nat) (w : World) (hb : BoxAt w g 0 b) : Calls Try.prog 39 #[(.agg #[.int .i64 h.lx, .int .i64 h.ly, .int .i64 h.lz, .int .i64 h.hx, .int .i64 h.hy, .int .i64 h.hz]), .pointer (some ⟨g, 0, none⟩)] w (Ret w (.bool (opensB h b))) := by
  obtain ⟨c0, c1, c2, c3, c4, c5⟩ := hb
  simp only [Nat.zero_add] at c1 c2 c3 c4 c5
  go_enter Try.func39, Try.ntmps39
  go_wp2_with fail
  go_at_call 40; refine (opens_c h b _).mono ?_; rintro e w' ⟨rfl, x1, rfl⟩
  go_wp2
  go_ret
  exact Ret.of (by (repeat (first | exact grow_refl _ | refine grow_ext _ ?_ | refine grow_alloc _ ?_ | refine grow_drew ?_)))
theorem enters_contains1 : Enters 39 := enters_of Try.func39 (by decide) (by simp [Try.f39])

def containsR17 (l m : List Bx) (b : Bx) : Bool × Int := if solidB l m = true ∧ validB b = true then (containsS l m b, 0) else (false, 1)
theorem covers_ok {l m : List Bx} {b : Bx} (h : solidB l m = true) (hb : validB b = true) : coversV l b = (coversB l b, 0) := by
  have := solid_iff.1 h
  unfold coversV
  rw [if_pos ⟨all_valid this.2.2.1, hb⟩, if_pos (by omega)]

set_option maxHeartbeats 2000000 in
theorem solidContains_c (l m : List Bx) (u t : Value) (b : Bx) (w : World) (hl : Boxes w u l) (hm : Boxes w t m) :
    Calls Try.prog 28 #[.agg #[u, t], (.agg #[.int .i64 b.lx, .int .i64 b.ly, .int .i64 b.lz, .int .i64 b.hx, .int .i64 b.hy, .int .i64 b.hz])] w (Ret w (.tuple #[.bool (containsR17 l m b).1, .int .i64 (containsR17 l m b).2])) := by
  have HL := Lib.hid hl
  have HM := Lib.hid hm
  clear hl hm
  cases hv : solidB l m
  · have HR := Lib.hid (show containsR17 l m b = (false, 1) by unfold containsR17; rw [hv]; simp)
    have HV := Lib.hid hv
    clear hv
    go_enter Try.func28, Try.ntmps28
    go_wp2_with fail
    go_at_call 37; refine (solidValid_v l m _ _ _ HV.out _ (HL.out.below (by (repeat (first | exact grow_refl _ | refine grow_ext _ ?_ | refine grow_alloc _ ?_ | refine grow_drew ?_)))) (HM.out.below (by (repeat (first | exact grow_refl _ | refine grow_ext _ ?_ | refine grow_alloc _ ?_ | refine grow_drew ?_))))).mono ?_; rintro e w' ⟨rfl, x1, rfl⟩
    go_wp2
    go_ret2
    rw [HR.out]
    exact Ret.of (by (repeat (first | exact grow_refl _ | refine grow_ext _ ?_ | refine grow_alloc _ ?_ | refine grow_drew ?_)))
  cases hb : validB b
  · have HR := Lib.hid (show containsR17 l m b = (false, 1) by unfold containsR17; rw [hb]; simp)
    have HV := Lib.hid hv
    have HB := Lib.hid hb
    clear hv hb
    go_enter Try.func28, Try.ntmps28
    go_wp2_with fail
    go_at_call 37; refine (solidValid_v l m _ _ _ HV.out _ (HL.out.below (by (repeat (first | exact grow_refl _ | refine grow_ext _ ?_ | refine grow_alloc _ ?_ | refine grow_drew ?_)))) (HM.out.below (by (repeat (first | exact grow_refl _ | refine grow_ext _ ?_ | refine grow_alloc _ ?_ | refine grow_drew ?_))))).mono ?_; rintro e w' ⟨rfl, x1, rfl⟩
    go_wp2_with fail
    go_at_call 31; refine (valid_v b _ HB.out _).mono ?_; rintro e w' ⟨rfl, x2, rfl⟩
    go_wp2
    go_ret2
    rw [HR.out]
    exact Ret.of (by (repeat (first | exact grow_refl _ | refine grow_ext _ ?_ | refine grow_alloc _ ?_ | refine grow_drew ?_)))
  cases ho : m.any fun h => opensB h b
  · have HR := Lib.hid (show containsR17 l m b = (coversB l b, 0) by unfold containsR17 containsS; rw [hv, hb, ho]; simp)
    have HC := Lib.hid (fun w hl => Covers_c l u b w hl)
    rw [covers_ok hv hb] at HC
    have HV := Lib.hid hv
    have HB := Lib.hid hb
    have HO := Lib.hid ho
    clear hv hb ho
    go_enter Try.func28, Try.ntmps28
    go_wp2_with fail
    go_at_call 37; refine (solidValid_v l m _ _ _ HV.out _ (HL.out.below (by (repeat (first | exact grow_refl _ | refine grow_ext _ ?_ | refine grow_alloc _ ?_ | refine grow_drew ?_)))) (HM.out.below (by (repeat (first | exact grow_refl _ | refine grow_ext _ ?_ | refine grow_alloc _ ?_ | refine grow_drew ?_))))).mono ?_; rintro e w' ⟨rfl, x1, rfl⟩
    go_wp2_with fail
    go_at_call 31; refine (valid_v b _ HB.out _).mono ?_; rintro e w' ⟨rfl, x2, rfl⟩
    go_wp2_with fail
    go_at_call 38
    refine Calls.mono (containsFunc_c 39 enters_contains1 #[.pointer (some ⟨w.heap.size + 1, 0, none⟩)] (fun h => opensB h b) m _ _ (HM.out.below (by (repeat (first | exact grow_refl _ | refine grow_ext _ ?_ | refine grow_alloc _ ?_ | refine grow_drew ?_)))) (fun h y _ => contains1_c h b (w.heap.size + 1) _ (by simp [BoxAt, go_sem]))) ?_
    rintro e w' ⟨rfl, x3, rfl⟩
    rw [HO.out]
    go_wp2_with fail
    go_at_call 41; refine (HC.out _ (HL.out.below (by (repeat (first | exact grow_refl _ | refine grow_ext _ ?_ | refine grow_alloc _ ?_ | refine grow_drew ?_))))).mono ?_; rintro e w' ⟨rfl, x4, rfl⟩
    go_wp2
    go_ret2
    rw [HR.out]
    exact Ret.of (by (repeat (first | exact grow_refl _ | refine grow_ext _ ?_ | refine grow_alloc _ ?_ | refine grow_drew ?_)))
  · have HR := Lib.hid (show containsR17 l m b = (false, 0) by unfold containsR17 containsS; rw [hv, hb, ho]; simp)
    have HV := Lib.hid hv
    have HB := Lib.hid hb
    have HO := Lib.hid ho
    clear hv hb ho
    go_enter Try.func28, Try.ntmps28
    go_wp2_with fail
    go_at_call 37; refine (solidValid_v l m _ _ _ HV.out _ (HL.out.below (by (repeat (first | exact grow_refl _ | refine grow_ext _ ?_ | refine grow_alloc _ ?_ | refine grow_drew ?_)))) (HM.out.below (by (repeat (first | exact grow_refl _ | refine grow_ext _ ?_ | refine grow_alloc _ ?_ | refine grow_drew ?_))))).mono ?_; rintro e w' ⟨rfl, x1, rfl⟩
    go_wp2_with fail
    go_at_call 31; refine (valid_v b _ HB.out _).mono ?_; rintro e w' ⟨rfl, x2, rfl⟩
    go_wp2_with fail
    go_at_call 38
    refine Calls.mono (containsFunc_c 39 enters_contains1 #[.pointer (some ⟨w.heap.size + 1, 0, none⟩)] (fun h => opensB h b) m _ _ (HM.out.below (by (repeat (first | exact grow_refl _ | refine grow_ext _ ?_ | refine grow_alloc _ ?_ | refine grow_drew ?_)))) (fun h y _ => contains1_c h b (w.heap.size + 1) _ (by simp [BoxAt, go_sem]))) ?_
    rintro e w' ⟨rfl, x3, rfl⟩
    rw [HO.out]
    go_wp2
    go_ret2
    rw [HR.out]
    exact Ret.of (by (repeat (first | exact grow_refl _ | refine grow_ext _ ?_ | refine grow_alloc _ ?_ | refine grow_drew ?_)))
theorem solidContains_v (l m : List Bx) (u t : Value) (b : Bx) (r : Bool × Int) (h : containsR17 l m b = r) (w : World) (hl : Boxes w u l) (hm : Boxes w t m) :
    Calls Try.prog 28 #[.agg #[u, t], (.agg #[.int .i64 b.lx, .int .i64 b.ly, .int .i64 b.lz, .int .i64 b.hx, .int .i64 b.hy, .int .i64 b.hz])] w (Ret w (.tuple #[.bool r.1, .int .i64 r.2])) := by subst h; exact solidContains_c l m u t b w hl hm

def insideR (l m : List Bx) (x y z : Int) : Bool × Int := if solidB l m = true then (if validB (ptX x y z) = true then (containsS l m (ptX x y z), 0) else (false, 2)) else (false, 1)
end Go.Proofs.Ytdldbdffaffjoaa
