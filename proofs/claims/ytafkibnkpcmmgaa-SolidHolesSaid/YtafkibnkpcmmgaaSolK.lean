/- SolA, SolB, SolC in one text. -/
import Derived.Test.YtafkibnkpcmmgaaPlainK0
import Derived.Test.YtafkibnkpcmmgaaRefK
import Derived.Test.YtafkibnkpcmmgaaBaseK
import Derived.Lib.AppendZeros
import Derived.Laws.OwnMore
namespace Go.Proofs.Ytafkibnkpcmmgaa
open Go.RowKit
set_option maxRecDepth 20000

theorem thick_val {b : Bx} (h : validB b = true) : thickB b = decide (b.lx < b.hx ∧ b.ly < b.hy ∧ b.lz < b.hz) := by unfold thickB; rw [h]; rfl

set_option maxHeartbeats 1000000 in
theorem thick_c (b : Bx) (w : World) : Calls Try.prog 61 #[(.agg #[.int .i64 b.lx, .int .i64 b.ly, .int .i64 b.lz, .int .i64 b.hx, .int .i64 b.hy, .int .i64 b.hz])] w (Ret w (.bool (thickB b))) := by
  cases hv : validB b
  · have HR := Lib.hid (show thickB b = false by unfold thickB; rw [hv]; rfl)
    have HV := Lib.hid hv
    clear hv
    go_enter Try.func61, Try.ntmps61
    go_wp2_with fail
    go_at_call 44; refine (valid_v b _ HV.out _).mono ?_; rintro e w' ⟨rfl, x1, rfl⟩
    go_wp2
    go_ret
    rw [HR.out]
    exact Ret.of (by (repeat (first | exact grow_refl _ | refine grow_ext _ ?_ | refine grow_alloc _ ?_ | refine grow_drew ?_)))
  · have HR := Lib.hid (thick_val hv)
    have HV := Lib.hid hv
    clear hv
    go_enter Try.func61, Try.ntmps61
    go_wp2_with fail
    go_at_call 44; refine (valid_v b _ HV.out _).mono ?_; rintro e w' ⟨rfl, x1, rfl⟩
    go_wp2
    all_goals
      go_ret
      rw [HR.out]
      exact Ret.bool (by first | (simp [*]; done) | (simp; omega)) (by (repeat (first | exact grow_refl _ | refine grow_ext _ ?_ | refine grow_alloc _ ?_ | refine grow_drew ?_)))
theorem thick_v (b : Bx) (r : Bool) (h : thickB b = r) (w : World) : Calls Try.prog 61 #[(.agg #[.int .i64 b.lx, .int .i64 b.ly, .int .i64 b.lz, .int .i64 b.hx, .int .i64 b.hy, .int .i64 b.hz])] w (Ret w (.bool r)) := by subst h; exact thick_c b w

set_option maxHeartbeats 1000000 in
theorem refThick_c (b : Bx) (w : World) : Calls Try.prog 57 #[(.agg #[.int .i64 b.lx, .int .i64 b.ly, .int .i64 b.lz, .int .i64 b.hx, .int .i64 b.hy, .int .i64 b.hz])] w (Ret w (.bool (thickB b))) := by
  cases hv : validB b
  · have HR := Lib.hid (show thickB b = false by unfold thickB; rw [hv]; rfl)
    have HV := Lib.hid hv
    clear hv
    go_enter Try.func57, Try.ntmps57
    go_wp2_with fail
    go_at_call 11; refine (refValid_c b _).mono ?_; rintro e w' ⟨rfl, x1, rfl⟩
    rw [HV.out]
    go_wp2
    go_ret
    rw [HR.out]
    exact Ret.of (by (repeat (first | exact grow_refl _ | refine grow_ext _ ?_ | refine grow_alloc _ ?_ | refine grow_drew ?_)))
  · have HR := Lib.hid (thick_val hv)
    have HV := Lib.hid hv
    clear hv
    go_enter Try.func57, Try.ntmps57
    go_wp2_with fail
    go_at_call 11; refine (refValid_c b _).mono ?_; rintro e w' ⟨rfl, x1, rfl⟩
    rw [HV.out]
    go_wp2
    all_goals
      go_ret
      rw [HR.out]
      exact Ret.bool (by first | (simp [*]; done) | (simp; omega)) (by (repeat (first | exact grow_refl _ | refine grow_ext _ ?_ | refine grow_alloc _ ?_ | refine grow_drew ?_)))
theorem refThick_v (b : Bx) (r : Bool) (h : thickB b = r) (w : World) : Calls Try.prog 57 #[(.agg #[.int .i64 b.lx, .int .i64 b.ly, .int .i64 b.lz, .int .i64 b.hx, .int .i64 b.hy, .int .i64 b.hz])] w (Ret w (.bool r)) := by subst h; exact refThick_c b w

set_option maxHeartbeats 1000000 in
theorem valid1_c (b : Bx) (w : World) : Calls Try.prog 60 #[(.agg #[.int .i64 b.lx, .int .i64 b.ly, .int .i64 b.lz, .int .i64 b.hx, .int .i64 b.hy, .int .i64 b.hz])] w (Ret w (.bool (!thickB b))) := by
  go_enter Try.func60, Try.ntmps60
  go_wp2_with fail
  go_at_call 61; refine (thick_c b _).mono ?_; rintro e w' ⟨rfl, x1, rfl⟩
  go_wp2
  go_ret
  exact Ret.of (by (repeat (first | exact grow_refl _ | refine grow_ext _ ?_ | refine grow_alloc _ ?_ | refine grow_drew ?_)))
theorem enters_valid1 : Enters 60 := enters_of Try.func60 (by decide) (by simp [Try.f60])

set_option maxHeartbeats 2000000 in
theorem opens_c (h b : Bx) (w : World) : Calls Try.prog 47 #[(.agg #[.int .i64 h.lx, .int .i64 h.ly, .int .i64 h.lz, .int .i64 h.hx, .int .i64 h.hy, .int .i64 h.hz]), (.agg #[.int .i64 b.lx, .int .i64 b.ly, .int .i64 b.lz, .int .i64 b.hx, .int .i64 b.hy, .int .i64 b.hz])] w (Ret w (.bool (opensB h b))) := by
  go_enter Try.func47, Try.ntmps47
  go_wp2
  all_goals
    go_ret
    exact Ret.bool (by unfold opensB; first | (simp [*]; done) | (simp; omega)) (by (repeat (first | exact grow_refl _ | refine grow_ext _ ?_ | refine grow_alloc _ ?_ | refine grow_drew ?_)))

theorem any_thin (l : List Bx) : (l.any fun b => !thickB b) = !l.all thickB := by
  induction l with
  | nil => rfl
  | cons a l ih => rw [List.any_cons, List.all_cons, ih, Bool.not_and]
theorem thin_c (l : List Bx) (v : Value) (w : World) (hl : Boxes w v l) :
    Calls Try.prog 45 #[v, .func (.func 60) #[] #[]] w (Ret w (.bool (!l.all thickB))) := by
  rw [← any_thin]
  exact containsFunc_c 60 enters_valid1 #[] (fun b => !thickB b) l v w hl (fun b x _ => valid1_c b _)

set_option maxHeartbeats 2000000 in
theorem solidValid_c (l m : List Bx) (u t : Value) (w : World) (hl : Boxes w u l) (hm : Boxes w t m) : Calls Try.prog 30 #[.agg #[u, t]] w (Ret w (.bool (solidB l m))) := by
  obtain ⟨a, cap, rfl, hcap, hcap2, _⟩ := hl.shape
  obtain ⟨a', cap', rfl, hcap', hcap2', _⟩ := hm.shape
  have HL := Lib.hid hl
  have HM := Lib.hid hm
  clear hl hm
  by_cases h1 : 1 ≤ l.length ∧ l.length ≤ 20 ∧ m.length ≤ 20
  · obtain ⟨h1, h2, h3⟩ := h1
    have d1 : decide ((1 : Int) ≤ (l.length : Int)) = true := by simp; omega
    have d2 : decide ((l.length : Int) ≤ 20) = true := by simp; omega
    have d3 : decide ((m.length : Int) ≤ 20) = true := by simp; omega
    have HR := Lib.hid (show solidB l m = (l.all thickB && m.all thickB) by unfold solidB; simp [h1, h2, h3])
    have HA := Lib.hid (fun w hl => thin_c l (.slice a l.length cap) w hl)
    have HB := Lib.hid (fun w hm => thin_c m (.slice a' m.length cap') w hm)
    clear h1 h2 h3
    generalize l.all thickB = p at *
    generalize m.all thickB = q at *
    cases p
    · go_enter Try.func30, Try.ntmps30
      go_wp2_with fail
      go_at_call 45; refine (HA.out _ (HL.out.below (by (repeat (first | exact grow_refl _ | refine grow_ext _ ?_ | refine grow_alloc _ ?_ | refine grow_drew ?_))))).mono ?_; rintro e w' ⟨rfl, x1, rfl⟩
      go_wp2
      go_ret
      rw [HR.out]
      exact Ret.of (by (repeat (first | exact grow_refl _ | refine grow_ext _ ?_ | refine grow_alloc _ ?_ | refine grow_drew ?_)))
    · cases q
      all_goals
        go_enter Try.func30, Try.ntmps30
        go_wp2_with fail
        go_at_call 45; refine (HA.out _ (HL.out.below (by (repeat (first | exact grow_refl _ | refine grow_ext _ ?_ | refine grow_alloc _ ?_ | refine grow_drew ?_))))).mono ?_; rintro e w' ⟨rfl, x1, rfl⟩
        go_wp2_with fail
        go_at_call 45; refine (HB.out _ (HM.out.below (by (repeat (first | exact grow_refl _ | refine grow_ext _ ?_ | refine grow_alloc _ ?_ | refine grow_drew ?_))))).mono ?_; rintro e w' ⟨rfl, x2, rfl⟩
        go_wp2
        go_ret
        rw [HR.out]
        exact Ret.of (by (repeat (first | exact grow_refl _ | refine grow_ext _ ?_ | refine grow_alloc _ ?_ | refine grow_drew ?_)))
  · have HR := Lib.hid (show solidB l m = false by
      cases hs : solidB l m
      · rfl
      · have := solid_iff.1 hs; omega)
    by_cases g1 : 1 ≤ l.length
    · have d1 : decide ((1 : Int) ≤ (l.length : Int)) = true := by simp; omega
      by_cases g2 : l.length ≤ 20
      · have d2 : decide ((l.length : Int) ≤ 20) = true := by simp; omega
        have d3 : decide ((m.length : Int) ≤ 20) = false := by simp; omega
        clear h1 g1 g2
        go_enter Try.func30, Try.ntmps30
        go_wp2
        go_ret
        rw [HR.out]
        exact Ret.of (by (repeat (first | exact grow_refl _ | refine grow_ext _ ?_ | refine grow_alloc _ ?_ | refine grow_drew ?_)))
      · have d2 : decide ((l.length : Int) ≤ 20) = false := by simp; omega
        clear h1 g1 g2
        go_enter Try.func30, Try.ntmps30
        go_wp2
        go_ret
        rw [HR.out]
        exact Ret.of (by (repeat (first | exact grow_refl _ | refine grow_ext _ ?_ | refine grow_alloc _ ?_ | refine grow_drew ?_)))
    · have d1 : decide ((1 : Int) ≤ (l.length : Int)) = false := by simp; omega
      clear h1 g1
      go_enter Try.func30, Try.ntmps30
      go_wp2
      go_ret
      rw [HR.out]
      exact Ret.of (by (repeat (first | exact grow_refl _ | refine grow_ext _ ?_ | refine grow_alloc _ ?_ | refine grow_drew ?_)))
theorem solidValid_v (l m : List Bx) (u t : Value) (r : Bool) (h : solidB l m = r) (w : World) (hl : Boxes w u l) (hm : Boxes w t m) : Calls Try.prog 30 #[.agg #[u, t]] w (Ret w (.bool r)) := by subst h; exact solidValid_c l m u t w hl hm

end Go.Proofs.Ytafkibnkpcmmgaa

namespace Go.Proofs.Ytafkibnkpcmmgaa
open Go.RowKit
set_option maxRecDepth 20000

set_option maxRecDepth 100000 in
set_option maxHeartbeats 2000000 in
theorem refSolid_c (l m : List Bx) (u t : Value) (w : World) (hl : Boxes w u l) (hm : Boxes w t m) : Calls Try.prog 24 #[.agg #[u, t]] w (Ret w (.bool (solidB l m))) := by
  obtain ⟨a, cap, rfl, hcap, hcap2, hcell⟩ := hl.shape
  obtain ⟨a', cap', rfl, hcap', hcap2', hcell'⟩ := hm.shape
  have HL := Lib.hid hcell
  have HM := Lib.hid hcell'
  clear hl hm hcell hcell'
  by_cases h1 : 1 ≤ l.length ∧ l.length ≤ 20 ∧ m.length ≤ 20
  · obtain ⟨h1, h2, h3⟩ := h1
    have d1 : decide ((l.length : Int) < 1) = false := by simp; omega
    have d2 : decide ((20 : Int) < (l.length : Int)) = false := by simp; omega
    have d3 : decide ((20 : Int) < (m.length : Int)) = false := by simp; omega
    have HR := Lib.hid (show solidB l m = (l.all thickB && m.all thickB) by unfold solidB; simp [h1, h2, h3])
    go_enter Try.func24, Try.ntmps24
    go_wp2_with fail
    go_loopw [3] (fun i wr => ∃ j : Nat, j ≤ l.length ∧ i = .int .i64 j ∧ (∃ x, wr = ext (w.alloc (.cells #[.slice a l.length cap, .slice a' m.length cap'] 24)) x) ∧ (l.take j).all thickB = true) (fun i _ => l.length - (intOf i).toNat)
    case atStart => exact ⟨0, by omega, rfl, ext_of (Below.refl _ _), by simp⟩
    case round =>
      obtain ⟨j, hj, rfl, ⟨x, rfl⟩, hall⟩ := hrel
      have HA := Lib.hid hall
      clear hall
      by_cases hlt : j < l.length
      · obtain ⟨b, off, rfl, c0, c1, c2, c3, c4, c5⟩ := HL.out j hlt
        cases hv : thickB l[j]
        · have hf := Lib.hid (show solidB l m = false by rw [HR.out, all_false_of hlt hv]; rfl)
          have HV := Lib.hid hv
          clear hv
          go_wp2_with fail
          go_at_call 57; refine (refThick_v l[j] _ HV.out _).mono ?_; rintro e w' ⟨rfl, y, rfl⟩
          go_wp2
          go_ret
          rw [hf.out]
          exact Ret.of (by (repeat (first | exact grow_refl _ | refine grow_ext _ ?_ | refine grow_alloc _ ?_ | refine grow_drew ?_)))
        · have ht := Lib.hid (all_take_succ hlt hv HA.out)
          have HV := Lib.hid hv
          clear hv
          go_wp2_with fail
          go_at_call 57; refine (refThick_v l[j] _ HV.out _).mono ?_; rintro e w' ⟨rfl, y, rfl⟩
          go_wp2
          go_roundw
          case rel => exact ⟨j + 1, by omega, by go_num, ext_of (by (repeat (first | exact grow_refl _ | refine grow_ext _ ?_ | refine grow_alloc _ ?_ | refine grow_drew ?_))), ht.out⟩
          case measure => simp [intOf]; omega
      · have hal : l.all thickB = true := by
          have := HA.out
          rwa [List.take_of_length_le (by omega)] at this
        rw [hal, Bool.true_and] at HR
        clear hal HA
        obtain rfl : j = l.length := by omega
        go_wp2_with fail
        go_loopw [4] (fun i wr => ∃ j : Nat, j ≤ m.length ∧ i = .int .i64 j ∧ (∃ x, wr = ext (w.alloc (.cells #[.slice a l.length cap, .slice a' m.length cap'] 24)) x) ∧ (m.take j).all thickB = true) (fun i _ => m.length - (intOf i).toNat)
        case atStart => exact ⟨0, by omega, rfl, ext_of (by (repeat (first | exact grow_refl _ | refine grow_ext _ ?_ | refine grow_alloc _ ?_ | refine grow_drew ?_))), by simp⟩
        case round =>
          clear hlt
          obtain ⟨j, hj, rfl, ⟨x, rfl⟩, hall⟩ := hrel
          have HA := Lib.hid hall
          clear hall
          by_cases hlt : j < m.length
          · obtain ⟨b, off, rfl, c0, c1, c2, c3, c4, c5⟩ := HM.out j hlt
            cases hv : thickB m[j]
            · have hf := Lib.hid (show solidB l m = false by rw [HR.out, all_false_of hlt hv])
              have HV := Lib.hid hv
              clear hv
              go_wp2_with fail
              go_at_call 57; refine (refThick_v m[j] _ HV.out _).mono ?_; rintro e w' ⟨rfl, y, rfl⟩
              go_wp2
              go_ret
              rw [hf.out]
              exact Ret.of (by (repeat (first | exact grow_refl _ | refine grow_ext _ ?_ | refine grow_alloc _ ?_ | refine grow_drew ?_)))
            · have ht := Lib.hid (all_take_succ hlt hv HA.out)
              have HV := Lib.hid hv
              clear hv
              go_wp2_with fail
              go_at_call 57; refine (refThick_v m[j] _ HV.out _).mono ?_; rintro e w' ⟨rfl, y, rfl⟩
              go_wp2
              go_roundw
              case rel => exact ⟨j + 1, by omega, by go_num, ext_of (by (repeat (first | exact grow_refl _ | refine grow_ext _ ?_ | refine grow_alloc _ ?_ | refine grow_drew ?_))), ht.out⟩
              case measure => simp [intOf]; omega
          · have hal : m.all thickB = true := by
              have := HA.out
              rwa [List.take_of_length_le (by omega)] at this
            rw [hal] at HR
            clear hal HA
            go_wp2
            go_ret
            rw [HR.out]
            exact Ret.of (by (repeat (first | exact grow_refl _ | refine grow_ext _ ?_ | refine grow_alloc _ ?_ | refine grow_drew ?_)))
  · have HR := Lib.hid (show solidB l m = false by
      cases hs : solidB l m
      · rfl
      · have := solid_iff.1 hs; omega)
    by_cases g1 : 1 ≤ l.length
    · have d1 : decide ((l.length : Int) < 1) = false := by simp; omega
      by_cases g2 : l.length ≤ 20
      · have d2 : decide ((20 : Int) < (l.length : Int)) = false := by simp; omega
        have d3 : decide ((20 : Int) < (m.length : Int)) = true := by simp; omega
        clear h1 g1 g2
        go_enter Try.func24, Try.ntmps24
        go_wp2
        go_ret
        rw [HR.out]
        exact Ret.of (by (repeat (first | exact grow_refl _ | refine grow_ext _ ?_ | refine grow_alloc _ ?_ | refine grow_drew ?_)))
      · have d2 : decide ((20 : Int) < (l.length : Int)) = true := by simp; omega
        clear h1 g1 g2
        go_enter Try.func24, Try.ntmps24
        go_wp2
        go_ret
        rw [HR.out]
        exact Ret.of (by (repeat (first | exact grow_refl _ | refine grow_ext _ ?_ | refine grow_alloc _ ?_ | refine grow_drew ?_)))
    · have d1 : decide ((l.length : Int) < 1) = true := by simp; omega
      clear h1 g1
      go_enter Try.func24, Try.ntmps24
      go_wp2
      go_ret
      rw [HR.out]
      exact Ret.of (by (repeat (first | exact grow_refl _ | refine grow_ext _ ?_ | refine grow_alloc _ ?_ | refine grow_drew ?_)))
theorem refSolid_v (l m : List Bx) (u t : Value) (r : Bool) (h : solidB l m = r) (w : World) (hl : Boxes w u l) (hm : Boxes w t m) : Calls Try.prog 24 #[.agg #[u, t]] w (Ret w (.bool r)) := by subst h; exact refSolid_c l m u t w hl hm

def hullS (l m : List Bx) : Bx × Int := if solidB l m = true then (hullX l, 0) else (zeroX, 1)
theorem hullR_ok {l m : List Bx} (h : solidB l m = true) : hullR l = (hullX l, 0) := by
  have := solid_iff.1 h
  unfold hullR
  rw [if_pos (all_valid this.2.2.1), if_pos (by omega)]

set_option maxHeartbeats 1000000 in
theorem solidHull_c (l m : List Bx) (u t : Value) (w : World) (hl : Boxes w u l) (hm : Boxes w t m) : Calls Try.prog 19 #[.agg #[u, t]] w (Ret w (.tuple #[(.agg #[.int .i64 (hullS l m).1.lx, .int .i64 (hullS l m).1.ly, .int .i64 (hullS l m).1.lz, .int .i64 (hullS l m).1.hx, .int .i64 (hullS l m).1.hy, .int .i64 (hullS l m).1.hz]), .int .i64 (hullS l m).2])) := by
  have HL := Lib.hid hl
  have HM := Lib.hid hm
  clear hl hm
  cases hv : solidB l m
  · have HR := Lib.hid (show hullS l m = (zeroX, 1) by unfold hullS; rw [hv]; rfl)
    have HV := Lib.hid hv
    clear hv
    go_enter Try.func19, Try.ntmps19
    go_wp2_with fail
    go_at_call 30; refine (solidValid_v l m _ _ _ HV.out _ (HL.out.below (by (repeat (first | exact grow_refl _ | refine grow_ext _ ?_ | refine grow_alloc _ ?_ | refine grow_drew ?_)))) (HM.out.below (by (repeat (first | exact grow_refl _ | refine grow_ext _ ?_ | refine grow_alloc _ ?_ | refine grow_drew ?_))))).mono ?_; rintro e w' ⟨rfl, x1, rfl⟩
    go_wp2
    rw [HR.out]
    refine bodyPost_ret (v := .tuple #[(.agg #[.int .i64 zeroX.lx, .int .i64 zeroX.ly, .int .i64 zeroX.lz, .int .i64 zeroX.hx, .int .i64 zeroX.hy, .int .i64 zeroX.hz]), .int .i64 1]) (by simp [results, Try.results19, go_sem, zeroX]) rfl ?_
    exact Ret.of (by (repeat (first | exact grow_refl _ | refine grow_ext _ ?_ | refine grow_alloc _ ?_ | refine grow_drew ?_)))
  · have HR := Lib.hid (show hullS l m = (hullX l, 0) by unfold hullS; rw [hv]; rfl)
    have HH := Lib.hid (fun w hl => Hull_c l u w hl)
    rw [hullR_ok hv] at HH
    have HV := Lib.hid hv
    clear hv
    go_enter Try.func19, Try.ntmps19
    go_wp2_with fail
    go_at_call 30; refine (solidValid_v l m _ _ _ HV.out _ (HL.out.below (by (repeat (first | exact grow_refl _ | refine grow_ext _ ?_ | refine grow_alloc _ ?_ | refine grow_drew ?_)))) (HM.out.below (by (repeat (first | exact grow_refl _ | refine grow_ext _ ?_ | refine grow_alloc _ ?_ | refine grow_drew ?_))))).mono ?_; rintro e w' ⟨rfl, x1, rfl⟩
    go_wp2_with fail
    go_at_call 52; refine (HH.out _ (HL.out.below (by (repeat (first | exact grow_refl _ | refine grow_ext _ ?_ | refine grow_alloc _ ?_ | refine grow_drew ?_))))).mono ?_; rintro e w' ⟨rfl, x2, rfl⟩
    go_wp2
    rw [HR.out]
    refine bodyPost_ret (v := .tuple #[(.agg #[.int .i64 (hullX l).lx, .int .i64 (hullX l).ly, .int .i64 (hullX l).lz, .int .i64 (hullX l).hx, .int .i64 (hullX l).hy, .int .i64 (hullX l).hz]), .int .i64 0]) (by simp [results, Try.results19, go_sem]) rfl ?_
    exact Ret.of (by (repeat (first | exact grow_refl _ | refine grow_ext _ ?_ | refine grow_alloc _ ?_ | refine grow_drew ?_)))

theorem opens_axes {h b : Bx} : opensB h b = true ↔ ∀ k : Nat, k < 3 → b.lo k < h.hi k ∧ h.lo k < b.hi k := by
  rw [opens_iff]
  constructor
  · intro ⟨h1, h2, h3, h4, h5, h6⟩ k hk
    have : k = 0 ∨ k = 1 ∨ k = 2 := by omega
    rcases this with rfl | rfl | rfl
    · exact ⟨h1, h2⟩
    · exact ⟨h3, h4⟩
    · exact ⟨h5, h6⟩
  · intro hh
    have h0 := hh 0 (by omega)
    have h1 := hh 1 (by omega)
    have h2 := hh 2 (by omega)
    exact ⟨h0.1, h0.2, h1.1, h1.2, h2.1, h2.2⟩

set_option maxRecDepth 100000 in
set_option maxHeartbeats 2000000 in
theorem refOpens_c (h b : Bx) (w : World) : Calls Try.prog 66 #[(.agg #[.int .i64 h.lx, .int .i64 h.ly, .int .i64 h.lz, .int .i64 h.hx, .int .i64 h.hy, .int .i64 h.hz]), (.agg #[.int .i64 b.lx, .int .i64 b.ly, .int .i64 b.lz, .int .i64 b.hx, .int .i64 b.hy, .int .i64 b.hz])] w (Ret w (.bool (opensB h b))) := by
  go_enter Try.func66, Try.ntmps66
  go_wp2
  go_loopw [5] (fun i wr => ∃ k : Nat, k ≤ 3 ∧ i = .int .i64 k ∧ (∃ x, wr = ext ((w.alloc (.cells #[.int .i64 h.lx, .int .i64 h.ly, .int .i64 h.lz, .int .i64 h.hx, .int .i64 h.hy, .int .i64 h.hz] 28)).alloc (.cells #[.int .i64 b.lx, .int .i64 b.ly, .int .i64 b.lz, .int .i64 b.hx, .int .i64 b.hy, .int .i64 b.hz] 28)) x) ∧ ∀ j : Nat, j < k → b.lo j < h.hi j ∧ h.lo j < b.hi j) (fun i _ => 3 - (intOf i).toNat)
  case atStart => exact ⟨0, by omega, rfl, ext_of (Below.refl _ _), fun j hj => by omega⟩
  case round =>
    obtain ⟨k, hk, rfl, ⟨x, rfl⟩, hall⟩ := hrel
    have HA := Lib.hid hall
    clear hall
    by_cases hlt : k < 3
    · have hk2 : 0 ≤ (k : Int) ∧ (k : Int) ≤ 2 := by omega
      have R1 := Lib.hid (fun w => coordLo_c b k hk2 w)
      have R2 := Lib.hid (fun w => coordHi_c h k hk2 w)
      have R3 := Lib.hid (fun w => coordHi_c b k hk2 w)
      have R4 := Lib.hid (fun w => coordLo_c h k hk2 w)
      have HN := Lib.hid (fun (g : ¬ (b.lo k < h.hi k ∧ h.lo k < b.hi k)) => show opensB h b = false from by
        cases ho : opensB h b
        · rfl
        · exact absurd (opens_axes.1 ho k hlt) g)
      generalize hB1 : b.lo k = B1 at R1 HN
      generalize hB2 : b.hi k = B2 at R3 HN
      generalize hH1 : h.lo k = H1 at R4 HN
      generalize hH2 : h.hi k = H2 at R2 HN
      have E1 := Lib.hid hB1
      have E2 := Lib.hid hB2
      have E3 := Lib.hid hH1
      have E4 := Lib.hid hH2
      clear hB1 hB2 hH1 hH2
      by_cases t1 : H2 ≤ B1
      · have HF := Lib.hid (HN.out (by omega))
        have d1 : decide (H2 ≤ B1) = true := by simpa using t1
        clear hk2
        go_wp2_with fail
        refine wp_region_grows (by kernel_rfl) (by kernel_rfl) ?_
        repeat (go_big_quiet_step (first | (go_at_call_of 13 (Value.agg #[.int .i64 b.lx, .int .i64 b.ly, .int .i64 b.lz]); exact Calls.quiet_ext (R1.out _)) | (go_at_call_of 13 (Value.agg #[.int .i64 h.hx, .int .i64 h.hy, .int .i64 h.hz]); exact Calls.quiet_ext (R2.out _))))
        refine wpQuiet_nil ?_; rintro _ ⟨xq, rfl⟩
        go_wp2
        go_ret
        rw [HF.out]
        exact Ret.of (by (repeat (first | exact grow_refl _ | refine grow_ext _ ?_ | refine grow_alloc _ ?_ | refine grow_drew ?_)))
      · have d1 : decide (H2 ≤ B1) = false := by simpa using t1
        by_cases t2 : B2 ≤ H1
        · have HF := Lib.hid (HN.out (by omega))
          have d2 : decide (B2 ≤ H1) = true := by simpa using t2
          clear hk2
          go_wp2_with fail
          refine wp_region_grows (by kernel_rfl) (by kernel_rfl) ?_
          repeat (go_big_quiet_step (first | (go_at_call_of 13 (Value.agg #[.int .i64 b.lx, .int .i64 b.ly, .int .i64 b.lz]); exact Calls.quiet_ext (R1.out _)) | (go_at_call_of 13 (Value.agg #[.int .i64 h.hx, .int .i64 h.hy, .int .i64 h.hz]); exact Calls.quiet_ext (R2.out _)) | (go_at_call_of 13 (Value.agg #[.int .i64 b.hx, .int .i64 b.hy, .int .i64 b.hz]); exact Calls.quiet_ext (R3.out _)) | (go_at_call_of 13 (Value.agg #[.int .i64 h.lx, .int .i64 h.ly, .int .i64 h.lz]); exact Calls.quiet_ext (R4.out _))))
          refine wpQuiet_nil ?_; rintro _ ⟨xq, rfl⟩
          go_wp2
          go_ret
          rw [HF.out]
          exact Ret.of (by (repeat (first | exact grow_refl _ | refine grow_ext _ ?_ | refine grow_alloc _ ?_ | refine grow_drew ?_)))
        · have d2 : decide (B2 ≤ H1) = false := by simpa using t2
          have HT : Hid (∀ j : Nat, j < k + 1 → b.lo j < h.hi j ∧ h.lo j < b.hi j) := by
            intro j hj
            by_cases e : j = k
            · subst e; rw [E1.out, E2.out, E3.out, E4.out]; omega
            · exact HA.out j (by omega)
          clear hk2
          go_wp2_with fail
          refine wp_region_grows (by kernel_rfl) (by kernel_rfl) ?_
          repeat (go_big_quiet_step (first | (go_at_call_of 13 (Value.agg #[.int .i64 b.lx, .int .i64 b.ly, .int .i64 b.lz]); exact Calls.quiet_ext (R1.out _)) | (go_at_call_of 13 (Value.agg #[.int .i64 h.hx, .int .i64 h.hy, .int .i64 h.hz]); exact Calls.quiet_ext (R2.out _)) | (go_at_call_of 13 (Value.agg #[.int .i64 b.hx, .int .i64 b.hy, .int .i64 b.hz]); exact Calls.quiet_ext (R3.out _)) | (go_at_call_of 13 (Value.agg #[.int .i64 h.lx, .int .i64 h.ly, .int .i64 h.lz]); exact Calls.quiet_ext (R4.out _))))
          refine wpQuiet_nil ?_; rintro _ ⟨xq, rfl⟩
          go_wp2
          go_roundw
          case rel => exact ⟨k + 1, by omega, by go_num, ext_of (by (repeat (first | exact grow_refl _ | refine grow_ext _ ?_ | refine grow_alloc _ ?_ | refine grow_drew ?_))), HT.out⟩
          case measure => simp [intOf]; omega
    · have HT := Lib.hid (show opensB h b = true from opens_axes.2 fun j hj => HA.out j (by omega))
      go_wp2
      go_ret
      rw [HT.out]
      exact Ret.of (by (repeat (first | exact grow_refl _ | refine grow_ext _ ?_ | refine grow_alloc _ ?_ | refine grow_drew ?_)))
theorem refOpens_v (h b : Bx) (r : Bool) (hr : opensB h b = r) (w : World) : Calls Try.prog 66 #[(.agg #[.int .i64 h.lx, .int .i64 h.ly, .int .i64 h.lz, .int .i64 h.hx, .int .i64 h.hy, .int .i64 h.hz]), (.agg #[.int .i64 b.lx, .int .i64 b.ly, .int .i64 b.lz, .int .i64 b.hx, .int .i64 b.hy, .int .i64 b.hz])] w (Ret w (.bool r)) := by subst hr; exact refOpens_c h b w

set_option maxHeartbeats 1000000 in
theorem contains1_c (h b : Bx) (g : Nat) (w : World) (hb : BoxAt w g 0 b) : Calls Try.prog 46 #[(.agg #[.int .i64 h.lx, .int .i64 h.ly, .int .i64 h.lz, .int .i64 h.hx, .int .i64 h.hy, .int .i64 h.hz]), .pointer (some ⟨g, 0, none⟩)] w (Ret w (.bool (opensB h b))) := by
  obtain ⟨c0, c1, c2, c3, c4, c5⟩ := hb
  simp only [Nat.zero_add] at c1 c2 c3 c4 c5
  go_enter Try.func46, Try.ntmps46
  go_wp2_with fail
  go_at_call 47; refine (opens_c h b _).mono ?_; rintro e w' ⟨rfl, x1, rfl⟩
  go_wp2
  go_ret
  exact Ret.of (by (repeat (first | exact grow_refl _ | refine grow_ext _ ?_ | refine grow_alloc _ ?_ | refine grow_drew ?_)))
theorem enters_contains1 : Enters 46 := enters_of Try.func46 (by decide) (by simp [Try.f46])

def containsR17 (l m : List Bx) (b : Bx) : Bool × Int := if solidB l m = true ∧ validB b = true then (containsS l m b, 0) else (false, 1)
theorem covers_ok {l m : List Bx} {b : Bx} (h : solidB l m = true) (hb : validB b = true) : coversV l b = (coversB l b, 0) := by
  have := solid_iff.1 h
  unfold coversV
  rw [if_pos ⟨all_valid this.2.2.1, hb⟩, if_pos (by omega)]

set_option maxHeartbeats 2000000 in
theorem solidContains_c (l m : List Bx) (u t : Value) (b : Bx) (w : World) (hl : Boxes w u l) (hm : Boxes w t m) :
    Calls Try.prog 15 #[.agg #[u, t], (.agg #[.int .i64 b.lx, .int .i64 b.ly, .int .i64 b.lz, .int .i64 b.hx, .int .i64 b.hy, .int .i64 b.hz])] w (Ret w (.tuple #[.bool (containsR17 l m b).1, .int .i64 (containsR17 l m b).2])) := by
  have HL := Lib.hid hl
  have HM := Lib.hid hm
  clear hl hm
  cases hv : solidB l m
  · have HR := Lib.hid (show containsR17 l m b = (false, 1) by unfold containsR17; rw [hv]; simp)
    have HV := Lib.hid hv
    clear hv
    go_enter Try.func15, Try.ntmps15
    go_wp2_with fail
    go_at_call 30; refine (solidValid_v l m _ _ _ HV.out _ (HL.out.below (by (repeat (first | exact grow_refl _ | refine grow_ext _ ?_ | refine grow_alloc _ ?_ | refine grow_drew ?_)))) (HM.out.below (by (repeat (first | exact grow_refl _ | refine grow_ext _ ?_ | refine grow_alloc _ ?_ | refine grow_drew ?_))))).mono ?_; rintro e w' ⟨rfl, x1, rfl⟩
    go_wp2
    go_ret2
    rw [HR.out]
    exact Ret.of (by (repeat (first | exact grow_refl _ | refine grow_ext _ ?_ | refine grow_alloc _ ?_ | refine grow_drew ?_)))
  cases hb : validB b
  · have HR := Lib.hid (show containsR17 l m b = (false, 1) by unfold containsR17; rw [hb]; simp)
    have HV := Lib.hid hv
    have HB := Lib.hid hb
    clear hv hb
    go_enter Try.func15, Try.ntmps15
    go_wp2_with fail
    go_at_call 30; refine (solidValid_v l m _ _ _ HV.out _ (HL.out.below (by (repeat (first | exact grow_refl _ | refine grow_ext _ ?_ | refine grow_alloc _ ?_ | refine grow_drew ?_)))) (HM.out.below (by (repeat (first | exact grow_refl _ | refine grow_ext _ ?_ | refine grow_alloc _ ?_ | refine grow_drew ?_))))).mono ?_; rintro e w' ⟨rfl, x1, rfl⟩
    go_wp2_with fail
    go_at_call 44; refine (valid_v b _ HB.out _).mono ?_; rintro e w' ⟨rfl, x2, rfl⟩
    go_wp2
    go_ret2
    rw [HR.out]
    exact Ret.of (by (repeat (first | exact grow_refl _ | refine grow_ext _ ?_ | refine grow_alloc _ ?_ | refine grow_drew ?_)))
  cases ho : m.any fun h => opensB h b
  · have HR := Lib.hid (show containsR17 l m b = (coversB l b, 0) by unfold containsR17 containsS; rw [hv, hb, ho]; simp)
    have HC := Lib.hid (fun w hl => Covers_c l u b w hl)
    rw [covers_ok hv hb] at HC
    have HV := Lib.hid hv
    have HB := Lib.hid hb
    have HO := Lib.hid ho
    clear hv hb ho
    go_enter Try.func15, Try.ntmps15
    go_wp2_with fail
    go_at_call 30; refine (solidValid_v l m _ _ _ HV.out _ (HL.out.below (by (repeat (first | exact grow_refl _ | refine grow_ext _ ?_ | refine grow_alloc _ ?_ | refine grow_drew ?_)))) (HM.out.below (by (repeat (first | exact grow_refl _ | refine grow_ext _ ?_ | refine grow_alloc _ ?_ | refine grow_drew ?_))))).mono ?_; rintro e w' ⟨rfl, x1, rfl⟩
    go_wp2_with fail
    go_at_call 44; refine (valid_v b _ HB.out _).mono ?_; rintro e w' ⟨rfl, x2, rfl⟩
    go_wp2_with fail
    go_at_call 45
    refine Calls.mono (containsFunc_c 46 enters_contains1 #[.pointer (some ⟨w.heap.size + 1, 0, none⟩)] (fun h => opensB h b) m _ _ (HM.out.below (by (repeat (first | exact grow_refl _ | refine grow_ext _ ?_ | refine grow_alloc _ ?_ | refine grow_drew ?_)))) (fun h y _ => contains1_c h b (w.heap.size + 1) _ (by simp [BoxAt, go_sem]))) ?_
    rintro e w' ⟨rfl, x3, rfl⟩
    rw [HO.out]
    go_wp2_with fail
    go_at_call 48; refine (HC.out _ (HL.out.below (by (repeat (first | exact grow_refl _ | refine grow_ext _ ?_ | refine grow_alloc _ ?_ | refine grow_drew ?_))))).mono ?_; rintro e w' ⟨rfl, x4, rfl⟩
    go_wp2
    go_ret2
    rw [HR.out]
    exact Ret.of (by (repeat (first | exact grow_refl _ | refine grow_ext _ ?_ | refine grow_alloc _ ?_ | refine grow_drew ?_)))
  · have HR := Lib.hid (show containsR17 l m b = (false, 0) by unfold containsR17 containsS; rw [hv, hb, ho]; simp)
    have HV := Lib.hid hv
    have HB := Lib.hid hb
    have HO := Lib.hid ho
    clear hv hb ho
    go_enter Try.func15, Try.ntmps15
    go_wp2_with fail
    go_at_call 30; refine (solidValid_v l m _ _ _ HV.out _ (HL.out.below (by (repeat (first | exact grow_refl _ | refine grow_ext _ ?_ | refine grow_alloc _ ?_ | refine grow_drew ?_)))) (HM.out.below (by (repeat (first | exact grow_refl _ | refine grow_ext _ ?_ | refine grow_alloc _ ?_ | refine grow_drew ?_))))).mono ?_; rintro e w' ⟨rfl, x1, rfl⟩
    go_wp2_with fail
    go_at_call 44; refine (valid_v b _ HB.out _).mono ?_; rintro e w' ⟨rfl, x2, rfl⟩
    go_wp2_with fail
    go_at_call 45
    refine Calls.mono (containsFunc_c 46 enters_contains1 #[.pointer (some ⟨w.heap.size + 1, 0, none⟩)] (fun h => opensB h b) m _ _ (HM.out.below (by (repeat (first | exact grow_refl _ | refine grow_ext _ ?_ | refine grow_alloc _ ?_ | refine grow_drew ?_)))) (fun h y _ => contains1_c h b (w.heap.size + 1) _ (by simp [BoxAt, go_sem]))) ?_
    rintro e w' ⟨rfl, x3, rfl⟩
    rw [HO.out]
    go_wp2
    go_ret2
    rw [HR.out]
    exact Ret.of (by (repeat (first | exact grow_refl _ | refine grow_ext _ ?_ | refine grow_alloc _ ?_ | refine grow_drew ?_)))
theorem solidContains_v (l m : List Bx) (u t : Value) (b : Bx) (r : Bool × Int) (h : containsR17 l m b = r) (w : World) (hl : Boxes w u l) (hm : Boxes w t m) :
    Calls Try.prog 15 #[.agg #[u, t], (.agg #[.int .i64 b.lx, .int .i64 b.ly, .int .i64 b.lz, .int .i64 b.hx, .int .i64 b.hy, .int .i64 b.hz])] w (Ret w (.tuple #[.bool r.1, .int .i64 r.2])) := by subst h; exact solidContains_c l m u t b w hl hm

def insideR (l m : List Bx) (x y z : Int) : Bool × Int := if solidB l m = true then (if validB (ptX x y z) = true then (containsS l m (ptX x y z), 0) else (false, 2)) else (false, 1)
set_option maxHeartbeats 2000000 in
theorem solidInside_c (l m : List Bx) (u t : Value) (x y z : Int) (w : World) (hl : Boxes w u l) (hm : Boxes w t m) :
    Calls Try.prog 16 #[.agg #[u, t], (.agg #[.int .i64 x, .int .i64 y, .int .i64 z])] w (Ret w (.tuple #[.bool (insideR l m x y z).1, .int .i64 (insideR l m x y z).2])) := by
  have HL := Lib.hid hl
  have HM := Lib.hid hm
  clear hl hm
  cases hv : solidB l m
  · have HR := Lib.hid (show insideR l m x y z = (false, 1) by unfold insideR; rw [hv]; rfl)
    have HV := Lib.hid hv
    clear hv
    go_enter Try.func16, Try.ntmps16
    go_wp2_with fail
    go_at_call 30; refine (solidValid_v l m _ _ _ HV.out _ (HL.out.below (by (repeat (first | exact grow_refl _ | refine grow_ext _ ?_ | refine grow_alloc _ ?_ | refine grow_drew ?_)))) (HM.out.below (by (repeat (first | exact grow_refl _ | refine grow_ext _ ?_ | refine grow_alloc _ ?_ | refine grow_drew ?_))))).mono ?_; rintro e w' ⟨rfl, x1, rfl⟩
    go_wp2
    go_ret2
    rw [HR.out]
    exact Ret.of (by (repeat (first | exact grow_refl _ | refine grow_ext _ ?_ | refine grow_alloc _ ?_ | refine grow_drew ?_)))
  cases hb : validB (ptX x y z)
  · have HR := Lib.hid (show insideR l m x y z = (false, 2) by unfold insideR; rw [hv, hb]; rfl)
    have HV := Lib.hid hv
    have HB := Lib.hid hb
    clear hv hb
    go_enter Try.func16, Try.ntmps16
    go_wp2_with fail
    go_at_call 30; refine (solidValid_v l m _ _ _ HV.out _ (HL.out.below (by (repeat (first | exact grow_refl _ | refine grow_ext _ ?_ | refine grow_alloc _ ?_ | refine grow_drew ?_)))) (HM.out.below (by (repeat (first | exact grow_refl _ | refine grow_ext _ ?_ | refine grow_alloc _ ?_ | refine grow_drew ?_))))).mono ?_; rintro e w' ⟨rfl, x1, rfl⟩
    go_wp2_with fail
    go_at_call 44; refine (valid_v (ptX x y z) _ HB.out _).mono ?_; rintro e w' ⟨rfl, x2, rfl⟩
    go_wp2
    go_ret2
    rw [HR.out]
    exact Ret.of (by (repeat (first | exact grow_refl _ | refine grow_ext _ ?_ | refine grow_alloc _ ?_ | refine grow_drew ?_)))
  · have HR := Lib.hid (show insideR l m x y z = (containsS l m (ptX x y z), 0) by unfold insideR; rw [hv, hb]; rfl)
    have HC := Lib.hid (show containsR17 l m (ptX x y z) = (containsS l m (ptX x y z), 0) by unfold containsR17; rw [hv, hb]; simp)
    have HV := Lib.hid hv
    have HB := Lib.hid hb
    clear hv hb
    go_enter Try.func16, Try.ntmps16
    go_wp2_with fail
    go_at_call 30; refine (solidValid_v l m _ _ _ HV.out _ (HL.out.below (by (repeat (first | exact grow_refl _ | refine grow_ext _ ?_ | refine grow_alloc _ ?_ | refine grow_drew ?_)))) (HM.out.below (by (repeat (first | exact grow_refl _ | refine grow_ext _ ?_ | refine grow_alloc _ ?_ | refine grow_drew ?_))))).mono ?_; rintro e w' ⟨rfl, x1, rfl⟩
    go_wp2_with fail
    go_at_call 44; refine (valid_v (ptX x y z) _ HB.out _).mono ?_; rintro e w' ⟨rfl, x2, rfl⟩
    go_wp2_with fail
    go_at_call 15; refine (solidContains_v l m _ _ (ptX x y z) _ HC.out _ (HL.out.below (by (repeat (first | exact grow_refl _ | refine grow_ext _ ?_ | refine grow_alloc _ ?_ | refine grow_drew ?_)))) (HM.out.below (by (repeat (first | exact grow_refl _ | refine grow_ext _ ?_ | refine grow_alloc _ ?_ | refine grow_drew ?_))))).mono ?_; rintro e w' ⟨rfl, x3, rfl⟩
    go_wp2
    go_ret2
    rw [HR.out]
    exact Ret.of (by (repeat (first | exact grow_refl _ | refine grow_ext _ ?_ | refine grow_alloc _ ?_ | refine grow_drew ?_)))
theorem solidInside_v (l m : List Bx) (u t : Value) (x y z : Int) (r : Bool × Int) (h : insideR l m x y z = r) (w : World) (hl : Boxes w u l) (hm : Boxes w t m) :
    Calls Try.prog 16 #[.agg #[u, t], (.agg #[.int .i64 x, .int .i64 y, .int .i64 z])] w (Ret w (.tuple #[.bool r.1, .int .i64 r.2])) := by subst h; exact solidInside_c l m u t x y z w hl hm

end Go.Proofs.Ytafkibnkpcmmgaa

namespace Go.Proofs.Ytafkibnkpcmmgaa
open Go.RowKit
set_option maxRecDepth 20000

theorem run_append_none {P : Program} (w : World) (base : Nat) (t ty e : TypeId) (i : TypeInfo) (size c : Nat) (ht : P.underlying t = some (.slice e)) (hi : P.info? e = some i)
    (v : Value) (n : Nat) (xs : List Value) (hown : w.ownsRow base e size v n xs) :
    (Builtin.append_ #[t, t] ty #[v, .slice none 0 c]).run P w = .ok v w := by
  rcases hown.2 with ⟨rfl, rfl⟩ | ⟨g, cap, cur, rfl, _, _, hnc, _⟩
  · simp [Builtin.append_, run_underlying ht, sizeOf, typeInfo, hi, Builtin.lenOf, Builtin.firstCells]
  · simp [Builtin.append_, run_underlying ht, sizeOf, typeInfo, hi, Builtin.lenOf, Builtin.firstCells, hnc, storeCells]

/-- append(s, x...) of whatever slice. -/
theorem app_any {P : Program} {ops : Array Oper} {rest : List Oper} {o : Oper} {a : Act} {Q : Exit → Act → World → Prop} (hgd : o.guard = none) (s x : Operand) (t : TypeId)
    (ho : o.op = .call { callee := .builtin .append, args := #[s, x], argTypes := #[t, t] })
    (e : TypeId) (z : Value) (size bytes : Nat) (ht : P.underlying t = some (.slice e)) (hi : (P.info? e).map (fun i => (i.zero, i.size, i.bytes)) = some (some z, size, bytes)) (hzs : z.cells.size = size) (hsz : 0 < size)
    (B : World) (v : Value) (n : Nat) (xs : List Value) (w : World) (hs : a.eval s = v) (hown : w.ownsRow B.heap.size e size v n xs)
    (ad : Option Addr) (m c : Nat) (news : List Value) (hx : a.eval x = .slice ad m c) (hl : news.length = m * size) (hnil : ad = none → m = 0) (hnews : ∀ a', ad = some a' → ∀ j u, news[j]? = some u → w.cell? (a'.add j) = some u) (h1 : ∀ u ∈ news, u.oneCell' = true)
    (hroom : (n + m) * bytes ≤ 140737488355328) (hby : 0 < bytes) (hB : Below B.heap.size B w)
    (h : ∀ v' y, (ext B y).ownsRow B.heap.size e size v' (n + m) (xs ++ news) → w.grownBy (ext B y) v.ownBlock → wpList P ops Q rest (a.put o.dst v') (ext B y)) : wpList P ops Q (o :: rest) a w := by
  cases ad with
  | some ad => exact app_own_at hgd s x t ho e z size bytes ht hi hzs hsz B v n xs w hs hown ad m c news hx hl (hnews ad rfl) h1 hroom hby hB h
  | none =>
    obtain rfl := hnil rfl
    obtain ⟨i0, hi, hz0, hz1, hz2⟩ := info_parts hi
    have hn0 : news = [] := List.eq_nil_of_length_eq_zero (by omega)
    subst hn0
    refine Lib.wpList_append_run w hgd s x t t ho v _ hs hx v w (run_append_none w B.heap.size t o.type e i0 size c ht hi v n xs hown) ?_
    obtain ⟨y, hy⟩ := ext_of hB
    rw [hy]
    exact h v y (by rw [← hy]; simpa using hown) (by rw [← hy]; exact ⟨rfl, rfl, rfl, Nat.le_refl _, fun _ _ _ => rfl⟩)

theorem Boxes.slice {w : World} {v : Value} {l : List Bx} (h : Boxes w v l) : ∃ a cap, v = .slice a l.length cap ∧ l.length ≤ cap ∧ cap ≤ 9223372036854775807 ∧ (a = none → l.length = 0) ∧ ∀ a', a = some a' → ∀ j u, (boxCells l)[j]? = some u → w.cell? (a'.add j) = some u := by
  obtain ⟨a, cap, rfl, h1, h2, h3⟩ := h.shape
  refine ⟨a, cap, rfl, h1, h2, fun ha => ?_, fun a' ha => ?_⟩
  · subst ha
    rcases Nat.eq_zero_or_pos l.length with e | e
    · exact e
    · obtain ⟨_, _, e', _⟩ := h3 0 e; cases e'
  · subst ha; exact h.cells

set_option maxRecDepth 100000 in
set_option maxHeartbeats 400000 in
theorem growNil_c (n : Nat) (hn : n ≤ 100000) (w : World) :
    Calls Try.prog 53 #[.slice none 0 0, .int .i64 n] w (RetOwn w 28 6 0 []) := by
  rcases Nat.eq_zero_or_pos n with rfl | h0
  · go_enter Try.func53, Try.ntmps53
    go_wp2
    go_ret
    exact ⟨_, rfl, World.ownsRow_nil _ _ _ _, ext_of (by (repeat (first | exact grow_refl _ | refine grow_ext _ ?_ | refine grow_alloc _ ?_ | refine grow_drew ?_)))⟩
  · obtain ⟨i0, hi0, hz0, hz1, hz2⟩ := info_parts info_box'
    have hm : grownCap w n 0 28 ≤ maxLen := grownCap_le_maxLen w n 0 _ (by unfold maxLen; omega)
    have hge := grownCap_ge w n 0 28
    have hr := Lib.hid (fun ty => Lib.run_append_nil_zeros (P := Try.prog) w 22 3 ty 28 i0 (.agg #[.int .i64 0, .int .i64 0, .int .i64 0, .int .i64 0, .int .i64 0, .int .i64 0]) .i64 .i64 Try.underlying22 Try.underlying3 hi0 hz0 n h0 (by omega) (by omega) (by rw [hz2]; omega))
    have hp : (0 : Int) < (n : Int) := by omega
    have hn2 : (n : Int) ≤ 100000 := by omega
    generalize grownCap w n 0 28 = C at *
    have HM := Lib.hid hm
    have HG := Lib.hid hge
    have hc2 : C ≤ 9223372036854775807 := hm
    clear hm
    go_enter Try.func53, Try.ntmps53
    go_wp2_with (at_builtin; refine Lib.wpList_append_run w rfl _ _ 22 3 rfl (.slice none 0 0) (.int .i64 n) rfl rfl _ _ (hr.out _) ?_)
    go_ret
    refine ⟨_, rfl, ?_, ext_of ?_⟩
    · have := HG.out
      refine own_drew (World.ownsRow_made w _ C (Nat.le_refl _) HM.out ?_)
      rw [Array.size_append, size_zeroCells, size_zeroCells]
      show n * 6 + (C - n) * 6 = C * 6
      omega
    · (repeat (first | exact grow_refl _ | refine grow_ext _ ?_ | refine grow_alloc _ ?_ | refine grow_drew ?_))

set_option maxRecDepth 100000 in
set_option maxHeartbeats 2000000 in
theorem concat_c (l m : List Bx) (u t : Value) (g : Nat) (w : World) (hl : Boxes w u l) (hm : Boxes w t m) (hll : l.length ≤ 1000) (hml : m.length ≤ 1000) (c0 : w.cell? ⟨g, 0, none⟩ = some u) (c1 : w.cell? ⟨g, 1, none⟩ = some t) :
    Calls Try.prog 20 #[.slice (some ⟨g, 0, none⟩) 2 2] w (RetOwn w 28 6 (l ++ m).length (boxCells (l ++ m))) := by
  obtain ⟨a, cap, rfl, hcap, hcap2, hnil, hcell⟩ := hl.slice
  obtain ⟨a', cap', rfl, hcap', hcap2', hnil', hcell'⟩ := hm.slice
  have HC := Lib.hid hcell
  have HC' := Lib.hid hcell'
  have HN := Lib.hid hnil
  have HN' := Lib.hid hnil'
  clear hl hm hcell hcell' hnil hnil'
  have e1 : ((l.length : Int) + (m.length : Int)) = ((l.length + m.length : Nat) : Int) := by omega
  have HE := Lib.hid e1
  have hlm : l.length + m.length ≤ 100000 := by omega
  have n1 : ¬ ((l.length : Int) + (m.length : Int) < 0) := by omega
  have n0 : ¬ ((l.length : Int) < 0) := by omega
  clear e1
  go_enter Try.func20, Try.ntmps20
  go_wp2
  refine wp_loop_rounds 3 ?_
  rw [rounds_succ]
  go_wp2
  rw [rounds_succ]
  go_wp2
  rw [rounds_succ]
  go_wp2_with fail
  rw [HE.out]
  go_at_call 53; refine Calls.mono (growNil_c (l.length + m.length) hlm _) ?_; rintro e w' ⟨v1, rfl, hown1, x1, rfl⟩
  have O1 := Lib.hid hown1
  clear hown1
  go_wp2
  refine wp_loop_rounds 3 ?_
  rw [rounds_succ]
  go_wp2_with (at_builtin; refine app_any rfl _ _ 22 rfl 28 (.agg #[.int .i64 0, .int .i64 0, .int .i64 0, .int .i64 0, .int .i64 0, .int .i64 0]) 6 48 Try.underlying22 info_box' rfl (by decide) w v1 0 [] _ rfl O1.out a l.length cap (boxCells l) rfl (boxCells_length l) HN.out ?_ (boxCells_one l) ?_ (by decide) ?_ ?_; (exact fun a2 ha j q hj => cell_ext_some (HC.out a2 ha j q hj) _); omega; (repeat (first | exact grow_refl _ | refine grow_ext _ ?_ | refine grow_alloc _ ?_ | refine grow_drew ?_)); intro v2 x2 hown2 hgrow2)
  have O2 := Lib.hid hown2
  clear hown2 hgrow2
  rw [rounds_succ]
  go_wp2_with (at_builtin; refine app_any rfl _ _ 22 rfl 28 (.agg #[.int .i64 0, .int .i64 0, .int .i64 0, .int .i64 0, .int .i64 0, .int .i64 0]) 6 48 Try.underlying22 info_box' rfl (by decide) w v2 (0 + l.length) ([] ++ boxCells l) _ rfl O2.out a' m.length cap' (boxCells m) rfl (boxCells_length m) HN'.out ?_ (boxCells_one m) ?_ (by decide) ?_ ?_; (exact fun a2 ha j q hj => cell_ext_some (HC'.out a2 ha j q hj) _); omega; (repeat (first | exact grow_refl _ | refine grow_ext _ ?_ | refine grow_alloc _ ?_ | refine grow_drew ?_)); intro v3 x3 hown3 hgrow3)
  have O3 := Lib.hid hown3
  clear hown3 hgrow3
  rw [rounds_succ]
  go_wp2
  go_ret
  refine ⟨_, rfl, ?_, ⟨_, rfl⟩⟩
  have := O3.out
  rw [Nat.zero_add, List.nil_append, ← boxCells_append, ← List.length_append] at this
  exact this

end Go.Proofs.Ytafkibnkpcmmgaa

