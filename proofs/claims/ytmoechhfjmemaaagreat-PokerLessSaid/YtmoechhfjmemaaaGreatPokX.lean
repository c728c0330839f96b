/- PokerPlaces: the walk of the law. Printed by mkpokx.py. -/
import Derived.Test.YtmoechhfjmemaaaGreatPokK6
import Derived.Test.YtmoechhfjmemaaaGreatPokK4
namespace Go.Proofs.YtmoechhfjmemaaaGreat
open Go.RowKit
set_option maxRecDepth 20000

theorem RetPtsE.open0 {w : World} {err : Int} {e : Ending} {W : World} (h : RetPtsE w [] err e W) : ∃ a c, e = .returned (.tuple #[.slice a 0 c, .int .i64 err]) ∧ c ≤ 9223372036854775807 ∧ ∃ x, W = ext w x := by
  obtain ⟨a, c, h1, -, h3, -, h5⟩ := h.open
  exact ⟨a, c, h1, h3, h5⟩

set_option maxRecDepth 100000 in
set_option maxHeartbeats 2000000 in
theorem equalPts_c (l : List Pt) (v v' : Value) (w : World) (h1 : Pts w v l) (h2 : Pts w v' l) :
    Calls Tryz.prog 35 #[v, v'] w (Ret w (.bool true)) := by
  obtain ⟨a, cap, rfl, hc1, hc2, hp⟩ := h1
  obtain ⟨b, cap', rfl, hd1, hd2, hq⟩ := h2
  have HP := Lib.hid hp
  have HQ := Lib.hid hq
  clear hp hq
  have hb : ((l.length : Int) == (l.length : Int)) = true := by simp
  have hb' : ((l.length : Int) != (l.length : Int)) = false := by simp
  go_enter Tryz.func35, Tryz.ntmps35
  go_wp2_with fail
  go_loopw [13] (fun i wr => ∃ k : Nat, k ≤ l.length ∧ i = .int .i64 k ∧ (∃ x, wr = ext w x)) (fun i _ => l.length - (intOf i).toNat)
  case atStart => exact ⟨0, Nat.zero_le _, rfl, ext_of (by (repeat (first | exact grow_refl _ | refine grow_ext _ ?_ | refine grow_alloc _ ?_ | refine grow_drew ?_)))⟩
  case round =>
    obtain ⟨k, hk, rfl, ⟨x, rfl⟩⟩ := hrel
    by_cases hlt : k < l.length
    · obtain ⟨g, o, rfl, c0, c1, c2⟩ := HP.out k hlt
      obtain ⟨g', o', rfl, d0, d1, d2⟩ := HQ.out k hlt
      have c0 := cell_ext_some c0 x
      have c1 := cell_ext_some c1 x
      have c2 := cell_ext_some c2 x
      have d0 := cell_ext_some d0 x
      have d1 := cell_ext_some d1 x
      have d2 := cell_ext_some d2 x
      have i1 : (0 : Int) ≤ (k : Int) := by omega
      have i2 : (k : Int) < (l.length : Int) := by omega
      generalize l[k] = m at *
      go_wp2_with fail
      refine wp_region_grows (by kernel_rfl) (by kernel_rfl) ?_
      repeat (go_big_quiet_step (fail))
      refine wpQuiet_nil ?_; rintro _ ⟨xq, rfl⟩
      go_wp2
      go_roundw
      case rel => exact ⟨k + 1, by omega, by go_num, ext_of (by (repeat (first | exact grow_refl _ | refine grow_ext _ ?_ | refine grow_alloc _ ?_ | refine grow_drew ?_)))⟩
      case measure => simp [intOf]; omega
    · obtain rfl : k = l.length := by omega
      go_wp2
      go_ret
      exact Ret.of (by (repeat (first | exact grow_refl _ | refine grow_ext _ ?_ | refine grow_alloc _ ?_ | refine grow_drew ?_)))

set_option maxRecDepth 100000 in
set_option maxHeartbeats 4000000 in
theorem large22_c (q : Mb) (st : Int) (hm : okMb q = true) (w : World) (hq : MbAt w q) : Calls Tryz.prog 30 #[(.agg #[.string q.name, q.u, q.t, .int .i64 q.cover, .int .i64 q.agg, .int .i64 q.poker]), .int .i64 st] w (RetB w) := by
  have HQ := Lib.hid hq
  have hs := (okMb_facts hm).1
  have HST := Lib.hid (fun r h w => rStep_v st r h w)
  cases hst : stepB st
  · have HS := Lib.hid (HST.out _ hst)
    clear hq hm hs hst HST
    go_enter Tryz.func30, Tryz.ntmps30
    go_wp2_with fail
    go_at_call 33; refine (HS.out _).mono ?_; rintro e w' ⟨rfl, x1, rfl⟩
    go_wp2
    go_ret
    exact ⟨_, rfl, ext_of (by (repeat (first | exact grow_refl _ | refine grow_ext _ ?_ | refine grow_alloc _ ?_ | refine grow_drew ?_)))⟩
  have HS := Lib.hid (HST.out _ hst)
  obtain ⟨h1, h2⟩ := stepB_iff.1 hst
  have HLA := Lib.hid (fun w hq => rLarge_v q st _ rfl hs h1 w hq)
  cases hlg : largeB q st
  case true =>
    rw [hlg] at HLA
    clear hq hm hs hst HST h1 h2 hlg
    go_enter Tryz.func30, Tryz.ntmps30
    go_wp2_with fail
    go_at_call 33; refine (HS.out _).mono ?_; rintro e w' ⟨rfl, x1, rfl⟩
    go_wp2_with fail
    go_at_call 34; refine (HLA.out _ (HQ.out.below (by (repeat (first | exact grow_refl _ | refine grow_ext _ ?_ | refine grow_alloc _ ?_ | refine grow_drew ?_))))).mono ?_; rintro e w' ⟨rfl, x2, rfl⟩
    go_wp2
    go_ret
    exact ⟨_, rfl, ext_of (by (repeat (first | exact grow_refl _ | refine grow_ext _ ?_ | refine grow_alloc _ ?_ | refine grow_drew ?_)))⟩
  rw [hlg] at HLA
  have HH := Lib.hid (fun w hl => refSolHull_c q.l q.u q.t (solid_some hs) w hl)
  obtain ⟨v1, v2, v3, v4, v5, v6, v7, v8, v9⟩ := valid_iff.1 (hull_in hs)
  have hfw := hlg
  unfold largeB at hfw
  simp only [Bool.or_eq_false_iff, decide_eq_false_iff_not] at hfw
  generalize hullX q.l = H at *
  obtain ⟨lx, ly, lz, hx, hy, hz⟩ := H
  simp only at *
  have ex := cnt_in v2 h1
  have ey := cnt_in v5 h1
  have ez := cnt_in v8 h1
  have qx : (hx - lx).tdiv st + 1 = cntI lx hx st := by unfold cntI; rw [Int.tdiv_eq_ediv_of_nonneg (by omega)]
  have qy : (hy - ly).tdiv st + 1 = cntI ly hy st := by unfold cntI; rw [Int.tdiv_eq_ediv_of_nonneg (by omega)]
  have qz : (hz - lz).tdiv st + 1 = cntI lz hz st := by unfold cntI; rw [Int.tdiv_eq_ediv_of_nonneg (by omega)]
  generalize cntI lx hx st = X at *
  generalize cntI ly hy st = Y at *
  generalize cntI lz hz st = Z at *
  obtain ⟨kx, ekx⟩ : ∃ k, (hx - lx).tdiv st = k := ⟨_, rfl⟩
  obtain ⟨ky, eky⟩ : ∃ k, (hy - ly).tdiv st = k := ⟨_, rfl⟩
  obtain ⟨kz, ekz⟩ : ∃ k, (hz - lz).tdiv st = k := ⟨_, rfl⟩
  rw [ekx] at qx
  rw [eky] at qy
  rw [ekz] at qz
  obtain ⟨M, hM⟩ : ∃ M, X * Y = M := ⟨_, rfl⟩
  rw [hM] at hfw
  have hm0 : 0 ≤ M := by rw [← hM]; exact Int.mul_nonneg (by omega) (by omega)
  obtain ⟨P, hP⟩ : ∃ P, M * Z = P := ⟨_, rfl⟩
  rw [hP] at hfw
  have hp0 : 0 ≤ P := by rw [← hP]; exact Int.mul_nonneg (by omega) (by omega)
  have w1 : IntKind.i64.wrap M = M := IntWalk.i64_in _ (by omega)
  have w2 : IntKind.i64.wrap P = P := IntWalk.i64_in _ (by omega)
  have z1 : st ≠ 0 := by omega
  have RX : 0 ≤ kx ∧ kx ≤ 5000 := by omega
  have RY : 0 ≤ ky ∧ ky ≤ 2097152 := by omega
  have RZ : 0 ≤ kz ∧ kz ≤ 2097152 := by omega
  clear hq hm hs hst HST hlg hfw ex ey ez
  go_enter Tryz.func30, Tryz.ntmps30
  go_wp2_with fail
  go_at_call 33; refine (HS.out _).mono ?_; rintro e w' ⟨rfl, x1, rfl⟩
  go_wp2_with fail
  go_at_call 34; refine (HLA.out _ (HQ.out.below (by (repeat (first | exact grow_refl _ | refine grow_ext _ ?_ | refine grow_alloc _ ?_ | refine grow_drew ?_))))).mono ?_; rintro e w' ⟨rfl, x2, rfl⟩
  go_wp2_with fail
  go_at_call 58; refine (HH.out _ (HQ.out.boxes.below (by (repeat (first | exact grow_refl _ | refine grow_ext _ ?_ | refine grow_alloc _ ?_ | refine grow_drew ?_))))).mono ?_; rintro e w' ⟨rfl, x3, rfl⟩
  go_wp2_with fail
  refine wp_region_grows (by kernel_rfl) (by kernel_rfl) ?_
  repeat (go_big_quiet_step (fail))
  refine wpQuiet_nil ?_; rintro _ ⟨xq, rfl⟩
  go_wp2
  go_ret
  exact ⟨_, rfl, ext_of (by (repeat (first | exact grow_refl _ | refine grow_ext _ ?_ | refine grow_alloc _ ?_ | refine grow_drew ?_)))⟩

set_option maxHeartbeats 2000000 in
theorem given22n_v (q : Mb) (l : List Br) (rs : List Rn) (v u : Value) (hm : okMb q = false) (w : World) (hq : MbAt w q) (_ : Bars w v l) (_ : Runs w u rs) :
    Calls Tryz.prog 19 #[(.agg #[.string q.name, q.u, q.t, .int .i64 q.cover, .int .i64 q.agg, .int .i64 q.poker]), v, u] w (Ret w (.int .i64 1)) := by
  have HQ := Lib.hid hq
  have HM := Lib.hid (fun w hl hm' => refMember_v q.name q.l q.m q.u q.t q.cover q.agg q.poker false hm hq.name w hl hm')
  clear hq hm
  go_enter Tryz.func19, Tryz.ntmps19
  go_wp2_with fail
  go_at_call 15; refine (HM.out _ (HQ.out.boxes.below (by (repeat (first | exact grow_refl _ | refine grow_ext _ ?_ | refine grow_alloc _ ?_ | refine grow_drew ?_)))) (HQ.out.holes.below (by (repeat (first | exact grow_refl _ | refine grow_ext _ ?_ | refine grow_alloc _ ?_ | refine grow_drew ?_))))).mono ?_; rintro e w' ⟨rfl, x1, rfl⟩
  go_wp2
  go_ret
  exact Ret.of (by (repeat (first | exact grow_refl _ | refine grow_ext _ ?_ | refine grow_alloc _ ?_ | refine grow_drew ?_)))

set_option maxRecDepth 100000 in
set_option maxHeartbeats 8000000 in
theorem lawPP_a (q : Mb) (l : List Br) (rs : List Rn) (v u : Value) (st : Int) (hm : okMb q = false) (w : World) (hq : MbAt w q) (hl : Bars w v l) (hr : Runs w u rs) :
    Calls Tryz.prog 7 #[(.agg #[.string q.name, q.u, q.t, .int .i64 q.cover, .int .i64 q.agg, .int .i64 q.poker]), v, u, .int .i64 st] w (Ret w (.bool true)) := by
  have HQ := Lib.hid hq
  have HL := Lib.hid hl
  have HR := Lib.hid hr
  have HM := Lib.hid (fun w hl hm' => refMember_v q.name q.l q.m q.u q.t q.cover q.agg q.poker false hm hq.name w hl hm')
  have HP := Lib.hid (fun w hq hl hr => pPlaces_c q l rs v u st _ _ (show placesE q l rs st = ([], 1) by unfold placesE; rw [if_neg (fun h => by rw [hm] at h; cases h.1)]) w hq hl hr)
  have HG := Lib.hid (fun w hq hl hr => given22n_v q l rs v u hm w hq hl hr)
  clear hq hl hr hm
  go_enter Tryz.func7, Tryz.ntmps7
  go_wp2_with fail
  go_at_call 11; refine (awake22_c _).mono ?_; rintro e w' ⟨rfl, x0, rfl⟩
  go_wp2_with fail
  go_at_call 12; refine (few22_c q l rs v u _ (HQ.out.below (by (repeat (first | exact grow_refl _ | refine grow_ext _ ?_ | refine grow_alloc _ ?_ | refine grow_drew ?_)))) (HL.out.below (by (repeat (first | exact grow_refl _ | refine grow_ext _ ?_ | refine grow_alloc _ ?_ | refine grow_drew ?_)))) (HR.out.below (by (repeat (first | exact grow_refl _ | refine grow_ext _ ?_ | refine grow_alloc _ ?_ | refine grow_drew ?_))))).mono ?_; rintro e w' ⟨q0, rfl, x1, rfl⟩
  cases q0
  · go_wp2
    go_ret
    exact Ret.of (by (repeat (first | exact grow_refl _ | refine grow_ext _ ?_ | refine grow_alloc _ ?_ | refine grow_drew ?_)))
  go_wp2_with fail
  go_at_call 15; refine (HM.out _ (HQ.out.boxes.below (by (repeat (first | exact grow_refl _ | refine grow_ext _ ?_ | refine grow_alloc _ ?_ | refine grow_drew ?_)))) (HQ.out.holes.below (by (repeat (first | exact grow_refl _ | refine grow_ext _ ?_ | refine grow_alloc _ ?_ | refine grow_drew ?_))))).mono ?_; rintro e w' ⟨rfl, x2, rfl⟩
  go_wp2_with fail
  go_at_call 31; refine (HP.out _ (HQ.out.below (by (repeat (first | exact grow_refl _ | refine grow_ext _ ?_ | refine grow_alloc _ ?_ | refine grow_drew ?_)))) (HL.out.below (by (repeat (first | exact grow_refl _ | refine grow_ext _ ?_ | refine grow_alloc _ ?_ | refine grow_drew ?_)))) (HR.out.below (by (repeat (first | exact grow_refl _ | refine grow_ext _ ?_ | refine grow_alloc _ ?_ | refine grow_drew ?_))))).mono ?_; rintro e w' hret
  obtain ⟨ap, cp, rfl, kp, x4, rfl⟩ := hret.open0
  go_wp2_with fail
  go_at_call 19; refine (HG.out _ (HQ.out.below (by (repeat (first | exact grow_refl _ | refine grow_ext _ ?_ | refine grow_alloc _ ?_ | refine grow_drew ?_)))) (HL.out.below (by (repeat (first | exact grow_refl _ | refine grow_ext _ ?_ | refine grow_alloc _ ?_ | refine grow_drew ?_)))) (HR.out.below (by (repeat (first | exact grow_refl _ | refine grow_ext _ ?_ | refine grow_alloc _ ?_ | refine grow_drew ?_))))).mono ?_; rintro e w' ⟨rfl, x5, rfl⟩
  go_wp2
  go_ret
  exact Ret.of (by (repeat (first | exact grow_refl _ | refine grow_ext _ ?_ | refine grow_alloc _ ?_ | refine grow_drew ?_)))

set_option maxRecDepth 100000 in
set_option maxHeartbeats 8000000 in
theorem lawPP_b (q : Mb) (l : List Br) (rs : List Rn) (v u : Value) (st : Int) (hm : okMb q = true) (hv : laidB l rs = false) (w : World) (hq : MbAt w q) (hl : Bars w v l) (hr : Runs w u rs) :
    Calls Tryz.prog 7 #[(.agg #[.string q.name, q.u, q.t, .int .i64 q.cover, .int .i64 q.agg, .int .i64 q.poker]), v, u, .int .i64 st] w (Ret w (.bool true)) := by
  have HQ := Lib.hid hq
  have HL := Lib.hid hl
  have HR := Lib.hid hr
  have HM := Lib.hid (fun w hl hm' => refMember_v q.name q.l q.m q.u q.t q.cover q.agg q.poker true hm hq.name w hl hm')
  have HLG := Lib.hid (fun w hq => large22_c q st hm w hq)
  have HP := Lib.hid (fun w hq hl hr => pPlaces_c q l rs v u st _ _ (show placesE q l rs st = ([], 1) by unfold placesE; rw [if_neg (fun h => by rw [hv] at h; cases h.2)]) w hq hl hr)
  have HG := Lib.hid (fun w hq hl hr => given22_v q l rs v u false hv hm w hq hl hr)
  simp only [Bool.false_eq_true, if_false] at HG
  clear hq hl hr hm hv
  go_enter Tryz.func7, Tryz.ntmps7
  go_wp2_with fail
  go_at_call 11; refine (awake22_c _).mono ?_; rintro e w' ⟨rfl, x0, rfl⟩
  go_wp2_with fail
  go_at_call 12; refine (few22_c q l rs v u _ (HQ.out.below (by (repeat (first | exact grow_refl _ | refine grow_ext _ ?_ | refine grow_alloc _ ?_ | refine grow_drew ?_)))) (HL.out.below (by (repeat (first | exact grow_refl _ | refine grow_ext _ ?_ | refine grow_alloc _ ?_ | refine grow_drew ?_)))) (HR.out.below (by (repeat (first | exact grow_refl _ | refine grow_ext _ ?_ | refine grow_alloc _ ?_ | refine grow_drew ?_))))).mono ?_; rintro e w' ⟨q0, rfl, x1, rfl⟩
  cases q0
  · go_wp2
    go_ret
    exact Ret.of (by (repeat (first | exact grow_refl _ | refine grow_ext _ ?_ | refine grow_alloc _ ?_ | refine grow_drew ?_)))
  go_wp2_with fail
  go_at_call 15; refine (HM.out _ (HQ.out.boxes.below (by (repeat (first | exact grow_refl _ | refine grow_ext _ ?_ | refine grow_alloc _ ?_ | refine grow_drew ?_)))) (HQ.out.holes.below (by (repeat (first | exact grow_refl _ | refine grow_ext _ ?_ | refine grow_alloc _ ?_ | refine grow_drew ?_))))).mono ?_; rintro e w' ⟨rfl, x2, rfl⟩
  go_wp2_with fail
  go_at_call 30; refine (HLG.out _ (HQ.out.below (by (repeat (first | exact grow_refl _ | refine grow_ext _ ?_ | refine grow_alloc _ ?_ | refine grow_drew ?_))))).mono ?_; rintro e w' ⟨b0, rfl, x3, rfl⟩
  cases b0
  case true =>
    go_wp2
    go_ret
    exact Ret.of (by (repeat (first | exact grow_refl _ | refine grow_ext _ ?_ | refine grow_alloc _ ?_ | refine grow_drew ?_)))
  go_wp2_with fail
  go_at_call 31; refine (HP.out _ (HQ.out.below (by (repeat (first | exact grow_refl _ | refine grow_ext _ ?_ | refine grow_alloc _ ?_ | refine grow_drew ?_)))) (HL.out.below (by (repeat (first | exact grow_refl _ | refine grow_ext _ ?_ | refine grow_alloc _ ?_ | refine grow_drew ?_)))) (HR.out.below (by (repeat (first | exact grow_refl _ | refine grow_ext _ ?_ | refine grow_alloc _ ?_ | refine grow_drew ?_))))).mono ?_; rintro e w' hret
  obtain ⟨ap, cp, rfl, kp, x4, rfl⟩ := hret.open0
  go_wp2_with fail
  go_at_call 19; refine (HG.out _ (HQ.out.below (by (repeat (first | exact grow_refl _ | refine grow_ext _ ?_ | refine grow_alloc _ ?_ | refine grow_drew ?_)))) (HL.out.below (by (repeat (first | exact grow_refl _ | refine grow_ext _ ?_ | refine grow_alloc _ ?_ | refine grow_drew ?_)))) (HR.out.below (by (repeat (first | exact grow_refl _ | refine grow_ext _ ?_ | refine grow_alloc _ ?_ | refine grow_drew ?_))))).mono ?_; rintro e w' ⟨rfl, x5, rfl⟩
  go_wp2
  go_ret
  exact Ret.of (by (repeat (first | exact grow_refl _ | refine grow_ext _ ?_ | refine grow_alloc _ ?_ | refine grow_drew ?_)))

set_option maxRecDepth 100000 in
set_option maxHeartbeats 8000000 in
theorem lawPP_c (q : Mb) (l : List Br) (rs : List Rn) (v u : Value) (st : Int) (hm : okMb q = true) (hv : laidB l rs = true) (hs : stepB st = false) (w : World) (hq : MbAt w q) (hl : Bars w v l) (hr : Runs w u rs) :
    Calls Tryz.prog 7 #[(.agg #[.string q.name, q.u, q.t, .int .i64 q.cover, .int .i64 q.agg, .int .i64 q.poker]), v, u, .int .i64 st] w (Ret w (.bool true)) := by
  have HQ := Lib.hid hq
  have HL := Lib.hid hl
  have HR := Lib.hid hr
  have HM := Lib.hid (fun w hl hm' => refMember_v q.name q.l q.m q.u q.t q.cover q.agg q.poker true hm hq.name w hl hm')
  have HLG := Lib.hid (fun w hq => large22_c q st hm w hq)
  have HP := Lib.hid (fun w hq hl hr => pPlaces_c q l rs v u st _ _ (show placesE q l rs st = ([], 2) by unfold placesE; rw [if_pos ⟨hm, hv⟩, hs, if_neg (by decide)]) w hq hl hr)
  have HG := Lib.hid (fun w hq hl hr => given22_v q l rs v u true hv hm w hq hl hr)
  simp only [if_true] at HG
  have HST := Lib.hid (fun w => rStep_v st false hs w)
  clear hq hl hr hm hv hs
  go_enter Tryz.func7, Tryz.ntmps7
  go_wp2_with fail
  go_at_call 11; refine (awake22_c _).mono ?_; rintro e w' ⟨rfl, x0, rfl⟩
  go_wp2_with fail
  go_at_call 12; refine (few22_c q l rs v u _ (HQ.out.below (by (repeat (first | exact grow_refl _ | refine grow_ext _ ?_ | refine grow_alloc _ ?_ | refine grow_drew ?_)))) (HL.out.below (by (repeat (first | exact grow_refl _ | refine grow_ext _ ?_ | refine grow_alloc _ ?_ | refine grow_drew ?_)))) (HR.out.below (by (repeat (first | exact grow_refl _ | refine grow_ext _ ?_ | refine grow_alloc _ ?_ | refine grow_drew ?_))))).mono ?_; rintro e w' ⟨q0, rfl, x1, rfl⟩
  cases q0
  · go_wp2
    go_ret
    exact Ret.of (by (repeat (first | exact grow_refl _ | refine grow_ext _ ?_ | refine grow_alloc _ ?_ | refine grow_drew ?_)))
  go_wp2_with fail
  go_at_call 15; refine (HM.out _ (HQ.out.boxes.below (by (repeat (first | exact grow_refl _ | refine grow_ext _ ?_ | refine grow_alloc _ ?_ | refine grow_drew ?_)))) (HQ.out.holes.below (by (repeat (first | exact grow_refl _ | refine grow_ext _ ?_ | refine grow_alloc _ ?_ | refine grow_drew ?_))))).mono ?_; rintro e w' ⟨rfl, x2, rfl⟩
  go_wp2_with fail
  go_at_call 30; refine (HLG.out _ (HQ.out.below (by (repeat (first | exact grow_refl _ | refine grow_ext _ ?_ | refine grow_alloc _ ?_ | refine grow_drew ?_))))).mono ?_; rintro e w' ⟨b0, rfl, x3, rfl⟩
  cases b0
  case true =>
    go_wp2
    go_ret
    exact Ret.of (by (repeat (first | exact grow_refl _ | refine grow_ext _ ?_ | refine grow_alloc _ ?_ | refine grow_drew ?_)))
  go_wp2_with fail
  go_at_call 31; refine (HP.out _ (HQ.out.below (by (repeat (first | exact grow_refl _ | refine grow_ext _ ?_ | refine grow_alloc _ ?_ | refine grow_drew ?_)))) (HL.out.below (by (repeat (first | exact grow_refl _ | refine grow_ext _ ?_ | refine grow_alloc _ ?_ | refine grow_drew ?_)))) (HR.out.below (by (repeat (first | exact grow_refl _ | refine grow_ext _ ?_ | refine grow_alloc _ ?_ | refine grow_drew ?_))))).mono ?_; rintro e w' hret
  obtain ⟨ap, cp, rfl, kp, x4, rfl⟩ := hret.open0
  go_wp2_with fail
  go_at_call 19; refine (HG.out _ (HQ.out.below (by (repeat (first | exact grow_refl _ | refine grow_ext _ ?_ | refine grow_alloc _ ?_ | refine grow_drew ?_)))) (HL.out.below (by (repeat (first | exact grow_refl _ | refine grow_ext _ ?_ | refine grow_alloc _ ?_ | refine grow_drew ?_)))) (HR.out.below (by (repeat (first | exact grow_refl _ | refine grow_ext _ ?_ | refine grow_alloc _ ?_ | refine grow_drew ?_))))).mono ?_; rintro e w' ⟨rfl, x5, rfl⟩
  go_wp2_with fail
  go_at_call 33; refine (HST.out _).mono ?_; rintro e w' ⟨rfl, x6, rfl⟩
  go_wp2
  go_ret
  exact Ret.of (by (repeat (first | exact grow_refl _ | refine grow_ext _ ?_ | refine grow_alloc _ ?_ | refine grow_drew ?_)))

set_option maxRecDepth 100000 in
set_option maxHeartbeats 8000000 in
theorem lawPP_d (q : Mb) (l : List Br) (rs : List Rn) (v u : Value) (st : Int) (hm : okMb q = true) (hv : laidB l rs = true) (hs : stepB st = true) (hlg : largeB q st = true) (w : World) (hq : MbAt w q) (hl : Bars w v l) (hr : Runs w u rs) :
    Calls Tryz.prog 7 #[(.agg #[.string q.name, q.u, q.t, .int .i64 q.cover, .int .i64 q.agg, .int .i64 q.poker]), v, u, .int .i64 st] w (Ret w (.bool true)) := by
  have HQ := Lib.hid hq
  have HL := Lib.hid hl
  have HR := Lib.hid hr
  have HM := Lib.hid (fun w hl hm' => refMember_v q.name q.l q.m q.u q.t q.cover q.agg q.poker true hm hq.name w hl hm')
  have HLG := Lib.hid (fun w hq => large22_c q st hm w hq)
  have HP := Lib.hid (fun w hq hl hr => pPlaces_c q l rs v u st _ _ (show placesE q l rs st = ([], 6) by unfold placesE; rw [if_pos ⟨hm, hv⟩, hs, if_pos rfl, hlg, if_pos rfl]) w hq hl hr)
  have HG := Lib.hid (fun w hq hl hr => given22_v q l rs v u true hv hm w hq hl hr)
  simp only [if_true] at HG
  obtain ⟨h1, h2⟩ := stepB_iff.1 hs
  have HST := Lib.hid (fun w => rStep_v st true hs w)
  have HLA := Lib.hid (fun w hq => rLarge_v q st _ rfl (okMb_facts hm).1 h1 w hq)
  rw [hlg] at HLA
  clear hq hl hr hm hv hs hlg h1 h2
  go_enter Tryz.func7, Tryz.ntmps7
  go_wp2_with fail
  go_at_call 11; refine (awake22_c _).mono ?_; rintro e w' ⟨rfl, x0, rfl⟩
  go_wp2_with fail
  go_at_call 12; refine (few22_c q l rs v u _ (HQ.out.below (by (repeat (first | exact grow_refl _ | refine grow_ext _ ?_ | refine grow_alloc _ ?_ | refine grow_drew ?_)))) (HL.out.below (by (repeat (first | exact grow_refl _ | refine grow_ext _ ?_ | refine grow_alloc _ ?_ | refine grow_drew ?_)))) (HR.out.below (by (repeat (first | exact grow_refl _ | refine grow_ext _ ?_ | refine grow_alloc _ ?_ | refine grow_drew ?_))))).mono ?_; rintro e w' ⟨q0, rfl, x1, rfl⟩
  cases q0
  · go_wp2
    go_ret
    exact Ret.of (by (repeat (first | exact grow_refl _ | refine grow_ext _ ?_ | refine grow_alloc _ ?_ | refine grow_drew ?_)))
  go_wp2_with fail
  go_at_call 15; refine (HM.out _ (HQ.out.boxes.below (by (repeat (first | exact grow_refl _ | refine grow_ext _ ?_ | refine grow_alloc _ ?_ | refine grow_drew ?_)))) (HQ.out.holes.below (by (repeat (first | exact grow_refl _ | refine grow_ext _ ?_ | refine grow_alloc _ ?_ | refine grow_drew ?_))))).mono ?_; rintro e w' ⟨rfl, x2, rfl⟩
  go_wp2_with fail
  go_at_call 30; refine (HLG.out _ (HQ.out.below (by (repeat (first | exact grow_refl _ | refine grow_ext _ ?_ | refine grow_alloc _ ?_ | refine grow_drew ?_))))).mono ?_; rintro e w' ⟨b0, rfl, x3, rfl⟩
  cases b0
  case true =>
    go_wp2
    go_ret
    exact Ret.of (by (repeat (first | exact grow_refl _ | refine grow_ext _ ?_ | refine grow_alloc _ ?_ | refine grow_drew ?_)))
  go_wp2_with fail
  go_at_call 31; refine (HP.out _ (HQ.out.below (by (repeat (first | exact grow_refl _ | refine grow_ext _ ?_ | refine grow_alloc _ ?_ | refine grow_drew ?_)))) (HL.out.below (by (repeat (first | exact grow_refl _ | refine grow_ext _ ?_ | refine grow_alloc _ ?_ | refine grow_drew ?_)))) (HR.out.below (by (repeat (first | exact grow_refl _ | refine grow_ext _ ?_ | refine grow_alloc _ ?_ | refine grow_drew ?_))))).mono ?_; rintro e w' hret
  obtain ⟨ap, cp, rfl, kp, x4, rfl⟩ := hret.open0
  go_wp2_with fail
  go_at_call 19; refine (HG.out _ (HQ.out.below (by (repeat (first | exact grow_refl _ | refine grow_ext _ ?_ | refine grow_alloc _ ?_ | refine grow_drew ?_)))) (HL.out.below (by (repeat (first | exact grow_refl _ | refine grow_ext _ ?_ | refine grow_alloc _ ?_ | refine grow_drew ?_)))) (HR.out.below (by (repeat (first | exact grow_refl _ | refine grow_ext _ ?_ | refine grow_alloc _ ?_ | refine grow_drew ?_))))).mono ?_; rintro e w' ⟨rfl, x5, rfl⟩
  go_wp2_with fail
  go_at_call 33; refine (HST.out _).mono ?_; rintro e w' ⟨rfl, x6, rfl⟩
  go_wp2_with fail
  go_at_call 34; refine (HLA.out _ (HQ.out.below (by (repeat (first | exact grow_refl _ | refine grow_ext _ ?_ | refine grow_alloc _ ?_ | refine grow_drew ?_))))).mono ?_; rintro e w' ⟨rfl, x7, rfl⟩
  go_wp2
  go_ret
  exact Ret.of (by (repeat (first | exact grow_refl _ | refine grow_ext _ ?_ | refine grow_alloc _ ?_ | refine grow_drew ?_)))

set_option maxRecDepth 100000 in
set_option maxHeartbeats 8000000 in
theorem lawPP_e (q : Mb) (l : List Br) (rs : List Rn) (v u : Value) (st : Int) (hm : okMb q = true) (hv : laidB l rs = true) (hs : stepB st = true) (hlg : largeB q st = false) (w : World) (hq : MbAt w q) (hl : Bars w v l) (hr : Runs w u rs) :
    Calls Tryz.prog 7 #[(.agg #[.string q.name, q.u, q.t, .int .i64 q.cover, .int .i64 q.agg, .int .i64 q.poker]), v, u, .int .i64 st] w (Ret w (.bool true)) := by
  have HQ := Lib.hid hq
  have HL := Lib.hid hl
  have HR := Lib.hid hr
  have HM := Lib.hid (fun w hl hm' => refMember_v q.name q.l q.m q.u q.t q.cover q.agg q.poker true hm hq.name w hl hm')
  have HLG := Lib.hid (fun w hq => large22_c q st hm w hq)
  have HP := Lib.hid (fun w hq hl hr => pPlaces_c q l rs v u st _ _ (show placesE q l rs st = (gridP q (rodsI l rs) st, 0) by unfold placesE; rw [if_pos ⟨hm, hv⟩, hs, if_pos rfl, hlg, if_neg (by decide)]) w hq hl hr)
  have HG := Lib.hid (fun w hq hl hr => given22_v q l rs v u true hv hm w hq hl hr)
  simp only [if_true] at HG
  obtain ⟨h1, h2⟩ := stepB_iff.1 hs
  have HST := Lib.hid (fun w => rStep_v st true hs w)
  have HLA := Lib.hid (fun w hq => rLarge_v q st _ rfl (okMb_facts hm).1 h1 w hq)
  rw [hlg] at HLA
  have HRP := Lib.hid (fun w hq hl hr => rPlaces_c q l rs v u st h1 h2 hm hv hlg w hq hl hr)
  have HE := Lib.hid (show placesI q (rodsI l rs) (gridL (hullX q.l).lx (hullX q.l).hx st) (gridL (hullX q.l).ly (hullX q.l).hy st) (gridL (hullX q.l).lz (hullX q.l).hz st) = gridP q (rodsI l rs) st from rfl)
  rw [HE.out] at HRP
  generalize gridP q (rodsI l rs) st = L at *
  clear hq hl hr hm hv hs hlg h1 h2 HE
  go_enter Tryz.func7, Tryz.ntmps7
  go_wp2_with fail
  go_at_call 11; refine (awake22_c _).mono ?_; rintro e w' ⟨rfl, x0, rfl⟩
  go_wp2_with fail
  go_at_call 12; refine (few22_c q l rs v u _ (HQ.out.below (by (repeat (first | exact grow_refl _ | refine grow_ext _ ?_ | refine grow_alloc _ ?_ | refine grow_drew ?_)))) (HL.out.below (by (repeat (first | exact grow_refl _ | refine grow_ext _ ?_ | refine grow_alloc _ ?_ | refine grow_drew ?_)))) (HR.out.below (by (repeat (first | exact grow_refl _ | refine grow_ext _ ?_ | refine grow_alloc _ ?_ | refine grow_drew ?_))))).mono ?_; rintro e w' ⟨q0, rfl, x1, rfl⟩
  cases q0
  · go_wp2
    go_ret
    exact Ret.of (by (repeat (first | exact grow_refl _ | refine grow_ext _ ?_ | refine grow_alloc _ ?_ | refine grow_drew ?_)))
  go_wp2_with fail
  go_at_call 15; refine (HM.out _ (HQ.out.boxes.below (by (repeat (first | exact grow_refl _ | refine grow_ext _ ?_ | refine grow_alloc _ ?_ | refine grow_drew ?_)))) (HQ.out.holes.below (by (repeat (first | exact grow_refl _ | refine grow_ext _ ?_ | refine grow_alloc _ ?_ | refine grow_drew ?_))))).mono ?_; rintro e w' ⟨rfl, x2, rfl⟩
  go_wp2_with fail
  go_at_call 30; refine (HLG.out _ (HQ.out.below (by (repeat (first | exact grow_refl _ | refine grow_ext _ ?_ | refine grow_alloc _ ?_ | refine grow_drew ?_))))).mono ?_; rintro e w' ⟨b0, rfl, x3, rfl⟩
  cases b0
  case true =>
    go_wp2
    go_ret
    exact Ret.of (by (repeat (first | exact grow_refl _ | refine grow_ext _ ?_ | refine grow_alloc _ ?_ | refine grow_drew ?_)))
  go_wp2_with fail
  go_at_call 31; refine (HP.out _ (HQ.out.below (by (repeat (first | exact grow_refl _ | refine grow_ext _ ?_ | refine grow_alloc _ ?_ | refine grow_drew ?_)))) (HL.out.below (by (repeat (first | exact grow_refl _ | refine grow_ext _ ?_ | refine grow_alloc _ ?_ | refine grow_drew ?_)))) (HR.out.below (by (repeat (first | exact grow_refl _ | refine grow_ext _ ?_ | refine grow_alloc _ ?_ | refine grow_drew ?_))))).mono ?_; rintro e w' hret
  obtain ⟨ap, cp, rfl, k1, k2, hpts, x4, rfl⟩ := hret.open
  have HPT := Lib.hid hpts
  clear hret hpts
  go_wp2_with fail
  go_at_call 19; refine (HG.out _ (HQ.out.below (by (repeat (first | exact grow_refl _ | refine grow_ext _ ?_ | refine grow_alloc _ ?_ | refine grow_drew ?_)))) (HL.out.below (by (repeat (first | exact grow_refl _ | refine grow_ext _ ?_ | refine grow_alloc _ ?_ | refine grow_drew ?_)))) (HR.out.below (by (repeat (first | exact grow_refl _ | refine grow_ext _ ?_ | refine grow_alloc _ ?_ | refine grow_drew ?_))))).mono ?_; rintro e w' ⟨rfl, x5, rfl⟩
  go_wp2_with fail
  go_at_call 33; refine (HST.out _).mono ?_; rintro e w' ⟨rfl, x6, rfl⟩
  go_wp2_with fail
  go_at_call 34; refine (HLA.out _ (HQ.out.below (by (repeat (first | exact grow_refl _ | refine grow_ext _ ?_ | refine grow_alloc _ ?_ | refine grow_drew ?_))))).mono ?_; rintro e w' ⟨rfl, x7, rfl⟩
  go_wp2_with fail
  go_at_call 36; refine (HRP.out _ (HQ.out.below (by (repeat (first | exact grow_refl _ | refine grow_ext _ ?_ | refine grow_alloc _ ?_ | refine grow_drew ?_)))) (HL.out.below (by (repeat (first | exact grow_refl _ | refine grow_ext _ ?_ | refine grow_alloc _ ?_ | refine grow_drew ?_)))) (HR.out.below (by (repeat (first | exact grow_refl _ | refine grow_ext _ ?_ | refine grow_alloc _ ?_ | refine grow_drew ?_))))).mono ?_; rintro e w' ⟨vr, rfl, hownr, x8, rfl⟩
  have HPR := Lib.hid (Pts.of_own hownr)
  obtain ⟨ar, cr, rfl, kr, mr, -⟩ := own_shape hownr
  have nr : cr ≤ 9223372036854775807 := mr
  clear hownr mr
  go_wp2_with fail
  go_at_call 35; refine (equalPts_c L _ _ _ (HPT.out.below (by (repeat (first | exact grow_refl _ | refine grow_ext _ ?_ | refine grow_alloc _ ?_ | refine grow_drew ?_)))) (HPR.out.below (by (repeat (first | exact grow_refl _ | refine grow_ext _ ?_ | refine grow_alloc _ ?_ | refine grow_drew ?_))))).mono ?_; rintro e w' ⟨rfl, x9, rfl⟩
  go_wp2
  go_ret
  exact Ret.of (by (repeat (first | exact grow_refl _ | refine grow_ext _ ?_ | refine grow_alloc _ ?_ | refine grow_drew ?_)))

theorem lawPokerPlaces_c (q : Mb) (l : List Br) (v : Value) (rs : List Rn) (u : Value) (st : Int) (_ : -9223372036854775808 ≤ st ∧ st ≤ 9223372036854775807) (w : World) (hq : MbAt w q) (hl : Bars w v l) (hr : Runs w u rs) :
    Calls Tryz.prog 7 #[(.agg #[.string q.name, q.u, q.t, .int .i64 q.cover, .int .i64 q.agg, .int .i64 q.poker]), v, u, .int .i64 st] w (Ret w (.bool true)) := by
  cases hm : okMb q
  · exact lawPP_a q l rs v u st hm w hq hl hr
  cases hv : laidB l rs
  · exact lawPP_b q l rs v u st hm hv w hq hl hr
  cases hs : stepB st
  · exact lawPP_c q l rs v u st hm hv hs w hq hl hr
  cases hlg : largeB q st
  · exact lawPP_e q l rs v u st hm hv hs hlg w hq hl hr
  · exact lawPP_d q l rs v u st hm hv hs hlg w hq hl hr

end Go.Proofs.YtmoechhfjmemaaaGreat
