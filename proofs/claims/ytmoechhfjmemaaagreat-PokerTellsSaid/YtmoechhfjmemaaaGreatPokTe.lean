/- PokerTells: the walk of the law. Printed by mkpokte.py. -/
import Derived.Test.YtmoechhfjmemaaaGreatPokX
import Derived.Test.YtmoechhfjmemaaaGreatPokK7
import Derived.Test.YtmoechhfjmemaaaGreatPokK8
import Derived.Deep.DeepCutAuto
import Derived.Deep.CutBlock
namespace Go.Proofs.YtmoechhfjmemaaaGreat
open Go.RowKit
set_option maxRecDepth 20000

set_option maxRecDepth 100000 in
set_option maxHeartbeats 2000000 in
theorem one22_c (lo hi n st : Int) (g : Nat) (v1 : -1048576 ≤ lo) (v2 : lo ≤ hi) (v3 : hi ≤ 1048576) (h1 : 1 ≤ st) (hn : 0 ≤ n ∧ n ≤ 65535) (w : World) (hc : w.cell? ⟨g, 0, none⟩ = some (.int .i64 st)) :
    Calls Tryz.prog 45 #[.int .i64 lo, .int .i64 hi, .int .u16 n, .pointer (some ⟨g, 0, none⟩)] w (Ret w (.int .i64 (lo + n % cntI lo hi st * st))) := by
  have ex := cnt_in v2 h1
  have qx : (hi - lo).tdiv st + 1 = cntI lo hi st := by unfold cntI; rw [Int.tdiv_eq_ediv_of_nonneg (by omega)]
  have hl := (cnt_last v2 h1 (n % cntI lo hi st) (Int.emod_nonneg _ (by omega))).2 (Int.emod_lt_of_pos _ (by omega))
  have hm0 := Int.emod_nonneg n (show cntI lo hi st ≠ 0 by omega)
  have hm1 := Int.emod_lt_of_pos n (show 0 < cntI lo hi st by omega)
  generalize cntI lo hi st = C at *
  obtain ⟨k, ek⟩ : ∃ k, (hi - lo).tdiv st = k := ⟨_, rfl⟩
  rw [ek] at qx
  have em : n.tmod C = n % C := Int.tmod_eq_emod_of_nonneg hn.1
  generalize n % C = m at *
  have hp0 : 0 ≤ m * st := Int.mul_nonneg (by omega) (by omega)
  obtain ⟨P, hP⟩ : ∃ P, m * st = P := ⟨_, rfl⟩
  rw [hP] at hl hp0
  have HPE := Lib.hid hP
  have z1 : st ≠ 0 := by omega
  have z2 : C ≠ 0 := by omega
  have w1 : IntKind.i64.wrap P = P := IntWalk.i64_in _ (by omega)
  have kb : 0 ≤ k ∧ k ≤ 2097152 := by omega
  clear hm0 hm1
  go_enter Tryz.func45, Tryz.ntmps45
  go_wp2_with fail
  refine wp_region_grows (by kernel_rfl) (by kernel_rfl) ?_
  repeat (go_big_quiet_step (fail))
  refine wpQuiet_nil ?_; rintro _ ⟨xq, rfl⟩
  go_wp2
  go_ret
  rw [HPE.out]
  exact Ret.of (by (repeat (first | exact grow_refl _ | refine grow_ext _ ?_ | refine grow_alloc _ ?_ | refine grow_drew ?_)))

set_option maxRecDepth 100000 in
set_option maxHeartbeats 16000000 in
theorem lawPT_ef (q : Mb) (l : List Br) (rs : List Rn) (v u : Value) (st r ni nj nk : Int) (E : Int) (he : (E != 0) = true) (hm : okMb q = false) (hde : dryE q l rs st r = ([], E)) (hpe : placesE q l rs st = ([], E)) (w : World) (hq : MbAt w q) (hl : Bars w v l) (hr : Runs w u rs) :
    Calls Tryz.prog 10 #[(.agg #[.string q.name, q.u, q.t, .int .i64 q.cover, .int .i64 q.agg, .int .i64 q.poker]), v, u, .int .i64 st, .int .i64 r, .int .u16 ni, .int .u16 nj, .int .u16 nk] w (Ret w (.bool true)) := by
  have HQ := Lib.hid hq
  have HL := Lib.hid hl
  have HR := Lib.hid hr
  have HM := Lib.hid (fun w hl hm' => refMember_v q.name q.l q.m q.u q.t q.cover q.agg q.poker false hm hq.name w hl hm')
  have HD := Lib.hid (fun w hq hl hr => pDry_c q l rs v u st r _ _ hde w hq hl hr)
  have HP := Lib.hid (fun w hq hl hr => pPlaces_c q l rs v u st _ _ hpe w hq hl hr)
  clear hq hl hr hm hde hpe
  go_enter Tryz.func10, Tryz.ntmps10
  go_wp2_with fail
  go_at_call 11; refine (awake22_c _).mono ?_; rintro e w' ⟨rfl, x0, rfl⟩
  go_wp2_with fail
  go_at_call 12; refine (few22_c q l rs v u _ (HQ.out.below (by (repeat (first | exact grow_refl _ | refine grow_ext _ ?_ | refine grow_alloc _ ?_ | refine grow_drew ?_)))) (HL.out.below (by (repeat (first | exact grow_refl _ | refine grow_ext _ ?_ | refine grow_alloc _ ?_ | refine grow_drew ?_)))) (HR.out.below (by (repeat (first | exact grow_refl _ | refine grow_ext _ ?_ | refine grow_alloc _ ?_ | refine grow_drew ?_))))).mono ?_; rintro e w' ⟨q0, rfl, x1, rfl⟩
  cases q0
  · go_wp2
    go_ret
    exact Ret.of (by (repeat (first | exact grow_refl _ | refine grow_ext _ ?_ | refine grow_alloc _ ?_ | refine grow_drew ?_)))
  go_wp2_with fail
  go_at_call 15; refine (HM.out _ (HQ.out.boxes.below (by (repeat (first | exact grow_refl _ | refine grow_ext _ ?_ | refine grow_alloc _ ?_ | refine grow_drew ?_)))) (HQ.out.holes.below (by (repeat (first | exact grow_refl _ | refine grow_ext _ ?_ | refine grow_alloc _ ?_ | refine grow_drew ?_))))).mono ?_; rintro e w' ⟨rfl, x2, rfl⟩
  go_wp2_with fail
  go_at_call 37; refine (HD.out _ (HQ.out.below (by (repeat (first | exact grow_refl _ | refine grow_ext _ ?_ | refine grow_alloc _ ?_ | refine grow_drew ?_)))) (HL.out.below (by (repeat (first | exact grow_refl _ | refine grow_ext _ ?_ | refine grow_alloc _ ?_ | refine grow_drew ?_)))) (HR.out.below (by (repeat (first | exact grow_refl _ | refine grow_ext _ ?_ | refine grow_alloc _ ?_ | refine grow_drew ?_))))).mono ?_; rintro e w' hret
  obtain ⟨ad, cd, rfl, kd, x4, rfl⟩ := hret.open0
  clear hret
  go_wp2_with fail
  go_at_call 31; refine (HP.out _ (HQ.out.below (by (repeat (first | exact grow_refl _ | refine grow_ext _ ?_ | refine grow_alloc _ ?_ | refine grow_drew ?_)))) (HL.out.below (by (repeat (first | exact grow_refl _ | refine grow_ext _ ?_ | refine grow_alloc _ ?_ | refine grow_drew ?_)))) (HR.out.below (by (repeat (first | exact grow_refl _ | refine grow_ext _ ?_ | refine grow_alloc _ ?_ | refine grow_drew ?_))))).mono ?_; rintro e w' hret
  obtain ⟨ap, cp, rfl, k1, k2, hpts, x5, rfl⟩ := hret.open
  have HPT := Lib.hid hpts
  clear hret hpts
  go_wp2
  go_ret
  exact Ret.of (by (repeat (first | exact grow_refl _ | refine grow_ext _ ?_ | refine grow_alloc _ ?_ | refine grow_drew ?_)))

set_option maxRecDepth 100000 in
set_option maxHeartbeats 16000000 in
theorem lawPT_et (q : Mb) (l : List Br) (rs : List Rn) (v u : Value) (st r ni nj nk : Int) (E : Int) (he : (E != 0) = true) (hm : okMb q = true) (hde : dryE q l rs st r = ([], E)) (hpe : placesE q l rs st = ([], E)) (w : World) (hq : MbAt w q) (hl : Bars w v l) (hr : Runs w u rs) :
    Calls Tryz.prog 10 #[(.agg #[.string q.name, q.u, q.t, .int .i64 q.cover, .int .i64 q.agg, .int .i64 q.poker]), v, u, .int .i64 st, .int .i64 r, .int .u16 ni, .int .u16 nj, .int .u16 nk] w (Ret w (.bool true)) := by
  have HQ := Lib.hid hq
  have HL := Lib.hid hl
  have HR := Lib.hid hr
  have HM := Lib.hid (fun w hl hm' => refMember_v q.name q.l q.m q.u q.t q.cover q.agg q.poker true hm hq.name w hl hm')
  have HLG := Lib.hid (fun w hq => large22_c q st hm w hq)
  have HD := Lib.hid (fun w hq hl hr => pDry_c q l rs v u st r _ _ hde w hq hl hr)
  have HP := Lib.hid (fun w hq hl hr => pPlaces_c q l rs v u st _ _ hpe w hq hl hr)
  clear hq hl hr hm hde hpe
  go_enter Tryz.func10, Tryz.ntmps10
  go_wp2_with fail
  go_at_call 11; refine (awake22_c _).mono ?_; rintro e w' ⟨rfl, x0, rfl⟩
  go_wp2_with fail
  go_at_call 12; refine (few22_c q l rs v u _ (HQ.out.below (by (repeat (first | exact grow_refl _ | refine grow_ext _ ?_ | refine grow_alloc _ ?_ | refine grow_drew ?_)))) (HL.out.below (by (repeat (first | exact grow_refl _ | refine grow_ext _ ?_ | refine grow_alloc _ ?_ | refine grow_drew ?_)))) (HR.out.below (by (repeat (first | exact grow_refl _ | refine grow_ext _ ?_ | refine grow_alloc _ ?_ | refine grow_drew ?_))))).mono ?_; rintro e w' ⟨q0, rfl, x1, rfl⟩
  cases q0
  · go_wp2
    go_ret
    exact Ret.of (by (repeat (first | exact grow_refl _ | refine grow_ext _ ?_ | refine grow_alloc _ ?_ | refine grow_drew ?_)))
  go_wp2_with fail
  go_at_call 15; refine (HM.out _ (HQ.out.boxes.below (by (repeat (first | exact grow_refl _ | refine grow_ext _ ?_ | refine grow_alloc _ ?_ | refine grow_drew ?_)))) (HQ.out.holes.below (by (repeat (first | exact grow_refl _ | refine grow_ext _ ?_ | refine grow_alloc _ ?_ | refine grow_drew ?_))))).mono ?_; rintro e w' ⟨rfl, x2, rfl⟩
  go_wp2_with fail
  go_at_call 30; refine (HLG.out _ (HQ.out.below (by (repeat (first | exact grow_refl _ | refine grow_ext _ ?_ | refine grow_alloc _ ?_ | refine grow_drew ?_))))).mono ?_; rintro e w' ⟨b0, rfl, x3, rfl⟩
  cases b0
  case true =>
    go_wp2
    go_ret
    exact Ret.of (by (repeat (first | exact grow_refl _ | refine grow_ext _ ?_ | refine grow_alloc _ ?_ | refine grow_drew ?_)))
  go_wp2_with fail
  go_at_call 37; refine (HD.out _ (HQ.out.below (by (repeat (first | exact grow_refl _ | refine grow_ext _ ?_ | refine grow_alloc _ ?_ | refine grow_drew ?_)))) (HL.out.below (by (repeat (first | exact grow_refl _ | refine grow_ext _ ?_ | refine grow_alloc _ ?_ | refine grow_drew ?_)))) (HR.out.below (by (repeat (first | exact grow_refl _ | refine grow_ext _ ?_ | refine grow_alloc _ ?_ | refine grow_drew ?_))))).mono ?_; rintro e w' hret
  obtain ⟨ad, cd, rfl, kd, x4, rfl⟩ := hret.open0
  clear hret
  go_wp2_with fail
  go_at_call 31; refine (HP.out _ (HQ.out.below (by (repeat (first | exact grow_refl _ | refine grow_ext _ ?_ | refine grow_alloc _ ?_ | refine grow_drew ?_)))) (HL.out.below (by (repeat (first | exact grow_refl _ | refine grow_ext _ ?_ | refine grow_alloc _ ?_ | refine grow_drew ?_)))) (HR.out.below (by (repeat (first | exact grow_refl _ | refine grow_ext _ ?_ | refine grow_alloc _ ?_ | refine grow_drew ?_))))).mono ?_; rintro e w' hret
  obtain ⟨ap, cp, rfl, k1, k2, hpts, x5, rfl⟩ := hret.open
  have HPT := Lib.hid hpts
  clear hret hpts
  go_wp2
  go_ret
  exact Ret.of (by (repeat (first | exact grow_refl _ | refine grow_ext _ ?_ | refine grow_alloc _ ?_ | refine grow_drew ?_)))

set_option maxRecDepth 100000 in
set_option maxHeartbeats 16000000 in
theorem lawPT_g0 (q : Mb) (l : List Br) (rs : List Rn) (v u : Value) (st r ni nj nk : Int) (L : List Pt) (hm : okMb q = true) (hde : dryE q l rs st r = ([], 2)) (hpe : placesE q l rs st = (L, 0)) (w : World) (hq : MbAt w q) (hl : Bars w v l) (hr : Runs w u rs) :
    Calls Tryz.prog 10 #[(.agg #[.string q.name, q.u, q.t, .int .i64 q.cover, .int .i64 q.agg, .int .i64 q.poker]), v, u, .int .i64 st, .int .i64 r, .int .u16 ni, .int .u16 nj, .int .u16 nk] w (Ret w (.bool true)) := by
  have HQ := Lib.hid hq
  have HL := Lib.hid hl
  have HR := Lib.hid hr
  have HM := Lib.hid (fun w hl hm' => refMember_v q.name q.l q.m q.u q.t q.cover q.agg q.poker true hm hq.name w hl hm')
  have HLG := Lib.hid (fun w hq => large22_c q st hm w hq)
  have HD := Lib.hid (fun w hq hl hr => pDry_c q l rs v u st r _ _ hde w hq hl hr)
  have HP := Lib.hid (fun w hq hl hr => pPlaces_c q l rs v u st _ _ hpe w hq hl hr)
  clear hq hl hr hm hde hpe
  go_enter Tryz.func10, Tryz.ntmps10
  go_wp2_with fail
  go_at_call 11; refine (awake22_c _).mono ?_; rintro e w' ⟨rfl, x0, rfl⟩
  go_wp2_with fail
  go_at_call 12; refine (few22_c q l rs v u _ (HQ.out.below (by (repeat (first | exact grow_refl _ | refine grow_ext _ ?_ | refine grow_alloc _ ?_ | refine grow_drew ?_)))) (HL.out.below (by (repeat (first | exact grow_refl _ | refine grow_ext _ ?_ | refine grow_alloc _ ?_ | refine grow_drew ?_)))) (HR.out.below (by (repeat (first | exact grow_refl _ | refine grow_ext _ ?_ | refine grow_alloc _ ?_ | refine grow_drew ?_))))).mono ?_; rintro e w' ⟨q0, rfl, x1, rfl⟩
  cases q0
  · go_wp2
    go_ret
    exact Ret.of (by (repeat (first | exact grow_refl _ | refine grow_ext _ ?_ | refine grow_alloc _ ?_ | refine grow_drew ?_)))
  go_wp2_with fail
  go_at_call 15; refine (HM.out _ (HQ.out.boxes.below (by (repeat (first | exact grow_refl _ | refine grow_ext _ ?_ | refine grow_alloc _ ?_ | refine grow_drew ?_)))) (HQ.out.holes.below (by (repeat (first | exact grow_refl _ | refine grow_ext _ ?_ | refine grow_alloc _ ?_ | refine grow_drew ?_))))).mono ?_; rintro e w' ⟨rfl, x2, rfl⟩
  go_wp2_with fail
  go_at_call 30; refine (HLG.out _ (HQ.out.below (by (repeat (first | exact grow_refl _ | refine grow_ext _ ?_ | refine grow_alloc _ ?_ | refine grow_drew ?_))))).mono ?_; rintro e w' ⟨b0, rfl, x3, rfl⟩
  cases b0
  case true =>
    go_wp2
    go_ret
    exact Ret.of (by (repeat (first | exact grow_refl _ | refine grow_ext _ ?_ | refine grow_alloc _ ?_ | refine grow_drew ?_)))
  go_wp2_with fail
  go_at_call 37; refine (HD.out _ (HQ.out.below (by (repeat (first | exact grow_refl _ | refine grow_ext _ ?_ | refine grow_alloc _ ?_ | refine grow_drew ?_)))) (HL.out.below (by (repeat (first | exact grow_refl _ | refine grow_ext _ ?_ | refine grow_alloc _ ?_ | refine grow_drew ?_)))) (HR.out.below (by (repeat (first | exact grow_refl _ | refine grow_ext _ ?_ | refine grow_alloc _ ?_ | refine grow_drew ?_))))).mono ?_; rintro e w' hret
  obtain ⟨ad, cd, rfl, kd, x4, rfl⟩ := hret.open0
  clear hret
  go_wp2_with fail
  go_at_call 31; refine (HP.out _ (HQ.out.below (by (repeat (first | exact grow_refl _ | refine grow_ext _ ?_ | refine grow_alloc _ ?_ | refine grow_drew ?_)))) (HL.out.below (by (repeat (first | exact grow_refl _ | refine grow_ext _ ?_ | refine grow_alloc _ ?_ | refine grow_drew ?_)))) (HR.out.below (by (repeat (first | exact grow_refl _ | refine grow_ext _ ?_ | refine grow_alloc _ ?_ | refine grow_drew ?_))))).mono ?_; rintro e w' hret
  obtain ⟨ap, cp, rfl, k1, k2, hpts, x5, rfl⟩ := hret.open
  have HPT := Lib.hid hpts
  clear hret hpts
  go_wp2
  go_ret
  exact Ret.of (by (repeat (first | exact grow_refl _ | refine grow_ext _ ?_ | refine grow_alloc _ ?_ | refine grow_drew ?_)))

set_option maxRecDepth 100000 in
set_option maxHeartbeats 16000000 in
theorem lawPT_g6 (q : Mb) (l : List Br) (rs : List Rn) (v u : Value) (st r ni nj nk : Int) (L : List Pt) (hm : okMb q = true) (hde : dryE q l rs st r = ([], 2)) (hpe : placesE q l rs st = (L, 6)) (w : World) (hq : MbAt w q) (hl : Bars w v l) (hr : Runs w u rs) :
    Calls Tryz.prog 10 #[(.agg #[.string q.name, q.u, q.t, .int .i64 q.cover, .int .i64 q.agg, .int .i64 q.poker]), v, u, .int .i64 st, .int .i64 r, .int .u16 ni, .int .u16 nj, .int .u16 nk] w (Ret w (.bool true)) := by
  have HQ := Lib.hid hq
  have HL := Lib.hid hl
  have HR := Lib.hid hr
  have HM := Lib.hid (fun w hl hm' => refMember_v q.name q.l q.m q.u q.t q.cover q.agg q.poker true hm hq.name w hl hm')
  have HLG := Lib.hid (fun w hq => large22_c q st hm w hq)
  have HD := Lib.hid (fun w hq hl hr => pDry_c q l rs v u st r _ _ hde w hq hl hr)
  have HP := Lib.hid (fun w hq hl hr => pPlaces_c q l rs v u st _ _ hpe w hq hl hr)
  clear hq hl hr hm hde hpe
  go_enter Tryz.func10, Tryz.ntmps10
  go_wp2_with fail
  go_at_call 11; refine (awake22_c _).mono ?_; rintro e w' ⟨rfl, x0, rfl⟩
  go_wp2_with fail
  go_at_call 12; refine (few22_c q l rs v u _ (HQ.out.below (by (repeat (first | exact grow_refl _ | refine grow_ext _ ?_ | refine grow_alloc _ ?_ | refine grow_drew ?_)))) (HL.out.below (by (repeat (first | exact grow_refl _ | refine grow_ext _ ?_ | refine grow_alloc _ ?_ | refine grow_drew ?_)))) (HR.out.below (by (repeat (first | exact grow_refl _ | refine grow_ext _ ?_ | refine grow_alloc _ ?_ | refine grow_drew ?_))))).mono ?_; rintro e w' ⟨q0, rfl, x1, rfl⟩
  cases q0
  · go_wp2
    go_ret
    exact Ret.of (by (repeat (first | exact grow_refl _ | refine grow_ext _ ?_ | refine grow_alloc _ ?_ | refine grow_drew ?_)))
  go_wp2_with fail
  go_at_call 15; refine (HM.out _ (HQ.out.boxes.below (by (repeat (first | exact grow_refl _ | refine grow_ext _ ?_ | refine grow_alloc _ ?_ | refine grow_drew ?_)))) (HQ.out.holes.below (by (repeat (first | exact grow_refl _ | refine grow_ext _ ?_ | refine grow_alloc _ ?_ | refine grow_drew ?_))))).mono ?_; rintro e w' ⟨rfl, x2, rfl⟩
  go_wp2_with fail
  go_at_call 30; refine (HLG.out _ (HQ.out.below (by (repeat (first | exact grow_refl _ | refine grow_ext _ ?_ | refine grow_alloc _ ?_ | refine grow_drew ?_))))).mono ?_; rintro e w' ⟨b0, rfl, x3, rfl⟩
  cases b0
  case true =>
    go_wp2
    go_ret
    exact Ret.of (by (repeat (first | exact grow_refl _ | refine grow_ext _ ?_ | refine grow_alloc _ ?_ | refine grow_drew ?_)))
  go_wp2_with fail
  go_at_call 37; refine (HD.out _ (HQ.out.below (by (repeat (first | exact grow_refl _ | refine grow_ext _ ?_ | refine grow_alloc _ ?_ | refine grow_drew ?_)))) (HL.out.below (by (repeat (first | exact grow_refl _ | refine grow_ext _ ?_ | refine grow_alloc _ ?_ | refine grow_drew ?_)))) (HR.out.below (by (repeat (first | exact grow_refl _ | refine grow_ext _ ?_ | refine grow_alloc _ ?_ | refine grow_drew ?_))))).mono ?_; rintro e w' hret
  obtain ⟨ad, cd, rfl, kd, x4, rfl⟩ := hret.open0
  clear hret
  go_wp2_with fail
  go_at_call 31; refine (HP.out _ (HQ.out.below (by (repeat (first | exact grow_refl _ | refine grow_ext _ ?_ | refine grow_alloc _ ?_ | refine grow_drew ?_)))) (HL.out.below (by (repeat (first | exact grow_refl _ | refine grow_ext _ ?_ | refine grow_alloc _ ?_ | refine grow_drew ?_)))) (HR.out.below (by (repeat (first | exact grow_refl _ | refine grow_ext _ ?_ | refine grow_alloc _ ?_ | refine grow_drew ?_))))).mono ?_; rintro e w' hret
  obtain ⟨ap, cp, rfl, k1, k2, hpts, x5, rfl⟩ := hret.open
  have HPT := Lib.hid hpts
  clear hret hpts
  go_wp2
  go_ret
  exact Ret.of (by (repeat (first | exact grow_refl _ | refine grow_ext _ ?_ | refine grow_alloc _ ?_ | refine grow_drew ?_)))

theorem reachedE_ok {P : List Pt} {r : Int} {p : Pt} (hP : P.length ≤ 5000) (hN : ∀ p ∈ P, NearP p 1048576) (hr : 0 ≤ r ∧ r ≤ 1048576) (hp : NearP p 1048576) : reachedE P r p = (reachedB P r p, 0) := by
  unfold reachedE
  rw [if_neg (by omega), if_pos ⟨near_iff.2 hp, hr.1, hr.2, List.all_eq_true.2 fun x hx => near_iff.2 (hN x hx)⟩]
theorem dry_at {q : Mb} {R : List Rc} {st r : Int} (hm : okMb q = true) (h1 : 1 ≤ st) {p : Pt} (hp : p ∈ gridD q R st r) : NearP ⟨p.x, p.y, p.z⟩ 1048576 ∧ reachedB (gridP q R st) r p = false ∧ containsS q.l q.m ⟨p.x, p.y, p.z, p.x, p.y, p.z⟩ = true := by
  unfold gridD at hp
  obtain ⟨⟨hx, hy, hz⟩, hd⟩ := dry_mem.1 hp
  unfold isDry at hd
  rw [Bool.and_eq_true, Bool.not_eq_true'] at hd
  exact ⟨near_iff.1 (tip_grid hm h1 _ hx _ hy _ hz).2.1, hd.1, hd.2⟩
theorem grid_at {lo hi st n : Int} (h : lo ≤ hi) (h1 : 1 ≤ st) : lo + n % cntI lo hi st * st ∈ gridL lo hi st := by
  have ex := cnt_in h h1
  have hm0 := Int.emod_nonneg n (show cntI lo hi st ≠ 0 by omega)
  have hm1 := Int.emod_lt_of_pos n (show 0 < cntI lo hi st by omega)
  exact grid_iff.2 ⟨(n % cntI lo hi st).toNat, by omega, by rw [Int.toNat_of_nonneg hm0]⟩

set_option maxRecDepth 100000 in
set_option maxHeartbeats 16000000 in
theorem lawPT_ok (q : Mb) (l : List Br) (rs : List Rn) (v u : Value) (st r ni nj nk : Int) (hni : 0 ≤ ni ∧ ni ≤ 65535) (hnj : 0 ≤ nj ∧ nj ≤ 65535) (hnk : 0 ≤ nk ∧ nk ≤ 65535) (hm : okMb q = true) (hv : laidB l rs = true) (hs : stepB st = true) (hrc : reachB r = true) (hlg : largeB q st = false) (w : World) (hq : MbAt w q) (hl : Bars w v l) (hr : Runs w u rs) :
    Calls Tryz.prog 10 #[(.agg #[.string q.name, q.u, q.t, .int .i64 q.cover, .int .i64 q.agg, .int .i64 q.poker]), v, u, .int .i64 st, .int .i64 r, .int .u16 ni, .int .u16 nj, .int .u16 nk] w (Ret w (.bool true)) := by
  have HQ := Lib.hid hq
  have HL := Lib.hid hl
  have HR := Lib.hid hr
  have HM := Lib.hid (fun w hl hm' => refMember_v q.name q.l q.m q.u q.t q.cover q.agg q.poker true hm hq.name w hl hm')
  have HLG := Lib.hid (fun w hq => large22_c q st hm w hq)
  obtain ⟨h1, h2⟩ := stepB_iff.1 hs
  obtain ⟨r1, r2⟩ := reachB_iff.1 hrc
  have hsol := (okMb_facts hm).1
  have HD := Lib.hid (fun w hq hl hr => pDry_c q l rs v u st r _ _ (show dryE q l rs st r = (gridD q (rodsI l rs) st r, 0) by unfold dryE; rw [if_pos ⟨hm, hv⟩, hs, hrc, if_pos (by decide), hlg, if_neg (by decide)]) w hq hl hr)
  have HP := Lib.hid (fun w hq hl hr => pPlaces_c q l rs v u st _ _ (show placesE q l rs st = (gridP q (rodsI l rs) st, 0) by unfold placesE; rw [if_pos ⟨hm, hv⟩, hs, if_pos rfl, hlg, if_neg (by decide)]) w hq hl hr)
  have HH := Lib.hid (fun w hl hm => solidHull_c q.l q.m q.u q.t w hl hm)
  rw [show hullS q.l q.m = (hullX q.l, 0) by unfold hullS; rw [if_pos hsol]] at HH
  have HPN := Lib.hid (places_near (R := rodsI l rs) hm h1)
  have HPM := Lib.hid (show (gridP q (rodsI l rs) st).length ≤ 5000 from Nat.le_trans (places_len _ _ _ _ _) (grid_few hsol h1 hlg).1)
  have hreach := fun p (hp : NearP p 1048576) => reachedE_ok (r := r) HPM.out HPN.out ⟨r1, r2⟩ hp
  have HDI := Lib.hid (fun i (h : i < (gridD q (rodsI l rs) st r).length) w hl hm' => solidInside_v q.l q.m q.u q.t _ _ _ _ (show insideR q.l q.m (gridD q (rodsI l rs) st r)[i].x (gridD q (rodsI l rs) st r)[i].y (gridD q (rodsI l rs) st r)[i].z = (true, 0) by have := dry_at hm h1 (List.getElem_mem h); rw [inside_ok hsol this.1, this.2.2]) w hl hm')
  have HDR := Lib.hid (fun i (h : i < (gridD q (rodsI l rs) st r).length) v' w hv' => pReached_v (gridP q (rodsI l rs) st) v' r (gridD q (rodsI l rs) st r)[i] false 0 (by have := dry_at hm h1 (List.getElem_mem h); rw [hreach _ this.1, this.2.1]) w hv')
  obtain ⟨v1, v2, v3, v4, v5, v6, v7, v8, v9⟩ := valid_iff.1 (hull_in hsol)
  have ex := cnt_in v2 h1
  have ey := cnt_in v5 h1
  have ez := cnt_in v8 h1
  have HOX := Lib.hid (fun w' hc => one22_c (hullX q.l).lx (hullX q.l).hx ni st (w.heap.size + 1) v1 v2 v3 h1 hni w' hc)
  have HOY := Lib.hid (fun w' hc => one22_c (hullX q.l).ly (hullX q.l).hy nj st (w.heap.size + 1) v4 v5 v6 h1 hnj w' hc)
  have HOZ := Lib.hid (fun w' hc => one22_c (hullX q.l).lz (hullX q.l).hz nk st (w.heap.size + 1) v7 v8 v9 h1 hnk w' hc)
  have gx := grid_at (n := ni) v2 h1
  have gy := grid_at (n := nj) v5 h1
  have gz := grid_at (n := nk) v8 h1
  generalize (hullX q.l).lx + ni % cntI (hullX q.l).lx (hullX q.l).hx st * st = AX at *
  generalize (hullX q.l).ly + nj % cntI (hullX q.l).ly (hullX q.l).hy st * st = AY at *
  generalize (hullX q.l).lz + nk % cntI (hullX q.l).lz (hullX q.l).hz st * st = AZ at *
  have hnr := near_iff.1 (tip_grid (st := st) hm h1 AX gx AY gy AZ gz).2.1
  obtain ⟨cin, hcin⟩ : ∃ b, containsS q.l q.m ⟨AX, AY, AZ, AX, AY, AZ⟩ = b := ⟨_, rfl⟩
  obtain ⟨rb, hrb⟩ : ∃ b, reachedB (gridP q (rodsI l rs) st) r ⟨AX, AY, AZ⟩ = b := ⟨_, rfl⟩
  have HI9 := Lib.hid (fun w hl hm' => solidInside_v q.l q.m q.u q.t AX AY AZ (cin, 0) (by rw [inside_ok hsol hnr, hcin]) w hl hm')
  have HR9 := Lib.hid (fun v' w hv' => pReached_v (gridP q (rodsI l rs) st) v' r ⟨AX, AY, AZ⟩ rb 0 (by rw [hreach _ hnr, hrb]) w hv')
  have HC9 := Lib.hid (fun v' w hv' => containsPt_v (gridD q (rodsI l rs) st r) ⟨AX, AY, AZ⟩ v' (!rb && cin) (by
    rw [bool_eq_iff, any_mem]
    unfold gridD
    rw [dry_mem]
    unfold isDry
    simp only
    rw [hrb, hcin]
    exact ⟨fun h => h.2, fun h => ⟨⟨gx, gy, gz⟩, h⟩⟩) w hv')
  simp only at HI9 HR9 HC9
  generalize gridD q (rodsI l rs) st r = D at *
  generalize gridP q (rodsI l rs) st = P at *
  generalize hullX q.l = H at *
  obtain ⟨lx, ly, lz, hx, hy, hz⟩ := H
  simp only at v1 v2 v3 v4 v5 v6 v7 v8 v9 HOX HOY HOZ
  have d9 : decide (st < 1) = false := decide_eq_false (by omega)
  clear hq hl hr hm hv hs hlg hrc r1 r2 hsol hreach HPN HPM ex ey ez gx gy gz hnr hcin hrb hni hnj hnk
  go_enter Tryz.func10, Tryz.ntmps10
  go_wp2_with fail
  go_at_call 11; refine (awake22_c _).mono ?_; rintro e w' ⟨rfl, x0, rfl⟩
  go_wp2_with fail
  go_at_call 12; refine (few22_c q l rs v u _ (HQ.out.below (by (repeat (first | exact grow_refl _ | refine grow_ext _ ?_ | refine grow_alloc _ ?_ | refine grow_drew ?_)))) (HL.out.below (by (repeat (first | exact grow_refl _ | refine grow_ext _ ?_ | refine grow_alloc _ ?_ | refine grow_drew ?_)))) (HR.out.below (by (repeat (first | exact grow_refl _ | refine grow_ext _ ?_ | refine grow_alloc _ ?_ | refine grow_drew ?_))))).mono ?_; rintro e w' ⟨q0, rfl, x1, rfl⟩
  cases q0
  · go_wp2
    go_ret
    exact Ret.of (by (repeat (first | exact grow_refl _ | refine grow_ext _ ?_ | refine grow_alloc _ ?_ | refine grow_drew ?_)))
  go_wp2_with fail
  go_at_call 15; refine (HM.out _ (HQ.out.boxes.below (by (repeat (first | exact grow_refl _ | refine grow_ext _ ?_ | refine grow_alloc _ ?_ | refine grow_drew ?_)))) (HQ.out.holes.below (by (repeat (first | exact grow_refl _ | refine grow_ext _ ?_ | refine grow_alloc _ ?_ | refine grow_drew ?_))))).mono ?_; rintro e w' ⟨rfl, x2, rfl⟩
  go_wp2_with fail
  go_at_call 30; refine (HLG.out _ (HQ.out.below (by (repeat (first | exact grow_refl _ | refine grow_ext _ ?_ | refine grow_alloc _ ?_ | refine grow_drew ?_))))).mono ?_; rintro e w' ⟨b0, rfl, x3, rfl⟩
  cases b0
  case true =>
    go_wp2
    go_ret
    exact Ret.of (by (repeat (first | exact grow_refl _ | refine grow_ext _ ?_ | refine grow_alloc _ ?_ | refine grow_drew ?_)))
  go_wp2_with fail
  go_at_call 37; refine (HD.out _ (HQ.out.below (by (repeat (first | exact grow_refl _ | refine grow_ext _ ?_ | refine grow_alloc _ ?_ | refine grow_drew ?_)))) (HL.out.below (by (repeat (first | exact grow_refl _ | refine grow_ext _ ?_ | refine grow_alloc _ ?_ | refine grow_drew ?_)))) (HR.out.below (by (repeat (first | exact grow_refl _ | refine grow_ext _ ?_ | refine grow_alloc _ ?_ | refine grow_drew ?_))))).mono ?_; rintro e w' hret
  obtain ⟨ad, cd, rfl, kd, k9, hpd, x4, rfl⟩ := hret.open
  clear hret
  have HDT := Lib.hid hpd
  clear hpd
  go_wp2_with fail
  go_at_call 31; refine (HP.out _ (HQ.out.below (by (repeat (first | exact grow_refl _ | refine grow_ext _ ?_ | refine grow_alloc _ ?_ | refine grow_drew ?_)))) (HL.out.below (by (repeat (first | exact grow_refl _ | refine grow_ext _ ?_ | refine grow_alloc _ ?_ | refine grow_drew ?_)))) (HR.out.below (by (repeat (first | exact grow_refl _ | refine grow_ext _ ?_ | refine grow_alloc _ ?_ | refine grow_drew ?_))))).mono ?_; rintro e w' hret
  obtain ⟨ap, cp, rfl, k1, k2, hpts, x5, rfl⟩ := hret.open
  have HPT := Lib.hid hpts
  clear hret hpts
  go_wp2_with fail
  go_at_call 32; refine (HH.out _ (HQ.out.boxes.below (by (repeat (first | exact grow_refl _ | refine grow_ext _ ?_ | refine grow_alloc _ ?_ | refine grow_drew ?_)))) (HQ.out.holes.below (by (repeat (first | exact grow_refl _ | refine grow_ext _ ?_ | refine grow_alloc _ ?_ | refine grow_drew ?_))))).mono ?_; rintro e w' ⟨rfl, x6, rfl⟩
  go_wp2_with fail
  refine world_mask (fun W => Below w.heap.size w W ∧ MCells22 W w.heap.size q.name q.u q.t q.cover q.agg q.poker ∧ W.cell? ⟨w.heap.size + 1, 0, none⟩ = some (.int .i64 st) ∧ BoxAt W (w.heap.size + 1 + 1 + x0.heap.size + x1.heap.size + x2.heap.size + x3.heap.size + x4.heap.size + x5.heap.size + x6.heap.size) 0 ⟨lx, ly, lz, hx, hy, hz⟩ ∧ Pts W (.slice ad D.length cd) D ∧ Pts W (.slice ap P.length cp) P) _ ⟨by (repeat (first | exact grow_refl _ | refine grow_ext _ ?_ | refine grow_alloc _ ?_ | refine grow_drew ?_)), by simp [MCells22, go_sem], by simp [go_sem], by simp [BoxAt, go_sem, Nat.add_assoc], HDT.out.below (by (repeat (first | exact grow_refl _ | refine grow_ext _ ?_ | refine grow_alloc _ ?_ | refine grow_drew ?_))), HPT.out.below (by (repeat (first | exact grow_refl _ | refine grow_ext _ ?_ | refine grow_alloc _ ?_ | refine grow_drew ?_)))⟩ ?_
  clear HPT HP HDT HD
  rintro W0 ⟨hb, hm, hst, hg, hpd, hpp⟩
  generalize w.heap.size + 1 + 1 + x0.heap.size + x1.heap.size + x2.heap.size + x3.heap.size + x4.heap.size + x5.heap.size + x6.heap.size = gg at *
  have HM0 := Lib.hid hm
  have HSC := Lib.hid hst
  have HG0 := Lib.hid hg
  have HPD := Lib.hid hpd
  have HPP := Lib.hid hpp
  obtain ⟨_, _, e0, -, -, hpc⟩ := hpd
  cases e0
  have HPC := Lib.hid hpc
  have HBX := Lib.hid (show ∀ x : World, Below w.heap.size w (ext W0 x) from fun x => hb.trans ((below_ext W0 x).mono hb.size))
  clear hb hm hg hpc hpp
  go_wp2_with fail
  clear hst
  go_loopw [100] (fun a wr => ∃ i : Nat, i ≤ D.length ∧ a = .int .i64 i ∧ ∃ y, wr = ext W0 y) (fun a _ => D.length - (intOf a).toNat)
  case atStart => exact ⟨0, by omega, rfl, ext_of (Below.refl _ _)⟩
  case round =>
    obtain ⟨i, hi, rfl, ⟨y, rfl⟩⟩ := hrel
    by_cases hlt : i < D.length
    · have q1 : (0 : Int) ≤ (i : Int) := by omega
      have q2 : (i : Int) < (D.length : Int) := by omega
      obtain ⟨b0, o0, rfl, p0, p1, p2⟩ := HPC.out i hlt
      have p0 := cell_ext_some p0 y
      have p1 := cell_ext_some p1 y
      have p2 := cell_ext_some p2 y
      have HIN := Lib.hid (HDI.out i hlt)
      have HRE := Lib.hid (HDR.out i hlt)
      generalize D[i] = p at *
      obtain ⟨m0, m1, m2, m3, m4, m5⟩ := HM0.out.ext y
      go_wp2_with fail
      clear p0 p1 p2
      go_at_call 44; refine (HIN.out _ ((HQ.out.boxes.below (HBX.out y)).below (by (repeat (first | exact grow_refl _ | refine grow_ext _ ?_ | refine grow_alloc _ ?_ | refine grow_drew ?_)))) ((HQ.out.holes.below (HBX.out y)).below (by (repeat (first | exact grow_refl _ | refine grow_ext _ ?_ | refine grow_alloc _ ?_ | refine grow_drew ?_))))).mono ?_; rintro e w' ⟨rfl, y1, rfl⟩
      go_wp2_with fail
      go_at_call 21; refine (HRE.out _ _ ((HPP.out.ext y).below (by (repeat (first | exact grow_refl _ | refine grow_ext _ ?_ | refine grow_alloc _ ?_ | refine grow_drew ?_))))).mono ?_; rintro e w' ⟨rfl, y2, rfl⟩
      go_wp2
      go_roundw
      case rel => exact ⟨i + 1, by omega, by go_num, ext_of (by (repeat (first | exact grow_refl _ | refine grow_ext _ ?_ | refine grow_alloc _ ?_ | refine grow_drew ?_)))⟩
      case measure => simp [intOf]; omega
    · obtain rfl : i = D.length := by omega
      go_upto_region 21 with fail
      go_cut [30] (fun s30 wx => ∃ g, s30 = .pointer (some ⟨g, 0, none⟩) ∧ PtAt wx g 0 ⟨AX, AY, AZ⟩ ∧ Below (ext W0 y).heap.size (ext W0 y) wx)
      case first =>
        refine wp_region_J [.func (.func 45) #[] #[.pointer (some ⟨w.heap.size + 1, 0, none⟩)], .pointer (some ⟨gg, 0, none⟩), .pointer (some ⟨gg, 0, none⟩), .int .i64 lx, .pointer (some ⟨gg, 3, none⟩), .pointer (some ⟨gg, 3, none⟩), .int .i64 hx, .int .u16 ni, .int .i64 AX, .func (.func 45) #[] #[.pointer (some ⟨w.heap.size + 1, 0, none⟩)], .pointer (some ⟨gg, 0, none⟩), .pointer (some ⟨gg, 1, none⟩), .int .i64 ly, .pointer (some ⟨gg, 3, none⟩), .pointer (some ⟨gg, 4, none⟩), .int .i64 hy, .int .u16 nj, .int .i64 AY, .func (.func 45) #[] #[.pointer (some ⟨w.heap.size + 1, 0, none⟩)], .pointer (some ⟨gg, 0, none⟩), .pointer (some ⟨gg, 2, none⟩), .int .i64 lz, .pointer (some ⟨gg, 3, none⟩), .pointer (some ⟨gg, 5, none⟩), .int .i64 hz, .int .u16 nk, .int .i64 AZ, .agg #[.int .i64 AX, .int .i64 AY, .int .i64 AZ], undef, undef] 28 29 30 #[.int .i64 AX, .int .i64 AY, .int .i64 AZ] (by kernel_rfl) (by kernel_rfl) (of_decide_eq_true (by kernel_rfl)) (of_decide_eq_true (by kernel_rfl)) ?_ ?_
        · intro L vs W i hlen hJ hi
          obtain ⟨x0, vs0, rfl, hlen0⟩ := len_cons hlen
          obtain ⟨x1, vs1, rfl, hlen1⟩ := len_cons hlen0
          obtain ⟨x2, vs2, rfl, hlen2⟩ := len_cons hlen1
          obtain ⟨x3, vs3, rfl, hlen3⟩ := len_cons hlen2
          obtain ⟨x4, vs4, rfl, hlen4⟩ := len_cons hlen3
          obtain ⟨x5, vs5, rfl, hlen5⟩ := len_cons hlen4
          obtain ⟨x6, vs6, rfl, hlen6⟩ := len_cons hlen5
          obtain ⟨x7, vs7, rfl, hlen7⟩ := len_cons hlen6
          obtain ⟨x8, vs8, rfl, hlen8⟩ := len_cons hlen7
          obtain ⟨x9, vs9, rfl, hlen9⟩ := len_cons hlen8
          obtain ⟨x10, vs10, rfl, hlen10⟩ := len_cons hlen9
          obtain ⟨x11, vs11, rfl, hlen11⟩ := len_cons hlen10
          obtain ⟨x12, vs12, rfl, hlen12⟩ := len_cons hlen11
          obtain ⟨x13, vs13, rfl, hlen13⟩ := len_cons hlen12
          obtain ⟨x14, vs14, rfl, hlen14⟩ := len_cons hlen13
          obtain ⟨x15, vs15, rfl, hlen15⟩ := len_cons hlen14
          obtain ⟨x16, vs16, rfl, hlen16⟩ := len_cons hlen15
          obtain ⟨x17, vs17, rfl, hlen17⟩ := len_cons hlen16
          obtain ⟨x18, vs18, rfl, hlen18⟩ := len_cons hlen17
          obtain ⟨x19, vs19, rfl, hlen19⟩ := len_cons hlen18
          obtain ⟨x20, vs20, rfl, hlen20⟩ := len_cons hlen19
          obtain ⟨x21, vs21, rfl, hlen21⟩ := len_cons hlen20
          obtain ⟨x22, vs22, rfl, hlen22⟩ := len_cons hlen21
          obtain ⟨x23, vs23, rfl, hlen23⟩ := len_cons hlen22
          obtain ⟨x24, vs24, rfl, hlen24⟩ := len_cons hlen23
          obtain ⟨x25, vs25, rfl, hlen25⟩ := len_cons hlen24
          obtain ⟨x26, vs26, rfl, hlen26⟩ := len_cons hlen25
          obtain ⟨x27, vs27, rfl, hlen27⟩ := len_cons hlen26
          obtain ⟨x28, vs28, rfl, hlen28⟩ := len_cons hlen27
          obtain ⟨x29, vs29, rfl, hlen29⟩ := len_cons hlen28
          obtain rfl := len_nil hlen29
          clear hlen hlen0 hlen1 hlen2 hlen3 hlen4 hlen5 hlen6 hlen7 hlen8 hlen9 hlen10 hlen11 hlen12 hlen13 hlen14 hlen15 hlen16 hlen17 hlen18 hlen19 hlen20 hlen21 hlen22 hlen23 hlen24 hlen25 hlen26 hlen27 hlen28 hlen29
          obtain ⟨hun, o, ho, hd⟩ := mem_ready.1 hi
          have hin : i < 30 := by have := (Array.getElem?_eq_some_iff.1 ho).1; simpa using this
          refine wpOp_free (B := fun a' W' => ∃ x0 x1 x2 x3 x4 x5 x6 x7 x8 x9 x10 x11 x12 x13 x14 x15 x16 x17 x18 x19 x20 x21 x22 x23 x24 x25 x26 x27 x28 x29, a' = putAll _ [x0, x1, x2, x3, x4, x5, x6, x7, x8, x9, x10, x11, x12, x13, x14, x15, x16, x17, x18, x19, x20, x21, x22, x23, x24, x25, x26, x27, x28, x29] _ ∧ InvJ _ _ _ _ _ _ [x0, x1, x2, x3, x4, x5, x6, x7, x8, x9, x10, x11, x12, x13, x14, x15, x16, x17, x18, x19, x20, x21, x22, x23, x24, x25, x26, x27, x28, x29] (L.setIfInBounds i true) W') (fun _ _ h => by obtain ⟨x0, x1, x2, x3, x4, x5, x6, x7, x8, x9, x10, x11, x12, x13, x14, x15, x16, x17, x18, x19, x20, x21, x22, x23, x24, x25, x26, x27, x28, x29, h1, h2⟩ := h; exact ⟨[x0, x1, x2, x3, x4, x5, x6, x7, x8, x9, x10, x11, x12, x13, x14, x15, x16, x17, x18, x19, x20, x21, x22, x23, x24, x25, x26, x27, x28, x29], rfl, h1, h2⟩) ?_
          intro K HK
          simp only [putAll_cons, putAll_nil, put_some, put_none, List.setIfInBounds_toArray, List.set_cons_succ, List.set_cons_zero] at HK ⊢
          obtain ⟨z, ez⟩ := ext_of hJ.below
          have hbx := (HG0.out.ext y).ext z
          have hst := cell_ext_some (cell_ext_some HSC.out y) z
          rw [← ez] at hbx hst
          obtain ⟨c0, c1, c2, c3, c4, c5⟩ := hbx
          simp only [Nat.zero_add] at c1 c2 c3 c4 c5
          clear ez
          rcases (show i = 0 ∨ i = 1 ∨ i = 2 ∨ i = 3 ∨ i = 4 ∨ i = 5 ∨ i = 6 ∨ i = 7 ∨ i = 8 ∨ i = 9 ∨ i = 10 ∨ i = 11 ∨ i = 12 ∨ i = 13 ∨ i = 14 ∨ i = 15 ∨ i = 16 ∨ i = 17 ∨ i = 18 ∨ i = 19 ∨ i = 20 ∨ i = 21 ∨ i = 22 ∨ i = 23 ∨ i = 24 ∨ i = 25 ∨ i = 26 ∨ i = 27 ∨ i = 28 ∨ i = 29 by omega) with rfl | rfl | rfl | rfl | rfl | rfl | rfl | rfl | rfl | rfl | rfl | rfl | rfl | rfl | rfl | rfl | rfl | rfl | rfl | rfl | rfl | rfl | rfl | rfl | rfl | rfl | rfl | rfl | rfl | rfl
          · obtain rfl := Option.some.inj ho
            refine wpOp_of_list (by rfl) ?_
            go_wp2
            exact HK.out _ _ ⟨_, _, _, _, _, _, _, _, _, _, _, _, _, _, _, _, _, _, _, _, _, _, _, _, _, _, _, _, _, _, rfl, hJ.up 0 (by decide) (by decide) (show 0 < 30 by decide) rfl⟩
          · obtain rfl := Option.some.inj ho
            refine wpOp_of_list (by rfl) ?_
            go_wp2
            exact HK.out _ _ ⟨_, _, _, _, _, _, _, _, _, _, _, _, _, _, _, _, _, _, _, _, _, _, _, _, _, _, _, _, _, _, rfl, hJ.up 1 (by decide) (by decide) (show 1 < 30 by decide) rfl⟩
          · obtain rfl := Option.some.inj ho
            have d1 : x1 = .pointer (some ⟨gg, 0, none⟩) := hJ.val 1 (show 1 < 30 by decide) (by decide) (by decide) (getD_up (hd ⟨1, .data⟩ (by simp) (by rfl)))
            subst d1
            refine wpOp_of_list (by rfl) ?_
            go_wp2
            exact HK.out _ _ ⟨_, _, _, _, _, _, _, _, _, _, _, _, _, _, _, _, _, _, _, _, _, _, _, _, _, _, _, _, _, _, rfl, hJ.up 2 (by decide) (by decide) (show 2 < 30 by decide) rfl⟩
          · obtain rfl := Option.some.inj ho
            have d2 : x2 = .pointer (some ⟨gg, 0, none⟩) := hJ.val 2 (show 2 < 30 by decide) (by decide) (by decide) (getD_up (hd ⟨2, .data⟩ (by simp) (by rfl)))
            subst d2
            refine wpOp_of_list (by rfl) ?_
            go_wp2
            exact HK.out _ _ ⟨_, _, _, _, _, _, _, _, _, _, _, _, _, _, _, _, _, _, _, _, _, _, _, _, _, _, _, _, _, _, rfl, hJ.up 3 (by decide) (by decide) (show 3 < 30 by decide) rfl⟩
          · obtain rfl := Option.some.inj ho
            refine wpOp_of_list (by rfl) ?_
            go_wp2
            exact HK.out _ _ ⟨_, _, _, _, _, _, _, _, _, _, _, _, _, _, _, _, _, _, _, _, _, _, _, _, _, _, _, _, _, _, rfl, hJ.up 4 (by decide) (by decide) (show 4 < 30 by decide) rfl⟩
          · obtain rfl := Option.some.inj ho
            have d4 : x4 = .pointer (some ⟨gg, 3, none⟩) := hJ.val 4 (show 4 < 30 by decide) (by decide) (by decide) (getD_up (hd ⟨4, .data⟩ (by simp) (by rfl)))
            subst d4
            refine wpOp_of_list (by rfl) ?_
            go_wp2
            exact HK.out _ _ ⟨_, _, _, _, _, _, _, _, _, _, _, _, _, _, _, _, _, _, _, _, _, _, _, _, _, _, _, _, _, _, rfl, hJ.up 5 (by decide) (by decide) (show 5 < 30 by decide) rfl⟩
          · obtain rfl := Option.some.inj ho
            have d5 : x5 = .pointer (some ⟨gg, 3, none⟩) := hJ.val 5 (show 5 < 30 by decide) (by decide) (by decide) (getD_up (hd ⟨5, .data⟩ (by simp) (by rfl)))
            subst d5
            refine wpOp_of_list (by rfl) ?_
            go_wp2
            exact HK.out _ _ ⟨_, _, _, _, _, _, _, _, _, _, _, _, _, _, _, _, _, _, _, _, _, _, _, _, _, _, _, _, _, _, rfl, hJ.up 6 (by decide) (by decide) (show 6 < 30 by decide) rfl⟩
          · obtain rfl := Option.some.inj ho
            refine wpOp_of_list (by rfl) ?_
            go_wp2
            exact HK.out _ _ ⟨_, _, _, _, _, _, _, _, _, _, _, _, _, _, _, _, _, _, _, _, _, _, _, _, _, _, _, _, _, _, rfl, hJ.up 7 (by decide) (by decide) (show 7 < 30 by decide) rfl⟩
          · obtain rfl := Option.some.inj ho
            have d0 : x0 = .func (.func 45) #[] #[.pointer (some ⟨w.heap.size + 1, 0, none⟩)] := hJ.val 0 (show 0 < 30 by decide) (by decide) (by decide) (getD_up (hd ⟨0, .data⟩ (by simp) (by rfl)))
            have d3 : x3 = .int .i64 lx := hJ.val 3 (show 3 < 30 by decide) (by decide) (by decide) (getD_up (hd ⟨3, .data⟩ (by simp) (by rfl)))
            have d6 : x6 = .int .i64 hx := hJ.val 6 (show 6 < 30 by decide) (by decide) (by decide) (getD_up (hd ⟨6, .data⟩ (by simp) (by rfl)))
            have d7 : x7 = .int .u16 ni := hJ.val 7 (show 7 < 30 by decide) (by decide) (by decide) (getD_up (hd ⟨7, .data⟩ (by simp) (by rfl)))
            subst d0 d3 d6 d7
            refine wpOp_of_list (by rfl) ?_
            go_wp2_with fail
            go_at_call 45; refine (HOX.out _ hst).mono ?_; rintro e w' ⟨rfl, xq, rfl⟩
            go_wp2
            exact HK.out _ _ ⟨_, _, _, _, _, _, _, _, _, _, _, _, _, _, _, _, _, _, _, _, _, _, _, _, _, _, _, _, _, _, rfl, (hJ.grow _).up 8 (by decide) (by decide) (show 8 < 30 by decide) rfl⟩
          · obtain rfl := Option.some.inj ho
            refine wpOp_of_list (by rfl) ?_
            go_wp2
            exact HK.out _ _ ⟨_, _, _, _, _, _, _, _, _, _, _, _, _, _, _, _, _, _, _, _, _, _, _, _, _, _, _, _, _, _, rfl, hJ.up 9 (by decide) (by decide) (show 9 < 30 by decide) rfl⟩
          · obtain rfl := Option.some.inj ho
            refine wpOp_of_list (by rfl) ?_
            go_wp2
            exact HK.out _ _ ⟨_, _, _, _, _, _, _, _, _, _, _, _, _, _, _, _, _, _, _, _, _, _, _, _, _, _, _, _, _, _, rfl, hJ.up 10 (by decide) (by decide) (show 10 < 30 by decide) rfl⟩
          · obtain rfl := Option.some.inj ho
            have d10 : x10 = .pointer (some ⟨gg, 0, none⟩) := hJ.val 10 (show 10 < 30 by decide) (by decide) (by decide) (getD_up (hd ⟨10, .data⟩ (by simp) (by rfl)))
            subst d10
            refine wpOp_of_list (by rfl) ?_
            go_wp2
            exact HK.out _ _ ⟨_, _, _, _, _, _, _, _, _, _, _, _, _, _, _, _, _, _, _, _, _, _, _, _, _, _, _, _, _, _, rfl, hJ.up 11 (by decide) (by decide) (show 11 < 30 by decide) rfl⟩
          · obtain rfl := Option.some.inj ho
            have d11 : x11 = .pointer (some ⟨gg, 1, none⟩) := hJ.val 11 (show 11 < 30 by decide) (by decide) (by decide) (getD_up (hd ⟨11, .data⟩ (by simp) (by rfl)))
            subst d11
            refine wpOp_of_list (by rfl) ?_
            go_wp2
            exact HK.out _ _ ⟨_, _, _, _, _, _, _, _, _, _, _, _, _, _, _, _, _, _, _, _, _, _, _, _, _, _, _, _, _, _, rfl, hJ.up 12 (by decide) (by decide) (show 12 < 30 by decide) rfl⟩
          · obtain rfl := Option.some.inj ho
            refine wpOp_of_list (by rfl) ?_
            go_wp2
            exact HK.out _ _ ⟨_, _, _, _, _, _, _, _, _, _, _, _, _, _, _, _, _, _, _, _, _, _, _, _, _, _, _, _, _, _, rfl, hJ.up 13 (by decide) (by decide) (show 13 < 30 by decide) rfl⟩
          · obtain rfl := Option.some.inj ho
            have d13 : x13 = .pointer (some ⟨gg, 3, none⟩) := hJ.val 13 (show 13 < 30 by decide) (by decide) (by decide) (getD_up (hd ⟨13, .data⟩ (by simp) (by rfl)))
            subst d13
            refine wpOp_of_list (by rfl) ?_
            go_wp2
            exact HK.out _ _ ⟨_, _, _, _, _, _, _, _, _, _, _, _, _, _, _, _, _, _, _, _, _, _, _, _, _, _, _, _, _, _, rfl, hJ.up 14 (by decide) (by decide) (show 14 < 30 by decide) rfl⟩
          · obtain rfl := Option.some.inj ho
            have d14 : x14 = .pointer (some ⟨gg, 4, none⟩) := hJ.val 14 (show 14 < 30 by decide) (by decide) (by decide) (getD_up (hd ⟨14, .data⟩ (by simp) (by rfl)))
            subst d14
            refine wpOp_of_list (by rfl) ?_
            go_wp2
            exact HK.out _ _ ⟨_, _, _, _, _, _, _, _, _, _, _, _, _, _, _, _, _, _, _, _, _, _, _, _, _, _, _, _, _, _, rfl, hJ.up 15 (by decide) (by decide) (show 15 < 30 by decide) rfl⟩
          · obtain rfl := Option.some.inj ho
            refine wpOp_of_list (by rfl) ?_
            go_wp2
            exact HK.out _ _ ⟨_, _, _, _, _, _, _, _, _, _, _, _, _, _, _, _, _, _, _, _, _, _, _, _, _, _, _, _, _, _, rfl, hJ.up 16 (by decide) (by decide) (show 16 < 30 by decide) rfl⟩
          · obtain rfl := Option.some.inj ho
            have d9 : x9 = .func (.func 45) #[] #[.pointer (some ⟨w.heap.size + 1, 0, none⟩)] := hJ.val 9 (show 9 < 30 by decide) (by decide) (by decide) (getD_up (hd ⟨9, .data⟩ (by simp) (by rfl)))
            have d12 : x12 = .int .i64 ly := hJ.val 12 (show 12 < 30 by decide) (by decide) (by decide) (getD_up (hd ⟨12, .data⟩ (by simp) (by rfl)))
            have d15 : x15 = .int .i64 hy := hJ.val 15 (show 15 < 30 by decide) (by decide) (by decide) (getD_up (hd ⟨15, .data⟩ (by simp) (by rfl)))
            have d16 : x16 = .int .u16 nj := hJ.val 16 (show 16 < 30 by decide) (by decide) (by decide) (getD_up (hd ⟨16, .data⟩ (by simp) (by rfl)))
            subst d9 d12 d15 d16
            refine wpOp_of_list (by rfl) ?_
            go_wp2_with fail
            go_at_call 45; refine (HOY.out _ hst).mono ?_; rintro e w' ⟨rfl, xq, rfl⟩
            go_wp2
            exact HK.out _ _ ⟨_, _, _, _, _, _, _, _, _, _, _, _, _, _, _, _, _, _, _, _, _, _, _, _, _, _, _, _, _, _, rfl, (hJ.grow _).up 17 (by decide) (by decide) (show 17 < 30 by decide) rfl⟩
          · obtain rfl := Option.some.inj ho
            refine wpOp_of_list (by rfl) ?_
            go_wp2
            exact HK.out _ _ ⟨_, _, _, _, _, _, _, _, _, _, _, _, _, _, _, _, _, _, _, _, _, _, _, _, _, _, _, _, _, _, rfl, hJ.up 18 (by decide) (by decide) (show 18 < 30 by decide) rfl⟩
          · obtain rfl := Option.some.inj ho
            refine wpOp_of_list (by rfl) ?_
            go_wp2
            exact HK.out _ _ ⟨_, _, _, _, _, _, _, _, _, _, _, _, _, _, _, _, _, _, _, _, _, _, _, _, _, _, _, _, _, _, rfl, hJ.up 19 (by decide) (by decide) (show 19 < 30 by decide) rfl⟩
          · obtain rfl := Option.some.inj ho
            have d19 : x19 = .pointer (some ⟨gg, 0, none⟩) := hJ.val 19 (show 19 < 30 by decide) (by decide) (by decide) (getD_up (hd ⟨19, .data⟩ (by simp) (by rfl)))
            subst d19
            refine wpOp_of_list (by rfl) ?_
            go_wp2
            exact HK.out _ _ ⟨_, _, _, _, _, _, _, _, _, _, _, _, _, _, _, _, _, _, _, _, _, _, _, _, _, _, _, _, _, _, rfl, hJ.up 20 (by decide) (by decide) (show 20 < 30 by decide) rfl⟩
          · obtain rfl := Option.some.inj ho
            have d20 : x20 = .pointer (some ⟨gg, 2, none⟩) := hJ.val 20 (show 20 < 30 by decide) (by decide) (by decide) (getD_up (hd ⟨20, .data⟩ (by simp) (by rfl)))
            subst d20
            refine wpOp_of_list (by rfl) ?_
            go_wp2
            exact HK.out _ _ ⟨_, _, _, _, _, _, _, _, _, _, _, _, _, _, _, _, _, _, _, _, _, _, _, _, _, _, _, _, _, _, rfl, hJ.up 21 (by decide) (by decide) (show 21 < 30 by decide) rfl⟩
          · obtain rfl := Option.some.inj ho
            refine wpOp_of_list (by rfl) ?_
            go_wp2
            exact HK.out _ _ ⟨_, _, _, _, _, _, _, _, _, _, _, _, _, _, _, _, _, _, _, _, _, _, _, _, _, _, _, _, _, _, rfl, hJ.up 22 (by decide) (by decide) (show 22 < 30 by decide) rfl⟩
          · obtain rfl := Option.some.inj ho
            have d22 : x22 = .pointer (some ⟨gg, 3, none⟩) := hJ.val 22 (show 22 < 30 by decide) (by decide) (by decide) (getD_up (hd ⟨22, .data⟩ (by simp) (by rfl)))
            subst d22
            refine wpOp_of_list (by rfl) ?_
            go_wp2
            exact HK.out _ _ ⟨_, _, _, _, _, _, _, _, _, _, _, _, _, _, _, _, _, _, _, _, _, _, _, _, _, _, _, _, _, _, rfl, hJ.up 23 (by decide) (by decide) (show 23 < 30 by decide) rfl⟩
          · obtain rfl := Option.some.inj ho
            have d23 : x23 = .pointer (some ⟨gg, 5, none⟩) := hJ.val 23 (show 23 < 30 by decide) (by decide) (by decide) (getD_up (hd ⟨23, .data⟩ (by simp) (by rfl)))
            subst d23
            refine wpOp_of_list (by rfl) ?_
            go_wp2
            exact HK.out _ _ ⟨_, _, _, _, _, _, _, _, _, _, _, _, _, _, _, _, _, _, _, _, _, _, _, _, _, _, _, _, _, _, rfl, hJ.up 24 (by decide) (by decide) (show 24 < 30 by decide) rfl⟩
          · obtain rfl := Option.some.inj ho
            refine wpOp_of_list (by rfl) ?_
            go_wp2
            exact HK.out _ _ ⟨_, _, _, _, _, _, _, _, _, _, _, _, _, _, _, _, _, _, _, _, _, _, _, _, _, _, _, _, _, _, rfl, hJ.up 25 (by decide) (by decide) (show 25 < 30 by decide) rfl⟩
          · obtain rfl := Option.some.inj ho
            have d18 : x18 = .func (.func 45) #[] #[.pointer (some ⟨w.heap.size + 1, 0, none⟩)] := hJ.val 18 (show 18 < 30 by decide) (by decide) (by decide) (getD_up (hd ⟨18, .data⟩ (by simp) (by rfl)))
            have d21 : x21 = .int .i64 lz := hJ.val 21 (show 21 < 30 by decide) (by decide) (by decide) (getD_up (hd ⟨21, .data⟩ (by simp) (by rfl)))
            have d24 : x24 = .int .i64 hz := hJ.val 24 (show 24 < 30 by decide) (by decide) (by decide) (getD_up (hd ⟨24, .data⟩ (by simp) (by rfl)))
            have d25 : x25 = .int .u16 nk := hJ.val 25 (show 25 < 30 by decide) (by decide) (by decide) (getD_up (hd ⟨25, .data⟩ (by simp) (by rfl)))
            subst d18 d21 d24 d25
            refine wpOp_of_list (by rfl) ?_
            go_wp2_with fail
            go_at_call 45; refine (HOZ.out _ hst).mono ?_; rintro e w' ⟨rfl, xq, rfl⟩
            go_wp2
            exact HK.out _ _ ⟨_, _, _, _, _, _, _, _, _, _, _, _, _, _, _, _, _, _, _, _, _, _, _, _, _, _, _, _, _, _, rfl, (hJ.grow _).up 26 (by decide) (by decide) (show 26 < 30 by decide) rfl⟩
          · obtain rfl := Option.some.inj ho
            have d8 : x8 = .int .i64 AX := hJ.val 8 (show 8 < 30 by decide) (by decide) (by decide) (getD_up (hd ⟨8, .data⟩ (by simp) (by rfl)))
            have d17 : x17 = .int .i64 AY := hJ.val 17 (show 17 < 30 by decide) (by decide) (by decide) (getD_up (hd ⟨17, .data⟩ (by simp) (by rfl)))
            have d26 : x26 = .int .i64 AZ := hJ.val 26 (show 26 < 30 by decide) (by decide) (by decide) (getD_up (hd ⟨26, .data⟩ (by simp) (by rfl)))
            subst d8 d17 d26
            refine wpOp_of_list (by rfl) ?_
            go_wp2_with fail
            go_at_call 27; refine (at22_c _ _ _ _).mono ?_; rintro e w' ⟨rfl, xq, rfl⟩
            go_wp2
            exact HK.out _ _ ⟨_, _, _, _, _, _, _, _, _, _, _, _, _, _, _, _, _, _, _, _, _, _, _, _, _, _, _, _, _, _, rfl, (hJ.grow _).up 27 (by decide) (by decide) (show 27 < 30 by decide) rfl⟩
          · obtain rfl := Option.some.inj ho
            refine wpOp_of_list (by rfl) ?_
            go_wp2
            exact HK.out _ _ ⟨_, _, _, _, _, _, _, _, _, _, _, _, _, _, _, _, _, _, _, _, _, _, _, _, _, _, _, _, _, _, rfl, hJ.make (show 28 < 30 by decide) (by decide) hun #[.int .i64 0, .int .i64 0, .int .i64 0] rfl rfl⟩
          · obtain rfl := Option.some.inj ho
            have d27 : x27 = .agg #[.int .i64 AX, .int .i64 AY, .int .i64 AZ] := hJ.val 27 (show 27 < 30 by decide) (by decide) (by decide) (getD_up (hd ⟨27, .data⟩ (by simp) (by rfl)))
            have hka := getD_up (hd ⟨28, .data⟩ (by simp) (by rfl))
            obtain ⟨g, hs, hg, cs, hcs, hb, -⟩ := hJ.made hka
            have hs2 : x28 = .pointer (some ⟨g, 0, none⟩) := hs
            obtain ⟨a0, h0⟩ : ∃ a, cs[0]? = some a := ⟨_, Array.getElem?_eq_getElem (by rw [hcs]; exact (show 0 < 3 by decide))⟩
            obtain ⟨a1, h1⟩ : ∃ a, cs[1]? = some a := ⟨_, Array.getElem?_eq_getElem (by rw [hcs]; exact (show 1 < 3 by decide))⟩
            obtain ⟨a2, h2⟩ : ∃ a, cs[2]? = some a := ⟨_, Array.getElem?_eq_getElem (by rw [hcs]; exact (show 2 < 3 by decide))⟩
            have f0 : W.frozen? ⟨g, 0, none⟩ = false := hb.frozen 0
            have g0 : W.cell? ⟨g, 0, none⟩ = some a0 := (hb.cell 0).trans h0
            have f1 : W.frozen? ⟨g, 1, none⟩ = false := hb.frozen 1
            have g1 : W.cell? ⟨g, 1, none⟩ = some a1 := (hb.cell 1).trans h1
            have f2 : W.frozen? ⟨g, 2, none⟩ = false := hb.frozen 2
            have g2 : W.cell? ⟨g, 2, none⟩ = some a2 := (hb.cell 2).trans h2
            subst d27
            subst hs2
            refine wpOp_of_list (by rfl) ?_
            go_wp2
            refine HK.out _ _ ⟨_, _, _, _, _, _, _, _, _, _, _, _, _, _, _, _, _, _, _, _, _, _, _, _, _, _, _, _, _, _, rfl, hJ.fill (by decide) hka hs hg (((hJ.below.setCell hg _).setCell hg _).setCell hg _) ?_⟩
            rw [← fill3 (a := .int .i64 AX) (b := .int .i64 AY) (c := .int .i64 AZ) hcs]
            exact (((hb.set 0 _).set 1 _).set 2 _)
        · intro vs g W hlen hb hv hs hg hk
          obtain ⟨x0, vs0, rfl, hlen0⟩ := len_cons hlen
          obtain ⟨x1, vs1, rfl, hlen1⟩ := len_cons hlen0
          obtain ⟨x2, vs2, rfl, hlen2⟩ := len_cons hlen1
          obtain ⟨x3, vs3, rfl, hlen3⟩ := len_cons hlen2
          obtain ⟨x4, vs4, rfl, hlen4⟩ := len_cons hlen3
          obtain ⟨x5, vs5, rfl, hlen5⟩ := len_cons hlen4
          obtain ⟨x6, vs6, rfl, hlen6⟩ := len_cons hlen5
          obtain ⟨x7, vs7, rfl, hlen7⟩ := len_cons hlen6
          obtain ⟨x8, vs8, rfl, hlen8⟩ := len_cons hlen7
          obtain ⟨x9, vs9, rfl, hlen9⟩ := len_cons hlen8
          obtain ⟨x10, vs10, rfl, hlen10⟩ := len_cons hlen9
          obtain ⟨x11, vs11, rfl, hlen11⟩ := len_cons hlen10
          obtain ⟨x12, vs12, rfl, hlen12⟩ := len_cons hlen11
          obtain ⟨x13, vs13, rfl, hlen13⟩ := len_cons hlen12
          obtain ⟨x14, vs14, rfl, hlen14⟩ := len_cons hlen13
          obtain ⟨x15, vs15, rfl, hlen15⟩ := len_cons hlen14
          obtain ⟨x16, vs16, rfl, hlen16⟩ := len_cons hlen15
          obtain ⟨x17, vs17, rfl, hlen17⟩ := len_cons hlen16
          obtain ⟨x18, vs18, rfl, hlen18⟩ := len_cons hlen17
          obtain ⟨x19, vs19, rfl, hlen19⟩ := len_cons hlen18
          obtain ⟨x20, vs20, rfl, hlen20⟩ := len_cons hlen19
          obtain ⟨x21, vs21, rfl, hlen21⟩ := len_cons hlen20
          obtain ⟨x22, vs22, rfl, hlen22⟩ := len_cons hlen21
          obtain ⟨x23, vs23, rfl, hlen23⟩ := len_cons hlen22
          obtain ⟨x24, vs24, rfl, hlen24⟩ := len_cons hlen23
          obtain ⟨x25, vs25, rfl, hlen25⟩ := len_cons hlen24
          obtain ⟨x26, vs26, rfl, hlen26⟩ := len_cons hlen25
          obtain ⟨x27, vs27, rfl, hlen27⟩ := len_cons hlen26
          obtain ⟨x28, vs28, rfl, hlen28⟩ := len_cons hlen27
          obtain ⟨x29, vs29, rfl, hlen29⟩ := len_cons hlen28
          obtain rfl := len_nil hlen29
          clear hlen hlen0 hlen1 hlen2 hlen3 hlen4 hlen5 hlen6 hlen7 hlen8 hlen9 hlen10 hlen11 hlen12 hlen13 hlen14 hlen15 hlen16 hlen17 hlen18 hlen19 hlen20 hlen21 hlen22 hlen23 hlen24 hlen25 hlen26 hlen27 hlen28 hlen29
          obtain rfl : x0 = .func (.func 45) #[] #[.pointer (some ⟨w.heap.size + 1, 0, none⟩)] := hv 0 (show 0 < 30 by decide) (by decide) (by decide)
          obtain rfl : x1 = .pointer (some ⟨gg, 0, none⟩) := hv 1 (show 1 < 30 by decide) (by decide) (by decide)
          obtain rfl : x2 = .pointer (some ⟨gg, 0, none⟩) := hv 2 (show 2 < 30 by decide) (by decide) (by decide)
          obtain rfl : x3 = .int .i64 lx := hv 3 (show 3 < 30 by decide) (by decide) (by decide)
          obtain rfl : x4 = .pointer (some ⟨gg, 3, none⟩) := hv 4 (show 4 < 30 by decide) (by decide) (by decide)
          obtain rfl : x5 = .pointer (some ⟨gg, 3, none⟩) := hv 5 (show 5 < 30 by decide) (by decide) (by decide)
          obtain rfl : x6 = .int .i64 hx := hv 6 (show 6 < 30 by decide) (by decide) (by decide)
          obtain rfl : x7 = .int .u16 ni := hv 7 (show 7 < 30 by decide) (by decide) (by decide)
          obtain rfl : x8 = .int .i64 AX := hv 8 (show 8 < 30 by decide) (by decide) (by decide)
          obtain rfl : x9 = .func (.func 45) #[] #[.pointer (some ⟨w.heap.size + 1, 0, none⟩)] := hv 9 (show 9 < 30 by decide) (by decide) (by decide)
          obtain rfl : x10 = .pointer (some ⟨gg, 0, none⟩) := hv 10 (show 10 < 30 by decide) (by decide) (by decide)
          obtain rfl : x11 = .pointer (some ⟨gg, 1, none⟩) := hv 11 (show 11 < 30 by decide) (by decide) (by decide)
          obtain rfl : x12 = .int .i64 ly := hv 12 (show 12 < 30 by decide) (by decide) (by decide)
          obtain rfl : x13 = .pointer (some ⟨gg, 3, none⟩) := hv 13 (show 13 < 30 by decide) (by decide) (by decide)
          obtain rfl : x14 = .pointer (some ⟨gg, 4, none⟩) := hv 14 (show 14 < 30 by decide) (by decide) (by decide)
          obtain rfl : x15 = .int .i64 hy := hv 15 (show 15 < 30 by decide) (by decide) (by decide)
          obtain rfl : x16 = .int .u16 nj := hv 16 (show 16 < 30 by decide) (by decide) (by decide)
          obtain rfl : x17 = .int .i64 AY := hv 17 (show 17 < 30 by decide) (by decide) (by decide)
          obtain rfl : x18 = .func (.func 45) #[] #[.pointer (some ⟨w.heap.size + 1, 0, none⟩)] := hv 18 (show 18 < 30 by decide) (by decide) (by decide)
          obtain rfl : x19 = .pointer (some ⟨gg, 0, none⟩) := hv 19 (show 19 < 30 by decide) (by decide) (by decide)
          obtain rfl : x20 = .pointer (some ⟨gg, 2, none⟩) := hv 20 (show 20 < 30 by decide) (by decide) (by decide)
          obtain rfl : x21 = .int .i64 lz := hv 21 (show 21 < 30 by decide) (by decide) (by decide)
          obtain rfl : x22 = .pointer (some ⟨gg, 3, none⟩) := hv 22 (show 22 < 30 by decide) (by decide) (by decide)
          obtain rfl : x23 = .pointer (some ⟨gg, 5, none⟩) := hv 23 (show 23 < 30 by decide) (by decide) (by decide)
          obtain rfl : x24 = .int .i64 hz := hv 24 (show 24 < 30 by decide) (by decide) (by decide)
          obtain rfl : x25 = .int .u16 nk := hv 25 (show 25 < 30 by decide) (by decide) (by decide)
          obtain rfl : x26 = .int .i64 AZ := hv 26 (show 26 < 30 by decide) (by decide) (by decide)
          obtain rfl : x27 = .agg #[.int .i64 AX, .int .i64 AY, .int .i64 AZ] := hv 27 (show 27 < 30 by decide) (by decide) (by decide)
          obtain rfl : x28 = .pointer (some ⟨g, 0, none⟩) := hs
          clear hv
          simp only [putAll_cons, putAll_nil, put_some, put_none, List.setIfInBounds_toArray, List.set_cons_succ, List.set_cons_zero]
          have HBW := Lib.hid hb
          have HBK := Lib.hid hk
          clear hb hk hg
          go_wp2_with fail
          go_meet
          exact ⟨g, rfl, ⟨HBK.out.cell 0, HBK.out.cell 1, HBK.out.cell 2⟩, HBW.out⟩
      case rest =>
        obtain ⟨g, rfl, hpt, hbl⟩ := hcut
        obtain ⟨W2, rfl⟩ : ∃ W : World, W = wc := ⟨_, rfl⟩
        obtain ⟨z, ez⟩ := ext_of hbl
        have HB2 := Lib.hid ((HBX.out y).trans (hbl.mono (HBX.out y).size))
        have HPD2 := Lib.hid (show Pts W2 _ D by rw [ez]; exact (HPD.out.ext y).ext z)
        have HPP2 := Lib.hid (show Pts W2 _ P by rw [ez]; exact (HPP.out.ext y).ext z)
        have hm2 : MCells22 W2 w.heap.size q.name q.u q.t q.cover q.agg q.poker := by rw [ez]; exact (HM0.out.ext y).ext z
        obtain ⟨m0, m1, m2, m3, m4, m5⟩ := hm2
        obtain ⟨t0, t1, t2⟩ := hpt
        simp only [Nat.zero_add] at t1 t2
        clear hbl ez
        go_wp2_with fail
        go_at_call 44; refine (HI9.out _ (HQ.out.boxes.below HB2.out) (HQ.out.holes.below HB2.out)).mono ?_; rintro e w' ⟨rfl, y1, rfl⟩
        go_wp2_with fail
        go_at_call 21; refine (HR9.out _ _ (HPP2.out.below (by (repeat (first | exact grow_refl _ | refine grow_ext _ ?_ | refine grow_alloc _ ?_ | refine grow_drew ?_))))).mono ?_; rintro e w' ⟨rfl, y2, rfl⟩
        go_wp2_with fail
        go_at_call 42; refine (HC9.out _ _ (HPD2.out.below (by (repeat (first | exact grow_refl _ | refine grow_ext _ ?_ | refine grow_alloc _ ?_ | refine grow_drew ?_))))).mono ?_; rintro e w' ⟨rfl, y3, rfl⟩
        clear m0 m1 m2 m3 m4 m5 t0 t1 t2
        cases cin
        all_goals cases rb
        all_goals
          go_wp2
          go_ret
          exact Ret.of (HB2.out.trans (Below.mono (by (repeat (first | exact grow_refl _ | refine grow_ext _ ?_ | refine grow_alloc _ ?_ | refine grow_drew ?_))) HB2.out.size))

theorem tells_cases (q : Mb) (l : List Br) (rs : List Rn) (st r : Int) : (∃ E, dryE q l rs st r = ([], E) ∧ placesE q l rs st = ([], E) ∧ (E != 0) = true) ∨ (okMb q = true ∧ dryE q l rs st r = ([], 2) ∧ ∃ L, placesE q l rs st = (L, 0) ∨ placesE q l rs st = (L, 6)) ∨ (okMb q = true ∧ laidB l rs = true ∧ stepB st = true ∧ reachB r = true ∧ largeB q st = false) := by
  unfold placesE dryE
  by_cases h : okMb q = true ∧ laidB l rs = true
  · rw [if_pos h, if_pos h]
    cases hs : stepB st
    · left; exact ⟨2, by simp, by simp, rfl⟩
    · cases hr : reachB r
      · right; left
        refine ⟨h.1, by simp, ?_⟩
        cases hg : largeB q st
        · exact ⟨_, .inl (by simp; rfl)⟩
        · exact ⟨[], .inr (by simp)⟩
      · cases hg : largeB q st
        · right; right; exact ⟨h.1, h.2, rfl, rfl, rfl⟩
        · left; exact ⟨6, by simp, by simp, rfl⟩
  · left; rw [if_neg h, if_neg h]; exact ⟨1, rfl, rfl, rfl⟩
theorem lawPokerTells_c (q : Mb) (l : List Br) (v : Value) (rs : List Rn) (u : Value) (st r ni nj nk : Int) (_ : -9223372036854775808 ≤ st ∧ st ≤ 9223372036854775807) (_ : -9223372036854775808 ≤ r ∧ r ≤ 9223372036854775807) (hni : 0 ≤ ni ∧ ni ≤ 65535) (hnj : 0 ≤ nj ∧ nj ≤ 65535) (hnk : 0 ≤ nk ∧ nk ≤ 65535) (w : World) (hq : MbAt w q) (hl : Bars w v l) (hr : Runs w u rs) :
    Calls Tryz.prog 10 #[(.agg #[.string q.name, q.u, q.t, .int .i64 q.cover, .int .i64 q.agg, .int .i64 q.poker]), v, u, .int .i64 st, .int .i64 r, .int .u16 ni, .int .u16 nj, .int .u16 nk] w (Ret w (.bool true)) := by
  rcases tells_cases q l rs st r with ⟨E, hd, hp, he⟩ | ⟨hm, hd, L, hp | hp⟩ | ⟨hm, hv, hs, hrc, hlg⟩
  · cases hm : okMb q
    · exact lawPT_ef q l rs v u st r ni nj nk E he hm hd hp w hq hl hr
    · exact lawPT_et q l rs v u st r ni nj nk E he hm hd hp w hq hl hr
  · exact lawPT_g0 q l rs v u st r ni nj nk L hm hd hp w hq hl hr
  · exact lawPT_g6 q l rs v u st r ni nj nk L hm hd hp w hq hl hr
  · exact lawPT_ok q l rs v u st r ni nj nk hni hnj hnk hm hv hs hrc hlg w hq hl hr

end Go.Proofs.YtmoechhfjmemaaaGreat
