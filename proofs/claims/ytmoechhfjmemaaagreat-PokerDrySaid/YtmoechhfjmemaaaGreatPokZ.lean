/- PokerDry: the walk of the law. Printed by mkpokz.py. -/
import Derived.Test.YtmoechhfjmemaaaGreatPokX
import Derived.Test.YtmoechhfjmemaaaGreatPokK7
namespace Go.Proofs.YtmoechhfjmemaaaGreat
open Go.RowKit
set_option maxRecDepth 20000

theorem RetPtsE.openN {w : World} {L : List Pt} {err : Int} {N : Nat} (hN : L.length = N) {e : Ending} {W : World} (h : RetPtsE w L err e W) :
    ∃ a c, e = .returned (.tuple #[.slice a N c, .int .i64 err]) ∧ N ≤ c ∧ c ≤ 9223372036854775807 ∧ Pts W (.slice a N c) L ∧ ∃ x, W = ext w x := by
  subst hN
  exact h.open

set_option maxRecDepth 100000 in
set_option maxHeartbeats 8000000 in
theorem lawPD_a (q : Mb) (l : List Br) (rs : List Rn) (v u : Value) (st r : Int) (hm : okMb q = false) (w : World) (hq : MbAt w q) (hl : Bars w v l) (hr : Runs w u rs) :
    Calls Tryz.prog 8 #[(.agg #[.string q.name, q.u, q.t, .int .i64 q.cover, .int .i64 q.agg, .int .i64 q.poker]), v, u, .int .i64 st, .int .i64 r] w (Ret w (.bool true)) := by
  have HQ := Lib.hid hq
  have HL := Lib.hid hl
  have HR := Lib.hid hr
  have HM := Lib.hid (fun w hl hm' => refMember_v q.name q.l q.m q.u q.t q.cover q.agg q.poker false hm hq.name w hl hm')
  have hde : dryE q l rs st r = ([], 1) := by unfold dryE; rw [if_neg (fun h => by rw [hm] at h; cases h.1)]
  have HP := Lib.hid (fun w hq hl hr => pDry_c q l rs v u st r _ _ hde w hq hl hr)
  have HPA := Lib.hid (fun w hq hl hr => pPasses_c q l rs v u st r _ _ hde w hq hl hr)
  rw [show passB ([], 1) = false from rfl] at HPA
  have HG := Lib.hid (fun w hq hl hr => given22n_v q l rs v u hm w hq hl hr)
  clear hq hl hr hm hde
  go_enter Tryz.func8, Tryz.ntmps8
  go_wp2_with fail
  go_at_call 11; refine (awake22_c _).mono ?_; rintro e w' ⟨rfl, x0, rfl⟩
  go_wp2_with fail
  go_at_call 12; refine (few22_c q l rs v u _ (HQ.out.below (by (repeat (first | exact grow_refl _ | refine grow_ext _ ?_ | refine grow_alloc _ ?_ | refine grow_drew ?_)))) (HL.out.below (by (repeat (first | exact grow_refl _ | refine grow_ext _ ?_ | refine grow_alloc _ ?_ | refine grow_drew ?_)))) (HR.out.below (by (repeat (first | exact grow_refl _ | refine grow_ext _ ?_ | refine grow_alloc _ ?_ | refine grow_drew ?_))))).mono ?_; rintro e w' ⟨q0, rfl, x1, rfl⟩
  cases q0
  · go_wp2
    go_ret
    exact Ret.of (by (repeat (first | exact grow_refl _ | refine grow_ext _ ?_ | refine grow_alloc _ ?_ | refine grow_drew ?_)))
  go_wp2_with fail
  go_at_call 15; refine (HM.out _ (HQ.out.boxes.below (by (repeat (first | exact grow_refl _ | refine grow_ext _ ?_ | refine grow_alloc _ ?_ | refine grow_drew ?_)))) (HQ.out.holes.below (by (repeat (first | exact grow_refl _ | refine grow_ext _ ?_ | refine grow_alloc _ ?_ | refine grow_drew ?_))))).mono ?_; rintro e w' ⟨rfl, x2, rfl⟩
  go_wp2_with fail
  go_at_call 37; refine (HP.out _ (HQ.out.below (by (repeat (first | exact grow_refl _ | refine grow_ext _ ?_ | refine grow_alloc _ ?_ | refine grow_drew ?_)))) (HL.out.below (by (repeat (first | exact grow_refl _ | refine grow_ext _ ?_ | refine grow_alloc _ ?_ | refine grow_drew ?_)))) (HR.out.below (by (repeat (first | exact grow_refl _ | refine grow_ext _ ?_ | refine grow_alloc _ ?_ | refine grow_drew ?_))))).mono ?_; rintro e w' hret
  obtain ⟨ap, cp, rfl, kp, x4, rfl⟩ := hret.open0
  clear hret
  go_wp2_with fail
  go_at_call 38; refine (HPA.out _ (HQ.out.below (by (repeat (first | exact grow_refl _ | refine grow_ext _ ?_ | refine grow_alloc _ ?_ | refine grow_drew ?_)))) (HL.out.below (by (repeat (first | exact grow_refl _ | refine grow_ext _ ?_ | refine grow_alloc _ ?_ | refine grow_drew ?_)))) (HR.out.below (by (repeat (first | exact grow_refl _ | refine grow_ext _ ?_ | refine grow_alloc _ ?_ | refine grow_drew ?_))))).mono ?_; rintro e w' ⟨rfl, x10, rfl⟩
  go_wp2_with fail
  go_at_call 19; refine (HG.out _ (HQ.out.below (by (repeat (first | exact grow_refl _ | refine grow_ext _ ?_ | refine grow_alloc _ ?_ | refine grow_drew ?_)))) (HL.out.below (by (repeat (first | exact grow_refl _ | refine grow_ext _ ?_ | refine grow_alloc _ ?_ | refine grow_drew ?_)))) (HR.out.below (by (repeat (first | exact grow_refl _ | refine grow_ext _ ?_ | refine grow_alloc _ ?_ | refine grow_drew ?_))))).mono ?_; rintro e w' ⟨rfl, x5, rfl⟩
  go_wp2
  go_ret
  exact Ret.of (by (repeat (first | exact grow_refl _ | refine grow_ext _ ?_ | refine grow_alloc _ ?_ | refine grow_drew ?_)))

set_option maxRecDepth 100000 in
set_option maxHeartbeats 8000000 in
theorem lawPD_b (q : Mb) (l : List Br) (rs : List Rn) (v u : Value) (st r : Int) (hm : okMb q = true) (hv : laidB l rs = false) (w : World) (hq : MbAt w q) (hl : Bars w v l) (hr : Runs w u rs) :
    Calls Tryz.prog 8 #[(.agg #[.string q.name, q.u, q.t, .int .i64 q.cover, .int .i64 q.agg, .int .i64 q.poker]), v, u, .int .i64 st, .int .i64 r] w (Ret w (.bool true)) := by
  have HQ := Lib.hid hq
  have HL := Lib.hid hl
  have HR := Lib.hid hr
  have HM := Lib.hid (fun w hl hm' => refMember_v q.name q.l q.m q.u q.t q.cover q.agg q.poker true hm hq.name w hl hm')
  have HLG := Lib.hid (fun w hq => large22_c q st hm w hq)
  have hde : dryE q l rs st r = ([], 1) := by unfold dryE; rw [if_neg (fun h => by rw [hv] at h; cases h.2)]
  have HP := Lib.hid (fun w hq hl hr => pDry_c q l rs v u st r _ _ hde w hq hl hr)
  have HPA := Lib.hid (fun w hq hl hr => pPasses_c q l rs v u st r _ _ hde w hq hl hr)
  rw [show passB ([], 1) = false from rfl] at HPA
  have HG := Lib.hid (fun w hq hl hr => given22_v q l rs v u false hv hm w hq hl hr)
  simp only [Bool.false_eq_true, if_false] at HG
  clear hq hl hr hm hv hde
  go_enter Tryz.func8, Tryz.ntmps8
  go_wp2_with fail
  go_at_call 11; refine (awake22_c _).mono ?_; rintro e w' ⟨rfl, x0, rfl⟩
  go_wp2_with fail
  go_at_call 12; refine (few22_c q l rs v u _ (HQ.out.below (by (repeat (first | exact grow_refl _ | refine grow_ext _ ?_ | refine grow_alloc _ ?_ | refine grow_drew ?_)))) (HL.out.below (by (repeat (first | exact grow_refl _ | refine grow_ext _ ?_ | refine grow_alloc _ ?_ | refine grow_drew ?_)))) (HR.out.below (by (repeat (first | exact grow_refl _ | refine grow_ext _ ?_ | refine grow_alloc _ ?_ | refine grow_drew ?_))))).mono ?_; rintro e w' ⟨q0, rfl, x1, rfl⟩
  cases q0
  · go_wp2
    go_ret
    exact Ret.of (by (repeat (first | exact grow_refl _ | refine grow_ext _ ?_ | refine grow_alloc _ ?_ | refine grow_drew ?_)))
  go_wp2_with fail
  go_at_call 15; refine (HM.out _ (HQ.out.boxes.below (by (repeat (first | exact grow_refl _ | refine grow_ext _ ?_ | refine grow_alloc _ ?_ | refine grow_drew ?_)))) (HQ.out.holes.below (by (repeat (first | exact grow_refl _ | refine grow_ext _ ?_ | refine grow_alloc _ ?_ | refine grow_drew ?_))))).mono ?_; rintro e w' ⟨rfl, x2, rfl⟩
  go_wp2_with fail
  go_at_call 30; refine (HLG.out _ (HQ.out.below (by (repeat (first | exact grow_refl _ | refine grow_ext _ ?_ | refine grow_alloc _ ?_ | refine grow_drew ?_))))).mono ?_; rintro e w' ⟨b0, rfl, x3, rfl⟩
  cases b0
  case true =>
    go_wp2
    go_ret
    exact Ret.of (by (repeat (first | exact grow_refl _ | refine grow_ext _ ?_ | refine grow_alloc _ ?_ | refine grow_drew ?_)))
  go_wp2_with fail
  go_at_call 37; refine (HP.out _ (HQ.out.below (by (repeat (first | exact grow_refl _ | refine grow_ext _ ?_ | refine grow_alloc _ ?_ | refine grow_drew ?_)))) (HL.out.below (by (repeat (first | exact grow_refl _ | refine grow_ext _ ?_ | refine grow_alloc _ ?_ | refine grow_drew ?_)))) (HR.out.below (by (repeat (first | exact grow_refl _ | refine grow_ext _ ?_ | refine grow_alloc _ ?_ | refine grow_drew ?_))))).mono ?_; rintro e w' hret
  obtain ⟨ap, cp, rfl, kp, x4, rfl⟩ := hret.open0
  clear hret
  go_wp2_with fail
  go_at_call 38; refine (HPA.out _ (HQ.out.below (by (repeat (first | exact grow_refl _ | refine grow_ext _ ?_ | refine grow_alloc _ ?_ | refine grow_drew ?_)))) (HL.out.below (by (repeat (first | exact grow_refl _ | refine grow_ext _ ?_ | refine grow_alloc _ ?_ | refine grow_drew ?_)))) (HR.out.below (by (repeat (first | exact grow_refl _ | refine grow_ext _ ?_ | refine grow_alloc _ ?_ | refine grow_drew ?_))))).mono ?_; rintro e w' ⟨rfl, x10, rfl⟩
  go_wp2_with fail
  go_at_call 19; refine (HG.out _ (HQ.out.below (by (repeat (first | exact grow_refl _ | refine grow_ext _ ?_ | refine grow_alloc _ ?_ | refine grow_drew ?_)))) (HL.out.below (by (repeat (first | exact grow_refl _ | refine grow_ext _ ?_ | refine grow_alloc _ ?_ | refine grow_drew ?_)))) (HR.out.below (by (repeat (first | exact grow_refl _ | refine grow_ext _ ?_ | refine grow_alloc _ ?_ | refine grow_drew ?_))))).mono ?_; rintro e w' ⟨rfl, x5, rfl⟩
  go_wp2
  go_ret
  exact Ret.of (by (repeat (first | exact grow_refl _ | refine grow_ext _ ?_ | refine grow_alloc _ ?_ | refine grow_drew ?_)))

set_option maxRecDepth 100000 in
set_option maxHeartbeats 8000000 in
theorem lawPD_c (q : Mb) (l : List Br) (rs : List Rn) (v u : Value) (st r : Int) (hm : okMb q = true) (hv : laidB l rs = true) (hs : stepB st = false) (w : World) (hq : MbAt w q) (hl : Bars w v l) (hr : Runs w u rs) :
    Calls Tryz.prog 8 #[(.agg #[.string q.name, q.u, q.t, .int .i64 q.cover, .int .i64 q.agg, .int .i64 q.poker]), v, u, .int .i64 st, .int .i64 r] w (Ret w (.bool true)) := by
  have HQ := Lib.hid hq
  have HL := Lib.hid hl
  have HR := Lib.hid hr
  have HM := Lib.hid (fun w hl hm' => refMember_v q.name q.l q.m q.u q.t q.cover q.agg q.poker true hm hq.name w hl hm')
  have HLG := Lib.hid (fun w hq => large22_c q st hm w hq)
  have hde : dryE q l rs st r = ([], 2) := by unfold dryE; rw [if_pos ⟨hm, hv⟩, hs, Bool.false_and, if_neg (by decide)]
  have HP := Lib.hid (fun w hq hl hr => pDry_c q l rs v u st r _ _ hde w hq hl hr)
  have HPA := Lib.hid (fun w hq hl hr => pPasses_c q l rs v u st r _ _ hde w hq hl hr)
  rw [show passB ([], 2) = false from rfl] at HPA
  have HG := Lib.hid (fun w hq hl hr => given22_v q l rs v u true hv hm w hq hl hr)
  simp only [if_true] at HG
  have HST := Lib.hid (fun w => rStep_v st false hs w)
  clear hq hl hr hm hv hs hde
  go_enter Tryz.func8, Tryz.ntmps8
  go_wp2_with fail
  go_at_call 11; refine (awake22_c _).mono ?_; rintro e w' ⟨rfl, x0, rfl⟩
  go_wp2_with fail
  go_at_call 12; refine (few22_c q l rs v u _ (HQ.out.below (by (repeat (first | exact grow_refl _ | refine grow_ext _ ?_ | refine grow_alloc _ ?_ | refine grow_drew ?_)))) (HL.out.below (by (repeat (first | exact grow_refl _ | refine grow_ext _ ?_ | refine grow_alloc _ ?_ | refine grow_drew ?_)))) (HR.out.below (by (repeat (first | exact grow_refl _ | refine grow_ext _ ?_ | refine grow_alloc _ ?_ | refine grow_drew ?_))))).mono ?_; rintro e w' ⟨q0, rfl, x1, rfl⟩
  cases q0
  · go_wp2
    go_ret
    exact Ret.of (by (repeat (first | exact grow_refl _ | refine grow_ext _ ?_ | refine grow_alloc _ ?_ | refine grow_drew ?_)))
  go_wp2_with fail
  go_at_call 15; refine (HM.out _ (HQ.out.boxes.below (by (repeat (first | exact grow_refl _ | refine grow_ext _ ?_ | refine grow_alloc _ ?_ | refine grow_drew ?_)))) (HQ.out.holes.below (by (repeat (first | exact grow_refl _ | refine grow_ext _ ?_ | refine grow_alloc _ ?_ | refine grow_drew ?_))))).mono ?_; rintro e w' ⟨rfl, x2, rfl⟩
  go_wp2_with fail
  go_at_call 30; refine (HLG.out _ (HQ.out.below (by (repeat (first | exact grow_refl _ | refine grow_ext _ ?_ | refine grow_alloc _ ?_ | refine grow_drew ?_))))).mono ?_; rintro e w' ⟨b0, rfl, x3, rfl⟩
  cases b0
  case true =>
    go_wp2
    go_ret
    exact Ret.of (by (repeat (first | exact grow_refl _ | refine grow_ext _ ?_ | refine grow_alloc _ ?_ | refine grow_drew ?_)))
  go_wp2_with fail
  go_at_call 37; refine (HP.out _ (HQ.out.below (by (repeat (first | exact grow_refl _ | refine grow_ext _ ?_ | refine grow_alloc _ ?_ | refine grow_drew ?_)))) (HL.out.below (by (repeat (first | exact grow_refl _ | refine grow_ext _ ?_ | refine grow_alloc _ ?_ | refine grow_drew ?_)))) (HR.out.below (by (repeat (first | exact grow_refl _ | refine grow_ext _ ?_ | refine grow_alloc _ ?_ | refine grow_drew ?_))))).mono ?_; rintro e w' hret
  obtain ⟨ap, cp, rfl, kp, x4, rfl⟩ := hret.open0
  clear hret
  go_wp2_with fail
  go_at_call 38; refine (HPA.out _ (HQ.out.below (by (repeat (first | exact grow_refl _ | refine grow_ext _ ?_ | refine grow_alloc _ ?_ | refine grow_drew ?_)))) (HL.out.below (by (repeat (first | exact grow_refl _ | refine grow_ext _ ?_ | refine grow_alloc _ ?_ | refine grow_drew ?_)))) (HR.out.below (by (repeat (first | exact grow_refl _ | refine grow_ext _ ?_ | refine grow_alloc _ ?_ | refine grow_drew ?_))))).mono ?_; rintro e w' ⟨rfl, x10, rfl⟩
  go_wp2_with fail
  go_at_call 19; refine (HG.out _ (HQ.out.below (by (repeat (first | exact grow_refl _ | refine grow_ext _ ?_ | refine grow_alloc _ ?_ | refine grow_drew ?_)))) (HL.out.below (by (repeat (first | exact grow_refl _ | refine grow_ext _ ?_ | refine grow_alloc _ ?_ | refine grow_drew ?_)))) (HR.out.below (by (repeat (first | exact grow_refl _ | refine grow_ext _ ?_ | refine grow_alloc _ ?_ | refine grow_drew ?_))))).mono ?_; rintro e w' ⟨rfl, x5, rfl⟩
  go_wp2_with fail
  go_at_call 33; refine (HST.out _).mono ?_; rintro e w' ⟨rfl, x6, rfl⟩
  go_wp2
  go_ret
  exact Ret.of (by (repeat (first | exact grow_refl _ | refine grow_ext _ ?_ | refine grow_alloc _ ?_ | refine grow_drew ?_)))

set_option maxRecDepth 100000 in
set_option maxHeartbeats 8000000 in
theorem lawPD_c2 (q : Mb) (l : List Br) (rs : List Rn) (v u : Value) (st r : Int) (hm : okMb q = true) (hv : laidB l rs = true) (hs : stepB st = true) (hrc : reachB r = false) (w : World) (hq : MbAt w q) (hl : Bars w v l) (hr : Runs w u rs) :
    Calls Tryz.prog 8 #[(.agg #[.string q.name, q.u, q.t, .int .i64 q.cover, .int .i64 q.agg, .int .i64 q.poker]), v, u, .int .i64 st, .int .i64 r] w (Ret w (.bool true)) := by
  have HQ := Lib.hid hq
  have HL := Lib.hid hl
  have HR := Lib.hid hr
  have HM := Lib.hid (fun w hl hm' => refMember_v q.name q.l q.m q.u q.t q.cover q.agg q.poker true hm hq.name w hl hm')
  have HLG := Lib.hid (fun w hq => large22_c q st hm w hq)
  have hde : dryE q l rs st r = ([], 2) := by unfold dryE; rw [if_pos ⟨hm, hv⟩, hs, hrc, if_neg (by decide)]
  have HP := Lib.hid (fun w hq hl hr => pDry_c q l rs v u st r _ _ hde w hq hl hr)
  have HPA := Lib.hid (fun w hq hl hr => pPasses_c q l rs v u st r _ _ hde w hq hl hr)
  rw [show passB ([], 2) = false from rfl] at HPA
  have HG := Lib.hid (fun w hq hl hr => given22_v q l rs v u true hv hm w hq hl hr)
  simp only [if_true] at HG
  have HST := Lib.hid (fun w => rStep_v st true hs w)
  have HRC := Lib.hid (fun w => rReach_v r false hrc w)
  clear hq hl hr hm hv hs hrc hde
  go_enter Tryz.func8, Tryz.ntmps8
  go_wp2_with fail
  go_at_call 11; refine (awake22_c _).mono ?_; rintro e w' ⟨rfl, x0, rfl⟩
  go_wp2_with fail
  go_at_call 12; refine (few22_c q l rs v u _ (HQ.out.below (by (repeat (first | exact grow_refl _ | refine grow_ext _ ?_ | refine grow_alloc _ ?_ | refine grow_drew ?_)))) (HL.out.below (by (repeat (first | exact grow_refl _ | refine grow_ext _ ?_ | refine grow_alloc _ ?_ | refine grow_drew ?_)))) (HR.out.below (by (repeat (first | exact grow_refl _ | refine grow_ext _ ?_ | refine grow_alloc _ ?_ | refine grow_drew ?_))))).mono ?_; rintro e w' ⟨q0, rfl, x1, rfl⟩
  cases q0
  · go_wp2
    go_ret
    exact Ret.of (by (repeat (first | exact grow_refl _ | refine grow_ext _ ?_ | refine grow_alloc _ ?_ | refine grow_drew ?_)))
  go_wp2_with fail
  go_at_call 15; refine (HM.out _ (HQ.out.boxes.below (by (repeat (first | exact grow_refl _ | refine grow_ext _ ?_ | refine grow_alloc _ ?_ | refine grow_drew ?_)))) (HQ.out.holes.below (by (repeat (first | exact grow_refl _ | refine grow_ext _ ?_ | refine grow_alloc _ ?_ | refine grow_drew ?_))))).mono ?_; rintro e w' ⟨rfl, x2, rfl⟩
  go_wp2_with fail
  go_at_call 30; refine (HLG.out _ (HQ.out.below (by (repeat (first | exact grow_refl _ | refine grow_ext _ ?_ | refine grow_alloc _ ?_ | refine grow_drew ?_))))).mono ?_; rintro e w' ⟨b0, rfl, x3, rfl⟩
  cases b0
  case true =>
    go_wp2
    go_ret
    exact Ret.of (by (repeat (first | exact grow_refl _ | refine grow_ext _ ?_ | refine grow_alloc _ ?_ | refine grow_drew ?_)))
  go_wp2_with fail
  go_at_call 37; refine (HP.out _ (HQ.out.below (by (repeat (first | exact grow_refl _ | refine grow_ext _ ?_ | refine grow_alloc _ ?_ | refine grow_drew ?_)))) (HL.out.below (by (repeat (first | exact grow_refl _ | refine grow_ext _ ?_ | refine grow_alloc _ ?_ | refine grow_drew ?_)))) (HR.out.below (by (repeat (first | exact grow_refl _ | refine grow_ext _ ?_ | refine grow_alloc _ ?_ | refine grow_drew ?_))))).mono ?_; rintro e w' hret
  obtain ⟨ap, cp, rfl, kp, x4, rfl⟩ := hret.open0
  clear hret
  go_wp2_with fail
  go_at_call 38; refine (HPA.out _ (HQ.out.below (by (repeat (first | exact grow_refl _ | refine grow_ext _ ?_ | refine grow_alloc _ ?_ | refine grow_drew ?_)))) (HL.out.below (by (repeat (first | exact grow_refl _ | refine grow_ext _ ?_ | refine grow_alloc _ ?_ | refine grow_drew ?_)))) (HR.out.below (by (repeat (first | exact grow_refl _ | refine grow_ext _ ?_ | refine grow_alloc _ ?_ | refine grow_drew ?_))))).mono ?_; rintro e w' ⟨rfl, x10, rfl⟩
  go_wp2_with fail
  go_at_call 19; refine (HG.out _ (HQ.out.below (by (repeat (first | exact grow_refl _ | refine grow_ext _ ?_ | refine grow_alloc _ ?_ | refine grow_drew ?_)))) (HL.out.below (by (repeat (first | exact grow_refl _ | refine grow_ext _ ?_ | refine grow_alloc _ ?_ | refine grow_drew ?_)))) (HR.out.below (by (repeat (first | exact grow_refl _ | refine grow_ext _ ?_ | refine grow_alloc _ ?_ | refine grow_drew ?_))))).mono ?_; rintro e w' ⟨rfl, x5, rfl⟩
  go_wp2_with fail
  go_at_call 33; refine (HST.out _).mono ?_; rintro e w' ⟨rfl, x6, rfl⟩
  go_wp2_with fail
  go_at_call 24; refine (HRC.out _).mono ?_; rintro e w' ⟨rfl, x11, rfl⟩
  go_wp2
  go_ret
  exact Ret.of (by (repeat (first | exact grow_refl _ | refine grow_ext _ ?_ | refine grow_alloc _ ?_ | refine grow_drew ?_)))

set_option maxRecDepth 100000 in
set_option maxHeartbeats 8000000 in
theorem lawPD_d (q : Mb) (l : List Br) (rs : List Rn) (v u : Value) (st r : Int) (hm : okMb q = true) (hv : laidB l rs = true) (hs : stepB st = true) (hrc : reachB r = true) (hlg : largeB q st = true) (w : World) (hq : MbAt w q) (hl : Bars w v l) (hr : Runs w u rs) :
    Calls Tryz.prog 8 #[(.agg #[.string q.name, q.u, q.t, .int .i64 q.cover, .int .i64 q.agg, .int .i64 q.poker]), v, u, .int .i64 st, .int .i64 r] w (Ret w (.bool true)) := by
  have HQ := Lib.hid hq
  have HL := Lib.hid hl
  have HR := Lib.hid hr
  have HM := Lib.hid (fun w hl hm' => refMember_v q.name q.l q.m q.u q.t q.cover q.agg q.poker true hm hq.name w hl hm')
  have HLG := Lib.hid (fun w hq => large22_c q st hm w hq)
  have hde : dryE q l rs st r = ([], 6) := by unfold dryE; rw [if_pos ⟨hm, hv⟩, hs, hrc, if_pos (by decide), hlg, if_pos rfl]
  have HP := Lib.hid (fun w hq hl hr => pDry_c q l rs v u st r _ _ hde w hq hl hr)
  have HPA := Lib.hid (fun w hq hl hr => pPasses_c q l rs v u st r _ _ hde w hq hl hr)
  rw [show passB ([], 6) = false from rfl] at HPA
  have HG := Lib.hid (fun w hq hl hr => given22_v q l rs v u true hv hm w hq hl hr)
  simp only [if_true] at HG
  obtain ⟨h1, h2⟩ := stepB_iff.1 hs
  have HST := Lib.hid (fun w => rStep_v st true hs w)
  have HLA := Lib.hid (fun w hq => rLarge_v q st _ rfl (okMb_facts hm).1 h1 w hq)
  rw [hlg] at HLA
  have HRC := Lib.hid (fun w => rReach_v r true hrc w)
  obtain ⟨r1, r2⟩ := reachB_iff.1 hrc
  clear hq hl hr hm hv hs hlg h1 h2 hrc r1 r2 hde
  go_enter Tryz.func8, Tryz.ntmps8
  go_wp2_with fail
  go_at_call 11; refine (awake22_c _).mono ?_; rintro e w' ⟨rfl, x0, rfl⟩
  go_wp2_with fail
  go_at_call 12; refine (few22_c q l rs v u _ (HQ.out.below (by (repeat (first | exact grow_refl _ | refine grow_ext _ ?_ | refine grow_alloc _ ?_ | refine grow_drew ?_)))) (HL.out.below (by (repeat (first | exact grow_refl _ | refine grow_ext _ ?_ | refine grow_alloc _ ?_ | refine grow_drew ?_)))) (HR.out.below (by (repeat (first | exact grow_refl _ | refine grow_ext _ ?_ | refine grow_alloc _ ?_ | refine grow_drew ?_))))).mono ?_; rintro e w' ⟨q0, rfl, x1, rfl⟩
  cases q0
  · go_wp2
    go_ret
    exact Ret.of (by (repeat (first | exact grow_refl _ | refine grow_ext _ ?_ | refine grow_alloc _ ?_ | refine grow_drew ?_)))
  go_wp2_with fail
  go_at_call 15; refine (HM.out _ (HQ.out.boxes.below (by (repeat (first | exact grow_refl _ | refine grow_ext _ ?_ | refine grow_alloc _ ?_ | refine grow_drew ?_)))) (HQ.out.holes.below (by (repeat (first | exact grow_refl _ | refine grow_ext _ ?_ | refine grow_alloc _ ?_ | refine grow_drew ?_))))).mono ?_; rintro e w' ⟨rfl, x2, rfl⟩
  go_wp2_with fail
  go_at_call 30; refine (HLG.out _ (HQ.out.below (by (repeat (first | exact grow_refl _ | refine grow_ext _ ?_ | refine grow_alloc _ ?_ | refine grow_drew ?_))))).mono ?_; rintro e w' ⟨b0, rfl, x3, rfl⟩
  cases b0
  case true =>
    go_wp2
    go_ret
    exact Ret.of (by (repeat (first | exact grow_refl _ | refine grow_ext _ ?_ | refine grow_alloc _ ?_ | refine grow_drew ?_)))
  go_wp2_with fail
  go_at_call 37; refine (HP.out _ (HQ.out.below (by (repeat (first | exact grow_refl _ | refine grow_ext _ ?_ | refine grow_alloc _ ?_ | refine grow_drew ?_)))) (HL.out.below (by (repeat (first | exact grow_refl _ | refine grow_ext _ ?_ | refine grow_alloc _ ?_ | refine grow_drew ?_)))) (HR.out.below (by (repeat (first | exact grow_refl _ | refine grow_ext _ ?_ | refine grow_alloc _ ?_ | refine grow_drew ?_))))).mono ?_; rintro e w' hret
  obtain ⟨ap, cp, rfl, kp, x4, rfl⟩ := hret.open0
  clear hret
  go_wp2_with fail
  go_at_call 38; refine (HPA.out _ (HQ.out.below (by (repeat (first | exact grow_refl _ | refine grow_ext _ ?_ | refine grow_alloc _ ?_ | refine grow_drew ?_)))) (HL.out.below (by (repeat (first | exact grow_refl _ | refine grow_ext _ ?_ | refine grow_alloc _ ?_ | refine grow_drew ?_)))) (HR.out.below (by (repeat (first | exact grow_refl _ | refine grow_ext _ ?_ | refine grow_alloc _ ?_ | refine grow_drew ?_))))).mono ?_; rintro e w' ⟨rfl, x10, rfl⟩
  go_wp2_with fail
  go_at_call 19; refine (HG.out _ (HQ.out.below (by (repeat (first | exact grow_refl _ | refine grow_ext _ ?_ | refine grow_alloc _ ?_ | refine grow_drew ?_)))) (HL.out.below (by (repeat (first | exact grow_refl _ | refine grow_ext _ ?_ | refine grow_alloc _ ?_ | refine grow_drew ?_)))) (HR.out.below (by (repeat (first | exact grow_refl _ | refine grow_ext _ ?_ | refine grow_alloc _ ?_ | refine grow_drew ?_))))).mono ?_; rintro e w' ⟨rfl, x5, rfl⟩
  go_wp2_with fail
  go_at_call 33; refine (HST.out _).mono ?_; rintro e w' ⟨rfl, x6, rfl⟩
  go_wp2_with fail
  go_at_call 24; refine (HRC.out _).mono ?_; rintro e w' ⟨rfl, x11, rfl⟩
  go_wp2_with fail
  go_at_call 34; refine (HLA.out _ (HQ.out.below (by (repeat (first | exact grow_refl _ | refine grow_ext _ ?_ | refine grow_alloc _ ?_ | refine grow_drew ?_))))).mono ?_; rintro e w' ⟨rfl, x7, rfl⟩
  go_wp2
  go_ret
  exact Ret.of (by (repeat (first | exact grow_refl _ | refine grow_ext _ ?_ | refine grow_alloc _ ?_ | refine grow_drew ?_)))

set_option maxRecDepth 100000 in
set_option maxHeartbeats 8000000 in
theorem lawPD_e (q : Mb) (l : List Br) (rs : List Rn) (v u : Value) (st r : Int) (L : List Pt) (N : Nat) (B : Bool) (hL : gridD q (rodsI l rs) st r = L) (hN : L.length = N) (hB : L.isEmpty = B) (hm : okMb q = true) (hv : laidB l rs = true) (hs : stepB st = true) (hrc : reachB r = true) (hlg : largeB q st = false) (w : World) (hq : MbAt w q) (hl : Bars w v l) (hr : Runs w u rs) :
    Calls Tryz.prog 8 #[(.agg #[.string q.name, q.u, q.t, .int .i64 q.cover, .int .i64 q.agg, .int .i64 q.poker]), v, u, .int .i64 st, .int .i64 r] w (Ret w (.bool true)) := by
  have HQ := Lib.hid hq
  have HL := Lib.hid hl
  have HR := Lib.hid hr
  have HM := Lib.hid (fun w hl hm' => refMember_v q.name q.l q.m q.u q.t q.cover q.agg q.poker true hm hq.name w hl hm')
  have HLG := Lib.hid (fun w hq => large22_c q st hm w hq)
  have hde : dryE q l rs st r = (L, 0) := by unfold dryE; rw [if_pos ⟨hm, hv⟩, hs, hrc, if_pos (by decide), hlg, if_neg (by decide), hL]
  have HP := Lib.hid (fun w hq hl hr => pDry_c q l rs v u st r _ _ hde w hq hl hr)
  have HPA := Lib.hid (fun w hq hl hr => pPasses_c q l rs v u st r _ _ hde w hq hl hr)
  rw [show passB (L, 0) = B by rw [← hB]; rfl] at HPA
  have HG := Lib.hid (fun w hq hl hr => given22_v q l rs v u true hv hm w hq hl hr)
  simp only [if_true] at HG
  obtain ⟨h1, h2⟩ := stepB_iff.1 hs
  have HST := Lib.hid (fun w => rStep_v st true hs w)
  have HLA := Lib.hid (fun w hq => rLarge_v q st _ rfl (okMb_facts hm).1 h1 w hq)
  rw [hlg] at HLA
  have HRC := Lib.hid (fun w => rReach_v r true hrc w)
  obtain ⟨r1, r2⟩ := reachB_iff.1 hrc
  have HRP := Lib.hid (fun w hq hl hr => rDry_c q l rs v u st r h1 h2 r1 r2 hm hv hlg w hq hl hr)
  rw [hL] at HRP
  have HNL := Lib.hid hN
  have d0 : ((N : Int) == 0) = B := by subst hB hN; cases L <;> simp <;> omega
  clear hq hl hr hm hv hs hlg h1 h2 hrc r1 r2 hde hL hN hB
  cases B
  all_goals
    go_enter Tryz.func8, Tryz.ntmps8
    go_wp2_with fail
    go_at_call 11; refine (awake22_c _).mono ?_; rintro e w' ⟨rfl, x0, rfl⟩
    go_wp2_with fail
    go_at_call 12; refine (few22_c q l rs v u _ (HQ.out.below (by (repeat (first | exact grow_refl _ | refine grow_ext _ ?_ | refine grow_alloc _ ?_ | refine grow_drew ?_)))) (HL.out.below (by (repeat (first | exact grow_refl _ | refine grow_ext _ ?_ | refine grow_alloc _ ?_ | refine grow_drew ?_)))) (HR.out.below (by (repeat (first | exact grow_refl _ | refine grow_ext _ ?_ | refine grow_alloc _ ?_ | refine grow_drew ?_))))).mono ?_; rintro e w' ⟨q0, rfl, x1, rfl⟩
    cases q0
    · go_wp2
      go_ret
      exact Ret.of (by (repeat (first | exact grow_refl _ | refine grow_ext _ ?_ | refine grow_alloc _ ?_ | refine grow_drew ?_)))
    go_wp2_with fail
    go_at_call 15; refine (HM.out _ (HQ.out.boxes.below (by (repeat (first | exact grow_refl _ | refine grow_ext _ ?_ | refine grow_alloc _ ?_ | refine grow_drew ?_)))) (HQ.out.holes.below (by (repeat (first | exact grow_refl _ | refine grow_ext _ ?_ | refine grow_alloc _ ?_ | refine grow_drew ?_))))).mono ?_; rintro e w' ⟨rfl, x2, rfl⟩
    go_wp2_with fail
    go_at_call 30; refine (HLG.out _ (HQ.out.below (by (repeat (first | exact grow_refl _ | refine grow_ext _ ?_ | refine grow_alloc _ ?_ | refine grow_drew ?_))))).mono ?_; rintro e w' ⟨b0, rfl, x3, rfl⟩
    cases b0
    case true =>
      go_wp2
      go_ret
      exact Ret.of (by (repeat (first | exact grow_refl _ | refine grow_ext _ ?_ | refine grow_alloc _ ?_ | refine grow_drew ?_)))
    go_wp2_with fail
    go_at_call 37; refine (HP.out _ (HQ.out.below (by (repeat (first | exact grow_refl _ | refine grow_ext _ ?_ | refine grow_alloc _ ?_ | refine grow_drew ?_)))) (HL.out.below (by (repeat (first | exact grow_refl _ | refine grow_ext _ ?_ | refine grow_alloc _ ?_ | refine grow_drew ?_)))) (HR.out.below (by (repeat (first | exact grow_refl _ | refine grow_ext _ ?_ | refine grow_alloc _ ?_ | refine grow_drew ?_))))).mono ?_; rintro e w' hret
    obtain ⟨ap, cp, rfl, k1, k2, hpts, x4, rfl⟩ := hret.openN HNL.out
    have HPT := Lib.hid hpts
    clear hret hpts
    go_wp2_with fail
    go_at_call 38; refine (HPA.out _ (HQ.out.below (by (repeat (first | exact grow_refl _ | refine grow_ext _ ?_ | refine grow_alloc _ ?_ | refine grow_drew ?_)))) (HL.out.below (by (repeat (first | exact grow_refl _ | refine grow_ext _ ?_ | refine grow_alloc _ ?_ | refine grow_drew ?_)))) (HR.out.below (by (repeat (first | exact grow_refl _ | refine grow_ext _ ?_ | refine grow_alloc _ ?_ | refine grow_drew ?_))))).mono ?_; rintro e w' ⟨rfl, x10, rfl⟩
    go_wp2_with fail
    go_at_call 19; refine (HG.out _ (HQ.out.below (by (repeat (first | exact grow_refl _ | refine grow_ext _ ?_ | refine grow_alloc _ ?_ | refine grow_drew ?_)))) (HL.out.below (by (repeat (first | exact grow_refl _ | refine grow_ext _ ?_ | refine grow_alloc _ ?_ | refine grow_drew ?_)))) (HR.out.below (by (repeat (first | exact grow_refl _ | refine grow_ext _ ?_ | refine grow_alloc _ ?_ | refine grow_drew ?_))))).mono ?_; rintro e w' ⟨rfl, x5, rfl⟩
    go_wp2_with fail
    go_at_call 33; refine (HST.out _).mono ?_; rintro e w' ⟨rfl, x6, rfl⟩
    go_wp2_with fail
    go_at_call 24; refine (HRC.out _).mono ?_; rintro e w' ⟨rfl, x11, rfl⟩
    go_wp2_with fail
    go_at_call 34; refine (HLA.out _ (HQ.out.below (by (repeat (first | exact grow_refl _ | refine grow_ext _ ?_ | refine grow_alloc _ ?_ | refine grow_drew ?_))))).mono ?_; rintro e w' ⟨rfl, x7, rfl⟩
    go_wp2_with fail
    go_at_call 39; refine (HRP.out _ (HQ.out.below (by (repeat (first | exact grow_refl _ | refine grow_ext _ ?_ | refine grow_alloc _ ?_ | refine grow_drew ?_)))) (HL.out.below (by (repeat (first | exact grow_refl _ | refine grow_ext _ ?_ | refine grow_alloc _ ?_ | refine grow_drew ?_)))) (HR.out.below (by (repeat (first | exact grow_refl _ | refine grow_ext _ ?_ | refine grow_alloc _ ?_ | refine grow_drew ?_))))).mono ?_; rintro e w' ⟨vr, rfl, hownr, x8, rfl⟩
    have HPR := Lib.hid (Pts.of_own hownr)
    obtain ⟨ar, cr, rfl, kr, mr, -⟩ := own_shape hownr
    have nr : cr ≤ 9223372036854775807 := mr
    clear hownr mr
    go_wp2_with fail
    go_at_call 35; refine (equalPts_c L _ _ _ (HPT.out.below (by (repeat (first | exact grow_refl _ | refine grow_ext _ ?_ | refine grow_alloc _ ?_ | refine grow_drew ?_)))) (HPR.out.below (by (repeat (first | exact grow_refl _ | refine grow_ext _ ?_ | refine grow_alloc _ ?_ | refine grow_drew ?_))))).mono ?_; rintro e w' ⟨rfl, x9, rfl⟩
    go_wp2
    go_ret
    exact Ret.of (by (repeat (first | exact grow_refl _ | refine grow_ext _ ?_ | refine grow_alloc _ ?_ | refine grow_drew ?_)))

theorem lawPokerDry_c (q : Mb) (l : List Br) (v : Value) (rs : List Rn) (u : Value) (st r : Int) (_ : -9223372036854775808 ≤ st ∧ st ≤ 9223372036854775807) (_ : -9223372036854775808 ≤ r ∧ r ≤ 9223372036854775807) (w : World) (hq : MbAt w q) (hl : Bars w v l) (hr : Runs w u rs) :
    Calls Tryz.prog 8 #[(.agg #[.string q.name, q.u, q.t, .int .i64 q.cover, .int .i64 q.agg, .int .i64 q.poker]), v, u, .int .i64 st, .int .i64 r] w (Ret w (.bool true)) := by
  cases hm : okMb q
  · exact lawPD_a q l rs v u st r hm w hq hl hr
  cases hv : laidB l rs
  · exact lawPD_b q l rs v u st r hm hv w hq hl hr
  cases hs : stepB st
  · exact lawPD_c q l rs v u st r hm hv hs w hq hl hr
  cases hrc : reachB r
  · exact lawPD_c2 q l rs v u st r hm hv hs hrc w hq hl hr
  cases hlg : largeB q st
  · exact lawPD_e q l rs v u st r _ _ _ rfl rfl rfl hm hv hs hrc hlg w hq hl hr
  · exact lawPD_d q l rs v u st r hm hv hs hrc hlg w hq hl hr

end Go.Proofs.YtmoechhfjmemaaaGreat
