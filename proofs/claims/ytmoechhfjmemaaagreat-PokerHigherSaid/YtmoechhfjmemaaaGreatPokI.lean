/- PokerFree: the walk of the law. Printed by mkpoki.py. -/
import Derived.Test.YtmoechhfjmemaaaGreatPokH
namespace Go.Proofs.YtmoechhfjmemaaaGreat
open Go.RowKit
set_option maxRecDepth 20000

set_option maxHeartbeats 2000000 in
theorem few22_c (q : Mb) (l : List Br) (rs : List Rn) (v u : Value) (w : World) (hq : MbAt w q) (hl : Bars w v l) (hr : Runs w u rs) :
    Calls Tryz.prog 12 #[(.agg #[.string q.name, q.u, q.t, .int .i64 q.cover, .int .i64 q.agg, .int .i64 q.poker]), v, u] w (RetB w) := by
  have HQ := Lib.hid hq
  have HL := Lib.hid hl
  have HR := Lib.hid hr
  have hN := hq.name
  have HS := Lib.hid (fun r h w hl hm => refSmall_v q.l q.m q.u q.t 5 r h w hl hm)
  have H16 := Lib.hid (fun w hl hr => refSmall16_c l rs v u 6 14 (by omega) (by omega) w hl hr)
  clear hq hl hr
  by_cases h1 : q.name.size ≤ 60
  · have d1 : decide ((q.name.size : Int) ≤ 60) = true := by simp; omega
    cases h : smallB q.l.length q.m.length 5
    · have H := Lib.hid h
      clear h
      go_enter Tryz.func12, Tryz.ntmps12
      go_wp2_with fail
      go_at_call 47; refine (HS.out _ H.out _ (HQ.out.boxes.below (by (repeat (first | exact grow_refl _ | refine grow_ext _ ?_ | refine grow_alloc _ ?_ | refine grow_drew ?_)))) (HQ.out.holes.below (by (repeat (first | exact grow_refl _ | refine grow_ext _ ?_ | refine grow_alloc _ ?_ | refine grow_drew ?_))))).mono ?_; rintro e w' ⟨rfl, x1, rfl⟩
      go_wp2
      go_ret
      exact ⟨_, rfl, ext_of (by (repeat (first | exact grow_refl _ | refine grow_ext _ ?_ | refine grow_alloc _ ?_ | refine grow_drew ?_)))⟩
    · have H := Lib.hid h
      clear h
      go_enter Tryz.func12, Tryz.ntmps12
      go_wp2_with fail
      go_at_call 47; refine (HS.out _ H.out _ (HQ.out.boxes.below (by (repeat (first | exact grow_refl _ | refine grow_ext _ ?_ | refine grow_alloc _ ?_ | refine grow_drew ?_)))) (HQ.out.holes.below (by (repeat (first | exact grow_refl _ | refine grow_ext _ ?_ | refine grow_alloc _ ?_ | refine grow_drew ?_))))).mono ?_; rintro e w' ⟨rfl, x1, rfl⟩
      go_wp2_with fail
      go_at_call 48; refine (H16.out _ (HL.out.below (by (repeat (first | exact grow_refl _ | refine grow_ext _ ?_ | refine grow_alloc _ ?_ | refine grow_drew ?_)))) (HR.out.below (by (repeat (first | exact grow_refl _ | refine grow_ext _ ?_ | refine grow_alloc _ ?_ | refine grow_drew ?_))))).mono ?_; rintro e w' ⟨q0, rfl, x2, rfl⟩
      go_wp2
      go_ret
      exact ⟨_, rfl, ext_of (by (repeat (first | exact grow_refl _ | refine grow_ext _ ?_ | refine grow_alloc _ ?_ | refine grow_drew ?_)))⟩
  · have d1 : decide ((q.name.size : Int) ≤ 60) = false := by simp; omega
    go_enter Tryz.func12, Tryz.ntmps12
    go_wp2
    go_ret
    exact ⟨_, rfl, ext_of (by (repeat (first | exact grow_refl _ | refine grow_ext _ ?_ | refine grow_alloc _ ?_ | refine grow_drew ?_)))⟩

set_option maxHeartbeats 2000000 in
theorem given22_v (q : Mb) (l : List Br) (rs : List Rn) (v u : Value) (r : Bool) (hv : laidB l rs = r) (hm : okMb q = true) (w : World) (hq : MbAt w q) (hl : Bars w v l) (hr : Runs w u rs) :
    Calls Tryz.prog 19 #[(.agg #[.string q.name, q.u, q.t, .int .i64 q.cover, .int .i64 q.agg, .int .i64 q.poker]), v, u] w (Ret w (.int .i64 (if r then 0 else 1))) := by
  have HQ := Lib.hid hq
  have HL := Lib.hid hl
  have HR := Lib.hid hr
  have HM := Lib.hid (fun w hl hm' => refMember_v q.name q.l q.m q.u q.t q.cover q.agg q.poker true hm hq.name w hl hm')
  have HV := Lib.hid hv
  clear hq hl hr hm hv
  cases r
  all_goals
    simp only [Bool.false_eq_true, if_false, if_true]
    go_enter Tryz.func19, Tryz.ntmps19
    go_wp2_with fail
    go_at_call 15; refine (HM.out _ (HQ.out.boxes.below (by (repeat (first | exact grow_refl _ | refine grow_ext _ ?_ | refine grow_alloc _ ?_ | refine grow_drew ?_)))) (HQ.out.holes.below (by (repeat (first | exact grow_refl _ | refine grow_ext _ ?_ | refine grow_alloc _ ?_ | refine grow_drew ?_))))).mono ?_; rintro e w' ⟨rfl, x1, rfl⟩
    go_wp2_with fail
    go_at_call 59; refine (refLaid_v l rs v u _ HV.out _ (HL.out.below (by (repeat (first | exact grow_refl _ | refine grow_ext _ ?_ | refine grow_alloc _ ?_ | refine grow_drew ?_)))) (HR.out.below (by (repeat (first | exact grow_refl _ | refine grow_ext _ ?_ | refine grow_alloc _ ?_ | refine grow_drew ?_))))).mono ?_; rintro e w' ⟨rfl, x2, rfl⟩
    go_wp2
    go_ret
    exact Ret.of (by (repeat (first | exact grow_refl _ | refine grow_ext _ ?_ | refine grow_alloc _ ?_ | refine grow_drew ?_)))

set_option maxRecDepth 100000 in
set_option maxHeartbeats 8000000 in
theorem lawPF_a (q : Mb) (l : List Br) (rs : List Rn) (v u : Value) (p : Pt) (hm : okMb q = false) (w : World) (hq : MbAt w q) (hl : Bars w v l) (hr : Runs w u rs) :
    Calls Tryz.prog 3 #[(.agg #[.string q.name, q.u, q.t, .int .i64 q.cover, .int .i64 q.agg, .int .i64 q.poker]), v, u, (.agg #[.int .i64 p.x, .int .i64 p.y, .int .i64 p.z])] w (Ret w (.bool true)) := by
  have HQ := Lib.hid hq
  have HL := Lib.hid hl
  have HR := Lib.hid hr
  have HM := Lib.hid (fun w hl hm' => refMember_v q.name q.l q.m q.u q.t q.cover q.agg q.poker false hm hq.name w hl hm')
  have HC := Lib.hid (fun w hq => pColumn_v q p zeroX 1 (by unfold columnE; rw [if_neg (by rw [hm]; decide)]) w hq)
  have HF := Lib.hid (fun w hq hl hr => pFree_v q l rs p v u false 1 (by unfold freeE; rw [if_neg (fun h => by rw [hm] at h; cases h.1)]) w hq hl hr)
  simp only [zeroX] at HC
  clear hq hl hr hm
  go_enter Tryz.func3, Tryz.ntmps3
  go_wp2_with fail
  go_at_call 11; refine (awake22_c _).mono ?_; rintro e w' ⟨rfl, x0, rfl⟩
  go_wp2_with fail
  go_at_call 12; refine (few22_c q l rs v u _ (HQ.out.below (by (repeat (first | exact grow_refl _ | refine grow_ext _ ?_ | refine grow_alloc _ ?_ | refine grow_drew ?_)))) (HL.out.below (by (repeat (first | exact grow_refl _ | refine grow_ext _ ?_ | refine grow_alloc _ ?_ | refine grow_drew ?_)))) (HR.out.below (by (repeat (first | exact grow_refl _ | refine grow_ext _ ?_ | refine grow_alloc _ ?_ | refine grow_drew ?_))))).mono ?_; rintro e w' ⟨q0, rfl, x1, rfl⟩
  cases q0
  · go_wp2
    go_ret
    exact Ret.of (by (repeat (first | exact grow_refl _ | refine grow_ext _ ?_ | refine grow_alloc _ ?_ | refine grow_drew ?_)))
  go_wp2_with fail
  go_at_call 13; refine (HC.out _ (HQ.out.below (by (repeat (first | exact grow_refl _ | refine grow_ext _ ?_ | refine grow_alloc _ ?_ | refine grow_drew ?_))))).mono ?_; rintro e w' ⟨rfl, x2, rfl⟩
  go_wp2_with fail
  go_at_call 14; refine (HF.out _ (HQ.out.below (by (repeat (first | exact grow_refl _ | refine grow_ext _ ?_ | refine grow_alloc _ ?_ | refine grow_drew ?_)))) (HL.out.below (by (repeat (first | exact grow_refl _ | refine grow_ext _ ?_ | refine grow_alloc _ ?_ | refine grow_drew ?_)))) (HR.out.below (by (repeat (first | exact grow_refl _ | refine grow_ext _ ?_ | refine grow_alloc _ ?_ | refine grow_drew ?_))))).mono ?_; rintro e w' ⟨rfl, x3, rfl⟩
  go_wp2_with fail
  go_at_call 15; refine (HM.out _ (HQ.out.boxes.below (by (repeat (first | exact grow_refl _ | refine grow_ext _ ?_ | refine grow_alloc _ ?_ | refine grow_drew ?_)))) (HQ.out.holes.below (by (repeat (first | exact grow_refl _ | refine grow_ext _ ?_ | refine grow_alloc _ ?_ | refine grow_drew ?_))))).mono ?_; rintro e w' ⟨rfl, x4, rfl⟩
  go_wp2
  go_ret
  exact Ret.of (by (repeat (first | exact grow_refl _ | refine grow_ext _ ?_ | refine grow_alloc _ ?_ | refine grow_drew ?_)))

set_option maxRecDepth 100000 in
set_option maxHeartbeats 8000000 in
theorem lawPF_b (q : Mb) (l : List Br) (rs : List Rn) (v u : Value) (p : Pt) (hm : okMb q = true) (hn : nearB p 1048576 = false) (hv : laidB l rs = false) (w : World) (hq : MbAt w q) (hl : Bars w v l) (hr : Runs w u rs) :
    Calls Tryz.prog 3 #[(.agg #[.string q.name, q.u, q.t, .int .i64 q.cover, .int .i64 q.agg, .int .i64 q.poker]), v, u, (.agg #[.int .i64 p.x, .int .i64 p.y, .int .i64 p.z])] w (Ret w (.bool true)) := by
  have HQ := Lib.hid hq
  have HL := Lib.hid hl
  have HR := Lib.hid hr
  have HM := Lib.hid (fun w hl hm' => refMember_v q.name q.l q.m q.u q.t q.cover q.agg q.poker true hm hq.name w hl hm')
  have ht : tipB q p = false := by unfold tipB; rw [hn]; rfl
  have HC := Lib.hid (fun w hq => pColumn_v q p zeroX 2 (by unfold columnE; rw [if_pos hm, if_neg (by rw [ht]; decide)]) w hq)
  have HF := Lib.hid (fun w hq hl hr => pFree_v q l rs p v u false 1 (by unfold freeE; rw [if_neg (fun h => by rw [hv] at h; cases h.2)]) w hq hl hr)
  have HN := Lib.hid hn
  have HG := Lib.hid (fun w hq hl hr => given22_v q l rs v u false hv hm w hq hl hr)
  simp only [Bool.false_eq_true, if_false] at HG
  simp only [zeroX] at HC
  clear hq hl hr hm hn hv ht
  go_enter Tryz.func3, Tryz.ntmps3
  go_wp2_with fail
  go_at_call 11; refine (awake22_c _).mono ?_; rintro e w' ⟨rfl, x0, rfl⟩
  go_wp2_with fail
  go_at_call 12; refine (few22_c q l rs v u _ (HQ.out.below (by (repeat (first | exact grow_refl _ | refine grow_ext _ ?_ | refine grow_alloc _ ?_ | refine grow_drew ?_)))) (HL.out.below (by (repeat (first | exact grow_refl _ | refine grow_ext _ ?_ | refine grow_alloc _ ?_ | refine grow_drew ?_)))) (HR.out.below (by (repeat (first | exact grow_refl _ | refine grow_ext _ ?_ | refine grow_alloc _ ?_ | refine grow_drew ?_))))).mono ?_; rintro e w' ⟨q0, rfl, x1, rfl⟩
  cases q0
  · go_wp2
    go_ret
    exact Ret.of (by (repeat (first | exact grow_refl _ | refine grow_ext _ ?_ | refine grow_alloc _ ?_ | refine grow_drew ?_)))
  go_wp2_with fail
  go_at_call 13; refine (HC.out _ (HQ.out.below (by (repeat (first | exact grow_refl _ | refine grow_ext _ ?_ | refine grow_alloc _ ?_ | refine grow_drew ?_))))).mono ?_; rintro e w' ⟨rfl, x2, rfl⟩
  go_wp2_with fail
  go_at_call 14; refine (HF.out _ (HQ.out.below (by (repeat (first | exact grow_refl _ | refine grow_ext _ ?_ | refine grow_alloc _ ?_ | refine grow_drew ?_)))) (HL.out.below (by (repeat (first | exact grow_refl _ | refine grow_ext _ ?_ | refine grow_alloc _ ?_ | refine grow_drew ?_)))) (HR.out.below (by (repeat (first | exact grow_refl _ | refine grow_ext _ ?_ | refine grow_alloc _ ?_ | refine grow_drew ?_))))).mono ?_; rintro e w' ⟨rfl, x3, rfl⟩
  go_wp2_with fail
  go_at_call 15; refine (HM.out _ (HQ.out.boxes.below (by (repeat (first | exact grow_refl _ | refine grow_ext _ ?_ | refine grow_alloc _ ?_ | refine grow_drew ?_)))) (HQ.out.holes.below (by (repeat (first | exact grow_refl _ | refine grow_ext _ ?_ | refine grow_alloc _ ?_ | refine grow_drew ?_))))).mono ?_; rintro e w' ⟨rfl, x4, rfl⟩
  go_wp2_with fail
  refine wp_region_grows (by kernel_rfl) (by kernel_rfl) ?_
  repeat (go_big_quiet_step ((go_at_call 16; exact Calls.quiet_ext (rRight_v p _ HN.out _))))
  refine wpQuiet_nil ?_; rintro _ ⟨xq, rfl⟩
  go_wp2_with fail
  go_at_call 19; refine (HG.out _ (HQ.out.below (by (repeat (first | exact grow_refl _ | refine grow_ext _ ?_ | refine grow_alloc _ ?_ | refine grow_drew ?_)))) (HL.out.below (by (repeat (first | exact grow_refl _ | refine grow_ext _ ?_ | refine grow_alloc _ ?_ | refine grow_drew ?_)))) (HR.out.below (by (repeat (first | exact grow_refl _ | refine grow_ext _ ?_ | refine grow_alloc _ ?_ | refine grow_drew ?_))))).mono ?_; rintro e w' ⟨rfl, x6, rfl⟩
  go_wp2
  go_ret
  exact Ret.of (by (repeat (first | exact grow_refl _ | refine grow_ext _ ?_ | refine grow_alloc _ ?_ | refine grow_drew ?_)))

set_option maxRecDepth 100000 in
set_option maxHeartbeats 8000000 in
theorem lawPF_c (q : Mb) (l : List Br) (rs : List Rn) (v u : Value) (p : Pt) (hm : okMb q = true) (hn : nearB p 1048576 = false) (hv : laidB l rs = true) (w : World) (hq : MbAt w q) (hl : Bars w v l) (hr : Runs w u rs) :
    Calls Tryz.prog 3 #[(.agg #[.string q.name, q.u, q.t, .int .i64 q.cover, .int .i64 q.agg, .int .i64 q.poker]), v, u, (.agg #[.int .i64 p.x, .int .i64 p.y, .int .i64 p.z])] w (Ret w (.bool true)) := by
  have HQ := Lib.hid hq
  have HL := Lib.hid hl
  have HR := Lib.hid hr
  have HM := Lib.hid (fun w hl hm' => refMember_v q.name q.l q.m q.u q.t q.cover q.agg q.poker true hm hq.name w hl hm')
  have ht : tipB q p = false := by unfold tipB; rw [hn]; rfl
  have HC := Lib.hid (fun w hq => pColumn_v q p zeroX 2 (by unfold columnE; rw [if_pos hm, if_neg (by rw [ht]; decide)]) w hq)
  have HF := Lib.hid (fun w hq hl hr => pFree_v q l rs p v u false 2 (by unfold freeE; rw [if_pos ⟨hm, hv⟩, if_neg (by rw [ht]; decide)]) w hq hl hr)
  have HN := Lib.hid hn
  have HG := Lib.hid (fun w hq hl hr => given22_v q l rs v u true hv hm w hq hl hr)
  simp only [if_true] at HG
  simp only [zeroX] at HC
  clear hq hl hr hm hn hv ht
  go_enter Tryz.func3, Tryz.ntmps3
  go_wp2_with fail
  go_at_call 11; refine (awake22_c _).mono ?_; rintro e w' ⟨rfl, x0, rfl⟩
  go_wp2_with fail
  go_at_call 12; refine (few22_c q l rs v u _ (HQ.out.below (by (repeat (first | exact grow_refl _ | refine grow_ext _ ?_ | refine grow_alloc _ ?_ | refine grow_drew ?_)))) (HL.out.below (by (repeat (first | exact grow_refl _ | refine grow_ext _ ?_ | refine grow_alloc _ ?_ | refine grow_drew ?_)))) (HR.out.below (by (repeat (first | exact grow_refl _ | refine grow_ext _ ?_ | refine grow_alloc _ ?_ | refine grow_drew ?_))))).mono ?_; rintro e w' ⟨q0, rfl, x1, rfl⟩
  cases q0
  · go_wp2
    go_ret
    exact Ret.of (by (repeat (first | exact grow_refl _ | refine grow_ext _ ?_ | refine grow_alloc _ ?_ | refine grow_drew ?_)))
  go_wp2_with fail
  go_at_call 13; refine (HC.out _ (HQ.out.below (by (repeat (first | exact grow_refl _ | refine grow_ext _ ?_ | refine grow_alloc _ ?_ | refine grow_drew ?_))))).mono ?_; rintro e w' ⟨rfl, x2, rfl⟩
  go_wp2_with fail
  go_at_call 14; refine (HF.out _ (HQ.out.below (by (repeat (first | exact grow_refl _ | refine grow_ext _ ?_ | refine grow_alloc _ ?_ | refine grow_drew ?_)))) (HL.out.below (by (repeat (first | exact grow_refl _ | refine grow_ext _ ?_ | refine grow_alloc _ ?_ | refine grow_drew ?_)))) (HR.out.below (by (repeat (first | exact grow_refl _ | refine grow_ext _ ?_ | refine grow_alloc _ ?_ | refine grow_drew ?_))))).mono ?_; rintro e w' ⟨rfl, x3, rfl⟩
  go_wp2_with fail
  go_at_call 15; refine (HM.out _ (HQ.out.boxes.below (by (repeat (first | exact grow_refl _ | refine grow_ext _ ?_ | refine grow_alloc _ ?_ | refine grow_drew ?_)))) (HQ.out.holes.below (by (repeat (first | exact grow_refl _ | refine grow_ext _ ?_ | refine grow_alloc _ ?_ | refine grow_drew ?_))))).mono ?_; rintro e w' ⟨rfl, x4, rfl⟩
  go_wp2_with fail
  refine wp_region_grows (by kernel_rfl) (by kernel_rfl) ?_
  repeat (go_big_quiet_step ((go_at_call 16; exact Calls.quiet_ext (rRight_v p _ HN.out _))))
  refine wpQuiet_nil ?_; rintro _ ⟨xq, rfl⟩
  go_wp2_with fail
  go_at_call 19; refine (HG.out _ (HQ.out.below (by (repeat (first | exact grow_refl _ | refine grow_ext _ ?_ | refine grow_alloc _ ?_ | refine grow_drew ?_)))) (HL.out.below (by (repeat (first | exact grow_refl _ | refine grow_ext _ ?_ | refine grow_alloc _ ?_ | refine grow_drew ?_)))) (HR.out.below (by (repeat (first | exact grow_refl _ | refine grow_ext _ ?_ | refine grow_alloc _ ?_ | refine grow_drew ?_))))).mono ?_; rintro e w' ⟨rfl, x6, rfl⟩
  go_wp2
  go_ret
  exact Ret.of (by (repeat (first | exact grow_refl _ | refine grow_ext _ ?_ | refine grow_alloc _ ?_ | refine grow_drew ?_)))

set_option maxRecDepth 100000 in
set_option maxHeartbeats 8000000 in
theorem lawPF_d (q : Mb) (l : List Br) (rs : List Rn) (v u : Value) (p : Pt) (hm : okMb q = true) (hn : nearB p 1048576 = true) (hz : ¬ p.z ≤ topI q) (hv : laidB l rs = false) (w : World) (hq : MbAt w q) (hl : Bars w v l) (hr : Runs w u rs) :
    Calls Tryz.prog 3 #[(.agg #[.string q.name, q.u, q.t, .int .i64 q.cover, .int .i64 q.agg, .int .i64 q.poker]), v, u, (.agg #[.int .i64 p.x, .int .i64 p.y, .int .i64 p.z])] w (Ret w (.bool true)) := by
  have HQ := Lib.hid hq
  have HL := Lib.hid hl
  have HR := Lib.hid hr
  have HM := Lib.hid (fun w hl hm' => refMember_v q.name q.l q.m q.u q.t q.cover q.agg q.poker true hm hq.name w hl hm')
  have ht : tipB q p = false := by unfold tipB; rw [hn]; rw [decide_eq_false hz]; rfl
  have HC := Lib.hid (fun w hq => pColumn_v q p zeroX 2 (by unfold columnE; rw [if_pos hm, if_neg (by rw [ht]; decide)]) w hq)
  have HF := Lib.hid (fun w hq hl hr => pFree_v q l rs p v u false 1 (by unfold freeE; rw [if_neg (fun h => by rw [hv] at h; cases h.2)]) w hq hl hr)
  have HN := Lib.hid hn
  have HG := Lib.hid (fun w hq hl hr => given22_v q l rs v u false hv hm w hq hl hr)
  simp only [Bool.false_eq_true, if_false] at HG
  have HT := Lib.hid (fun w hq => rTop_c q (solid_some (okMb_facts hm).1) w hq)
  generalize topI q = T at *
  have d1 : decide (p.z ≤ T) = false := decide_eq_false hz
  simp only [zeroX] at HC
  clear hq hl hr hm hn hz hv ht
  go_enter Tryz.func3, Tryz.ntmps3
  go_wp2_with fail
  go_at_call 11; refine (awake22_c _).mono ?_; rintro e w' ⟨rfl, x0, rfl⟩
  go_wp2_with fail
  go_at_call 12; refine (few22_c q l rs v u _ (HQ.out.below (by (repeat (first | exact grow_refl _ | refine grow_ext _ ?_ | refine grow_alloc _ ?_ | refine grow_drew ?_)))) (HL.out.below (by (repeat (first | exact grow_refl _ | refine grow_ext _ ?_ | refine grow_alloc _ ?_ | refine grow_drew ?_)))) (HR.out.below (by (repeat (first | exact grow_refl _ | refine grow_ext _ ?_ | refine grow_alloc _ ?_ | refine grow_drew ?_))))).mono ?_; rintro e w' ⟨q0, rfl, x1, rfl⟩
  cases q0
  · go_wp2
    go_ret
    exact Ret.of (by (repeat (first | exact grow_refl _ | refine grow_ext _ ?_ | refine grow_alloc _ ?_ | refine grow_drew ?_)))
  go_wp2_with fail
  go_at_call 13; refine (HC.out _ (HQ.out.below (by (repeat (first | exact grow_refl _ | refine grow_ext _ ?_ | refine grow_alloc _ ?_ | refine grow_drew ?_))))).mono ?_; rintro e w' ⟨rfl, x2, rfl⟩
  go_wp2_with fail
  go_at_call 14; refine (HF.out _ (HQ.out.below (by (repeat (first | exact grow_refl _ | refine grow_ext _ ?_ | refine grow_alloc _ ?_ | refine grow_drew ?_)))) (HL.out.below (by (repeat (first | exact grow_refl _ | refine grow_ext _ ?_ | refine grow_alloc _ ?_ | refine grow_drew ?_)))) (HR.out.below (by (repeat (first | exact grow_refl _ | refine grow_ext _ ?_ | refine grow_alloc _ ?_ | refine grow_drew ?_))))).mono ?_; rintro e w' ⟨rfl, x3, rfl⟩
  go_wp2_with fail
  go_at_call 15; refine (HM.out _ (HQ.out.boxes.below (by (repeat (first | exact grow_refl _ | refine grow_ext _ ?_ | refine grow_alloc _ ?_ | refine grow_drew ?_)))) (HQ.out.holes.below (by (repeat (first | exact grow_refl _ | refine grow_ext _ ?_ | refine grow_alloc _ ?_ | refine grow_drew ?_))))).mono ?_; rintro e w' ⟨rfl, x4, rfl⟩
  go_wp2_with fail
  refine wp_region_grows (by kernel_rfl) (by kernel_rfl) ?_
  repeat (go_big_quiet_step ((first | (go_at_call 16; exact Calls.quiet_ext (rRight_v p _ HN.out _)) | (go_at_call 17; exact Calls.quiet_ext (HT.out _ (HQ.out.below (by (repeat (first | exact grow_refl _ | refine grow_ext _ ?_ | refine grow_alloc _ ?_ | refine grow_drew ?_)))))))))
  refine wpQuiet_nil ?_; rintro _ ⟨xq, rfl⟩
  go_wp2_with fail
  go_at_call 19; refine (HG.out _ (HQ.out.below (by (repeat (first | exact grow_refl _ | refine grow_ext _ ?_ | refine grow_alloc _ ?_ | refine grow_drew ?_)))) (HL.out.below (by (repeat (first | exact grow_refl _ | refine grow_ext _ ?_ | refine grow_alloc _ ?_ | refine grow_drew ?_)))) (HR.out.below (by (repeat (first | exact grow_refl _ | refine grow_ext _ ?_ | refine grow_alloc _ ?_ | refine grow_drew ?_))))).mono ?_; rintro e w' ⟨rfl, x6, rfl⟩
  go_wp2
  go_ret
  exact Ret.of (by (repeat (first | exact grow_refl _ | refine grow_ext _ ?_ | refine grow_alloc _ ?_ | refine grow_drew ?_)))

set_option maxRecDepth 100000 in
set_option maxHeartbeats 8000000 in
theorem lawPF_e (q : Mb) (l : List Br) (rs : List Rn) (v u : Value) (p : Pt) (hm : okMb q = true) (hn : nearB p 1048576 = true) (hz : ¬ p.z ≤ topI q) (hv : laidB l rs = true) (w : World) (hq : MbAt w q) (hl : Bars w v l) (hr : Runs w u rs) :
    Calls Tryz.prog 3 #[(.agg #[.string q.name, q.u, q.t, .int .i64 q.cover, .int .i64 q.agg, .int .i64 q.poker]), v, u, (.agg #[.int .i64 p.x, .int .i64 p.y, .int .i64 p.z])] w (Ret w (.bool true)) := by
  have HQ := Lib.hid hq
  have HL := Lib.hid hl
  have HR := Lib.hid hr
  have HM := Lib.hid (fun w hl hm' => refMember_v q.name q.l q.m q.u q.t q.cover q.agg q.poker true hm hq.name w hl hm')
  have ht : tipB q p = false := by unfold tipB; rw [hn]; rw [decide_eq_false hz]; rfl
  have HC := Lib.hid (fun w hq => pColumn_v q p zeroX 2 (by unfold columnE; rw [if_pos hm, if_neg (by rw [ht]; decide)]) w hq)
  have HF := Lib.hid (fun w hq hl hr => pFree_v q l rs p v u false 2 (by unfold freeE; rw [if_pos ⟨hm, hv⟩, if_neg (by rw [ht]; decide)]) w hq hl hr)
  have HN := Lib.hid hn
  have HG := Lib.hid (fun w hq hl hr => given22_v q l rs v u true hv hm w hq hl hr)
  simp only [if_true] at HG
  have HT := Lib.hid (fun w hq => rTop_c q (solid_some (okMb_facts hm).1) w hq)
  generalize topI q = T at *
  have d1 : decide (p.z ≤ T) = false := decide_eq_false hz
  simp only [zeroX] at HC
  clear hq hl hr hm hn hz hv ht
  go_enter Tryz.func3, Tryz.ntmps3
  go_wp2_with fail
  go_at_call 11; refine (awake22_c _).mono ?_; rintro e w' ⟨rfl, x0, rfl⟩
  go_wp2_with fail
  go_at_call 12; refine (few22_c q l rs v u _ (HQ.out.below (by (repeat (first | exact grow_refl _ | refine grow_ext _ ?_ | refine grow_alloc _ ?_ | refine grow_drew ?_)))) (HL.out.below (by (repeat (first | exact grow_refl _ | refine grow_ext _ ?_ | refine grow_alloc _ ?_ | refine grow_drew ?_)))) (HR.out.below (by (repeat (first | exact grow_refl _ | refine grow_ext _ ?_ | refine grow_alloc _ ?_ | refine grow_drew ?_))))).mono ?_; rintro e w' ⟨q0, rfl, x1, rfl⟩
  cases q0
  · go_wp2
    go_ret
    exact Ret.of (by (repeat (first | exact grow_refl _ | refine grow_ext _ ?_ | refine grow_alloc _ ?_ | refine grow_drew ?_)))
  go_wp2_with fail
  go_at_call 13; refine (HC.out _ (HQ.out.below (by (repeat (first | exact grow_refl _ | refine grow_ext _ ?_ | refine grow_alloc _ ?_ | refine grow_drew ?_))))).mono ?_; rintro e w' ⟨rfl, x2, rfl⟩
  go_wp2_with fail
  go_at_call 14; refine (HF.out _ (HQ.out.below (by (repeat (first | exact grow_refl _ | refine grow_ext _ ?_ | refine grow_alloc _ ?_ | refine grow_drew ?_)))) (HL.out.below (by (repeat (first | exact grow_refl _ | refine grow_ext _ ?_ | refine grow_alloc _ ?_ | refine grow_drew ?_)))) (HR.out.below (by (repeat (first | exact grow_refl _ | refine grow_ext _ ?_ | refine grow_alloc _ ?_ | refine grow_drew ?_))))).mono ?_; rintro e w' ⟨rfl, x3, rfl⟩
  go_wp2_with fail
  go_at_call 15; refine (HM.out _ (HQ.out.boxes.below (by (repeat (first | exact grow_refl _ | refine grow_ext _ ?_ | refine grow_alloc _ ?_ | refine grow_drew ?_)))) (HQ.out.holes.below (by (repeat (first | exact grow_refl _ | refine grow_ext _ ?_ | refine grow_alloc _ ?_ | refine grow_drew ?_))))).mono ?_; rintro e w' ⟨rfl, x4, rfl⟩
  go_wp2_with fail
  refine wp_region_grows (by kernel_rfl) (by kernel_rfl) ?_
  repeat (go_big_quiet_step ((first | (go_at_call 16; exact Calls.quiet_ext (rRight_v p _ HN.out _)) | (go_at_call 17; exact Calls.quiet_ext (HT.out _ (HQ.out.below (by (repeat (first | exact grow_refl _ | refine grow_ext _ ?_ | refine grow_alloc _ ?_ | refine grow_drew ?_)))))))))
  refine wpQuiet_nil ?_; rintro _ ⟨xq, rfl⟩
  go_wp2_with fail
  go_at_call 19; refine (HG.out _ (HQ.out.below (by (repeat (first | exact grow_refl _ | refine grow_ext _ ?_ | refine grow_alloc _ ?_ | refine grow_drew ?_)))) (HL.out.below (by (repeat (first | exact grow_refl _ | refine grow_ext _ ?_ | refine grow_alloc _ ?_ | refine grow_drew ?_)))) (HR.out.below (by (repeat (first | exact grow_refl _ | refine grow_ext _ ?_ | refine grow_alloc _ ?_ | refine grow_drew ?_))))).mono ?_; rintro e w' ⟨rfl, x6, rfl⟩
  go_wp2
  go_ret
  exact Ret.of (by (repeat (first | exact grow_refl _ | refine grow_ext _ ?_ | refine grow_alloc _ ?_ | refine grow_drew ?_)))

set_option maxRecDepth 100000 in
set_option maxHeartbeats 8000000 in
theorem lawPF_f (q : Mb) (l : List Br) (rs : List Rn) (v u : Value) (p : Pt) (hm : okMb q = true) (hn : nearB p 1048576 = true) (hz : p.z ≤ topI q) (hv : laidB l rs = false) (w : World) (hq : MbAt w q) (hl : Bars w v l) (hr : Runs w u rs) :
    Calls Tryz.prog 3 #[(.agg #[.string q.name, q.u, q.t, .int .i64 q.cover, .int .i64 q.agg, .int .i64 q.poker]), v, u, (.agg #[.int .i64 p.x, .int .i64 p.y, .int .i64 p.z])] w (Ret w (.bool true)) := by
  have HQ := Lib.hid hq
  have HL := Lib.hid hl
  have HR := Lib.hid hr
  have HM := Lib.hid (fun w hl hm' => refMember_v q.name q.l q.m q.u q.t q.cover q.agg q.poker true hm hq.name w hl hm')
  have ht : tipB q p = true := by unfold tipB; rw [hn]; rw [decide_eq_true hz]; rfl
  have HC := Lib.hid (fun w hq => pColumn_v q p (colX q p) 0 (by unfold columnE; rw [if_pos hm, if_pos ht]) w hq)
  have HF := Lib.hid (fun w hq hl hr => pFree_v q l rs p v u false 1 (by unfold freeE; rw [if_neg (fun h => by rw [hv] at h; cases h.2)]) w hq hl hr)
  have HN := Lib.hid hn
  have HG := Lib.hid (fun w hq hl hr => given22_v q l rs v u false hv hm w hq hl hr)
  simp only [Bool.false_eq_true, if_false] at HG
  have HT := Lib.hid (fun w hq => rTop_c q (solid_some (okMb_facts hm).1) w hq)
  have HRC := Lib.hid (fun w hq => rColumn_c q p (tip_ok hm hn) w hq)
  generalize colX q p = C at *
  generalize topI q = T at *
  have d1 : decide (p.z ≤ T) = true := decide_eq_true hz
  clear hq hl hr hm hn hz hv ht
  go_enter Tryz.func3, Tryz.ntmps3
  go_wp2_with fail
  go_at_call 11; refine (awake22_c _).mono ?_; rintro e w' ⟨rfl, x0, rfl⟩
  go_wp2_with fail
  go_at_call 12; refine (few22_c q l rs v u _ (HQ.out.below (by (repeat (first | exact grow_refl _ | refine grow_ext _ ?_ | refine grow_alloc _ ?_ | refine grow_drew ?_)))) (HL.out.below (by (repeat (first | exact grow_refl _ | refine grow_ext _ ?_ | refine grow_alloc _ ?_ | refine grow_drew ?_)))) (HR.out.below (by (repeat (first | exact grow_refl _ | refine grow_ext _ ?_ | refine grow_alloc _ ?_ | refine grow_drew ?_))))).mono ?_; rintro e w' ⟨q0, rfl, x1, rfl⟩
  cases q0
  · go_wp2
    go_ret
    exact Ret.of (by (repeat (first | exact grow_refl _ | refine grow_ext _ ?_ | refine grow_alloc _ ?_ | refine grow_drew ?_)))
  go_wp2_with fail
  go_at_call 13; refine (HC.out _ (HQ.out.below (by (repeat (first | exact grow_refl _ | refine grow_ext _ ?_ | refine grow_alloc _ ?_ | refine grow_drew ?_))))).mono ?_; rintro e w' ⟨rfl, x2, rfl⟩
  go_wp2_with fail
  go_at_call 14; refine (HF.out _ (HQ.out.below (by (repeat (first | exact grow_refl _ | refine grow_ext _ ?_ | refine grow_alloc _ ?_ | refine grow_drew ?_)))) (HL.out.below (by (repeat (first | exact grow_refl _ | refine grow_ext _ ?_ | refine grow_alloc _ ?_ | refine grow_drew ?_)))) (HR.out.below (by (repeat (first | exact grow_refl _ | refine grow_ext _ ?_ | refine grow_alloc _ ?_ | refine grow_drew ?_))))).mono ?_; rintro e w' ⟨rfl, x3, rfl⟩
  go_wp2_with fail
  go_at_call 15; refine (HM.out _ (HQ.out.boxes.below (by (repeat (first | exact grow_refl _ | refine grow_ext _ ?_ | refine grow_alloc _ ?_ | refine grow_drew ?_)))) (HQ.out.holes.below (by (repeat (first | exact grow_refl _ | refine grow_ext _ ?_ | refine grow_alloc _ ?_ | refine grow_drew ?_))))).mono ?_; rintro e w' ⟨rfl, x4, rfl⟩
  go_wp2_with fail
  refine wp_region_grows (by kernel_rfl) (by kernel_rfl) ?_
  repeat (go_big_quiet_step ((first | (go_at_call 16; exact Calls.quiet_ext (rRight_v p _ HN.out _)) | (go_at_call 17; exact Calls.quiet_ext (HT.out _ (HQ.out.below (by (repeat (first | exact grow_refl _ | refine grow_ext _ ?_ | refine grow_alloc _ ?_ | refine grow_drew ?_)))))))))
  refine wpQuiet_nil ?_; rintro _ ⟨xq, rfl⟩
  go_wp2_with fail
  refine wp_region_grows (by kernel_rfl) (by kernel_rfl) ?_
  repeat (go_big_quiet_step ((go_at_call 18; exact Calls.quiet_ext (HRC.out _ (HQ.out.below (by (repeat (first | exact grow_refl _ | refine grow_ext _ ?_ | refine grow_alloc _ ?_ | refine grow_drew ?_))))))))
  refine wpQuiet_nil ?_; rintro _ ⟨xq, rfl⟩
  go_wp2_with fail
  go_at_call 19; refine (HG.out _ (HQ.out.below (by (repeat (first | exact grow_refl _ | refine grow_ext _ ?_ | refine grow_alloc _ ?_ | refine grow_drew ?_)))) (HL.out.below (by (repeat (first | exact grow_refl _ | refine grow_ext _ ?_ | refine grow_alloc _ ?_ | refine grow_drew ?_)))) (HR.out.below (by (repeat (first | exact grow_refl _ | refine grow_ext _ ?_ | refine grow_alloc _ ?_ | refine grow_drew ?_))))).mono ?_; rintro e w' ⟨rfl, x6, rfl⟩
  go_wp2
  go_ret
  exact Ret.of (by (repeat (first | exact grow_refl _ | refine grow_ext _ ?_ | refine grow_alloc _ ?_ | refine grow_drew ?_)))

set_option maxRecDepth 100000 in
set_option maxHeartbeats 8000000 in
theorem lawPF_g (q : Mb) (l : List Br) (rs : List Rn) (v u : Value) (p : Pt) (hm : okMb q = true) (hn : nearB p 1048576 = true) (hz : p.z ≤ topI q) (hv : laidB l rs = true) (w : World) (hq : MbAt w q) (hl : Bars w v l) (hr : Runs w u rs) :
    Calls Tryz.prog 3 #[(.agg #[.string q.name, q.u, q.t, .int .i64 q.cover, .int .i64 q.agg, .int .i64 q.poker]), v, u, (.agg #[.int .i64 p.x, .int .i64 p.y, .int .i64 p.z])] w (Ret w (.bool true)) := by
  have HQ := Lib.hid hq
  have HL := Lib.hid hl
  have HR := Lib.hid hr
  have HM := Lib.hid (fun w hl hm' => refMember_v q.name q.l q.m q.u q.t q.cover q.agg q.poker true hm hq.name w hl hm')
  have ht : tipB q p = true := by unfold tipB; rw [hn]; rw [decide_eq_true hz]; rfl
  have HC := Lib.hid (fun w hq => pColumn_v q p (colX q p) 0 (by unfold columnE; rw [if_pos hm, if_pos ht]) w hq)
  have HF := Lib.hid (fun w hq hl hr => pFree_v q l rs p v u (freeR q (rodsI l rs) p) 0 (by unfold freeE; rw [if_pos ⟨hm, hv⟩, if_pos ht]) w hq hl hr)
  have HN := Lib.hid hn
  have HG := Lib.hid (fun w hq hl hr => given22_v q l rs v u true hv hm w hq hl hr)
  simp only [if_true] at HG
  have HT := Lib.hid (fun w hq => rTop_c q (solid_some (okMb_facts hm).1) w hq)
  have HRC := Lib.hid (fun w hq => rColumn_c q p (tip_ok hm hn) w hq)
  have HRF := Lib.hid (fun w hq hl hr => rFree_v q l rs v u p _ rfl (tip_ok hm hn) hv w hq hl hr)
  generalize freeR q (rodsI l rs) p = F at *
  generalize colX q p = C at *
  generalize topI q = T at *
  have d1 : decide (p.z ≤ T) = true := decide_eq_true hz
  clear hq hl hr hm hn hz hv ht
  go_enter Tryz.func3, Tryz.ntmps3
  go_wp2_with fail
  go_at_call 11; refine (awake22_c _).mono ?_; rintro e w' ⟨rfl, x0, rfl⟩
  go_wp2_with fail
  go_at_call 12; refine (few22_c q l rs v u _ (HQ.out.below (by (repeat (first | exact grow_refl _ | refine grow_ext _ ?_ | refine grow_alloc _ ?_ | refine grow_drew ?_)))) (HL.out.below (by (repeat (first | exact grow_refl _ | refine grow_ext _ ?_ | refine grow_alloc _ ?_ | refine grow_drew ?_)))) (HR.out.below (by (repeat (first | exact grow_refl _ | refine grow_ext _ ?_ | refine grow_alloc _ ?_ | refine grow_drew ?_))))).mono ?_; rintro e w' ⟨q0, rfl, x1, rfl⟩
  cases q0
  · go_wp2
    go_ret
    exact Ret.of (by (repeat (first | exact grow_refl _ | refine grow_ext _ ?_ | refine grow_alloc _ ?_ | refine grow_drew ?_)))
  go_wp2_with fail
  go_at_call 13; refine (HC.out _ (HQ.out.below (by (repeat (first | exact grow_refl _ | refine grow_ext _ ?_ | refine grow_alloc _ ?_ | refine grow_drew ?_))))).mono ?_; rintro e w' ⟨rfl, x2, rfl⟩
  go_wp2_with fail
  go_at_call 14; refine (HF.out _ (HQ.out.below (by (repeat (first | exact grow_refl _ | refine grow_ext _ ?_ | refine grow_alloc _ ?_ | refine grow_drew ?_)))) (HL.out.below (by (repeat (first | exact grow_refl _ | refine grow_ext _ ?_ | refine grow_alloc _ ?_ | refine grow_drew ?_)))) (HR.out.below (by (repeat (first | exact grow_refl _ | refine grow_ext _ ?_ | refine grow_alloc _ ?_ | refine grow_drew ?_))))).mono ?_; rintro e w' ⟨rfl, x3, rfl⟩
  go_wp2_with fail
  go_at_call 15; refine (HM.out _ (HQ.out.boxes.below (by (repeat (first | exact grow_refl _ | refine grow_ext _ ?_ | refine grow_alloc _ ?_ | refine grow_drew ?_)))) (HQ.out.holes.below (by (repeat (first | exact grow_refl _ | refine grow_ext _ ?_ | refine grow_alloc _ ?_ | refine grow_drew ?_))))).mono ?_; rintro e w' ⟨rfl, x4, rfl⟩
  go_wp2_with fail
  refine wp_region_grows (by kernel_rfl) (by kernel_rfl) ?_
  repeat (go_big_quiet_step ((first | (go_at_call 16; exact Calls.quiet_ext (rRight_v p _ HN.out _)) | (go_at_call 17; exact Calls.quiet_ext (HT.out _ (HQ.out.below (by (repeat (first | exact grow_refl _ | refine grow_ext _ ?_ | refine grow_alloc _ ?_ | refine grow_drew ?_)))))))))
  refine wpQuiet_nil ?_; rintro _ ⟨xq, rfl⟩
  go_wp2_with fail
  refine wp_region_grows (by kernel_rfl) (by kernel_rfl) ?_
  repeat (go_big_quiet_step ((go_at_call 18; exact Calls.quiet_ext (HRC.out _ (HQ.out.below (by (repeat (first | exact grow_refl _ | refine grow_ext _ ?_ | refine grow_alloc _ ?_ | refine grow_drew ?_))))))))
  refine wpQuiet_nil ?_; rintro _ ⟨xq, rfl⟩
  go_wp2_with fail
  go_at_call 19; refine (HG.out _ (HQ.out.below (by (repeat (first | exact grow_refl _ | refine grow_ext _ ?_ | refine grow_alloc _ ?_ | refine grow_drew ?_)))) (HL.out.below (by (repeat (first | exact grow_refl _ | refine grow_ext _ ?_ | refine grow_alloc _ ?_ | refine grow_drew ?_)))) (HR.out.below (by (repeat (first | exact grow_refl _ | refine grow_ext _ ?_ | refine grow_alloc _ ?_ | refine grow_drew ?_))))).mono ?_; rintro e w' ⟨rfl, x6, rfl⟩
  go_wp2_with fail
  go_at_call 20; refine (HRF.out _ (HQ.out.below (by (repeat (first | exact grow_refl _ | refine grow_ext _ ?_ | refine grow_alloc _ ?_ | refine grow_drew ?_)))) (HL.out.below (by (repeat (first | exact grow_refl _ | refine grow_ext _ ?_ | refine grow_alloc _ ?_ | refine grow_drew ?_)))) (HR.out.below (by (repeat (first | exact grow_refl _ | refine grow_ext _ ?_ | refine grow_alloc _ ?_ | refine grow_drew ?_))))).mono ?_; rintro e w' ⟨rfl, x7, rfl⟩
  go_wp2
  go_ret
  exact Ret.of (by (repeat (first | exact grow_refl _ | refine grow_ext _ ?_ | refine grow_alloc _ ?_ | refine grow_drew ?_)))

theorem lawPokerFree_c (q : Mb) (l : List Br) (v : Value) (rs : List Rn) (u : Value) (x y z : Int) (w : World) (hq : MbAt w q) (hl : Bars w v l) (hr : Runs w u rs) :
    Calls Tryz.prog 3 #[(.agg #[.string q.name, q.u, q.t, .int .i64 q.cover, .int .i64 q.agg, .int .i64 q.poker]), v, u, (.agg #[.int .i64 x, .int .i64 y, .int .i64 z])] w (Ret w (.bool true)) := by
  cases hm : okMb q
  · exact lawPF_a q l rs v u ⟨x, y, z⟩ hm w hq hl hr
  cases hn : nearB ⟨x, y, z⟩ 1048576
  · cases hv : laidB l rs
    · exact lawPF_b q l rs v u ⟨x, y, z⟩ hm hn hv w hq hl hr
    · exact lawPF_c q l rs v u ⟨x, y, z⟩ hm hn hv w hq hl hr
  by_cases hz : z ≤ topI q
  · cases hv : laidB l rs
    · exact lawPF_f q l rs v u ⟨x, y, z⟩ hm hn hz hv w hq hl hr
    · exact lawPF_g q l rs v u ⟨x, y, z⟩ hm hn hz hv w hq hl hr
  · cases hv : laidB l rs
    · exact lawPF_d q l rs v u ⟨x, y, z⟩ hm hn hz hv w hq hl hr
    · exact lawPF_e q l rs v u ⟨x, y, z⟩ hm hn hz hv w hq hl hr

end Go.Proofs.YtmoechhfjmemaaaGreat
