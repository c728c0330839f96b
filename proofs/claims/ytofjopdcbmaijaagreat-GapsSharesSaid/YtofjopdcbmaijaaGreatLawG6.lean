/- GapsChecks: the walk of the law. Printed by mklawg6.py. -/
import Derived.Test.YtofjopdcbmaijaaGreatRefM5
import Derived.Test.YtofjopdcbmaijaaGreatGapH
import Derived.Test.YtofjopdcbmaijaaGreatRefRat2
import Derived.Test.YtofjopdcbmaijaaGreatSolK4
import Derived.Test.YtofjopdcbmaijaaGreatGapK3
import Derived.Test.YtofjopdcbmaijaaGreatLawG5
import Derived.Test.YtofjopdcbmaijaaGreatOpenK
namespace Go.Proofs.YtofjopdcbmaijaaGreat
open Go.RowKit
set_option maxRecDepth 20000

theorem lenX {x : Int} {r : Bool} (h : inI x (-1048576) 1048576 = r) : decide (-1048576 ≤ x ∧ x ≤ 1048576) = r := by rw [← h]; unfold inI; rw [Bool.decide_and]
theorem ce_bad {l : List Br} {rs : List Rn} {x : Int} (hv : laidB l rs = false) : cutsE l rs x = ([], 1) := by unfold cutsE; rw [hv]; rfl
theorem ce_far {l : List Br} {rs : List Rn} {x : Int} (hv : laidB l rs = true) (hx : inI x (-1048576) 1048576 = false) : cutsE l rs x = ([], 2) := by unfold cutsE; rw [hv, hx]; rfl
theorem ce_ok {l : List Br} {rs : List Rn} {x : Int} (hv : laidB l rs = true) (hx : inI x (-1048576) 1048576 = true) : cutsE l rs x = (cutsI l rs x, 0) := by unfold cutsE; rw [hv, hx]; rfl
theorem fds_none {w : World} {err : Int} {e : Ending} {W : World} (h : RetFds w [] err e W) : ∃ a c, e = .returned (.tuple #[.slice a 0 c, .int .i64 err]) ∧ c ≤ 9223372036854775807 ∧ ∃ x, W = ext w x := by
  obtain ⟨a, c, e1, _, e3, e5⟩ := fds_len (N := 0) rfl h
  exact ⟨a, c, e1, e3, e5⟩

set_option maxRecDepth 100000 in
set_option maxHeartbeats 4000000 in
theorem lawChk_a (q : Mb) (l : List Br) (rs : List Rn) (v u : Value) (a x : Int) (h4 : smallB q.l.length q.m.length 4 = false) (w : World) (hq : MbAt w q) (hl : Bars w v l) (hr : Runs w u rs) :
    Calls Tryz.prog 4 #[(.agg #[.string q.name, q.u, q.t, .int .i64 q.cover, .int .i64 q.agg, .int .i64 q.poker]), v, u, .int .i64 a, .int .i64 x] w (Ret w (.bool true)) := by
  have HL := Lib.hid hl
  have HR := Lib.hid hr
  have HQ := Lib.hid hq
  obtain ⟨ua, uc, eu, -, -, -⟩ := hq.boxes.shape
  obtain ⟨ta, tc, et, -, -, -⟩ := hq.holes.shape
  have HS4 := Lib.hid (fun w hl hm => refSmall_v q.l q.m q.u q.t 4 false h4 w hl hm)
  obtain ⟨name, bl, ml, bu, bt, cover, agg, poker⟩ := q
  simp only at eu et HS4
  subst eu et
  clear hq hl hr h4
  go_enter Tryz.func4, Tryz.ntmps4
  go_wp2_with fail
  go_at_call 6; refine (awake21_c _).mono ?_; rintro e w' ⟨rfl, x0, rfl⟩
  go_wp2_with fail
  go_at_call 7; refine (small21g_c l rs v u _ (HL.out.below (by (repeat (first | exact grow_refl _ | refine grow_ext _ ?_ | refine grow_alloc _ ?_ | refine grow_drew ?_)))) (HR.out.below (by (repeat (first | exact grow_refl _ | refine grow_ext _ ?_ | refine grow_alloc _ ?_ | refine grow_drew ?_))))).mono ?_; rintro e w' ⟨q0, rfl, x1, rfl⟩
  cases q0
  · go_wp2
    go_ret
    exact Ret.of (by (repeat (first | exact grow_refl _ | refine grow_ext _ ?_ | refine grow_alloc _ ?_ | refine grow_drew ?_)))
  go_wp2_with fail
  go_at_call 14; refine (HS4.out _ (HQ.out.boxes.below (by (repeat (first | exact grow_refl _ | refine grow_ext _ ?_ | refine grow_alloc _ ?_ | refine grow_drew ?_)))) (HQ.out.holes.below (by (repeat (first | exact grow_refl _ | refine grow_ext _ ?_ | refine grow_alloc _ ?_ | refine grow_drew ?_))))).mono ?_; rintro e w' ⟨rfl, x2, rfl⟩
  go_wp2
  go_ret
  exact Ret.of (by (repeat (first | exact grow_refl _ | refine grow_ext _ ?_ | refine grow_alloc _ ?_ | refine grow_drew ?_)))

set_option maxRecDepth 100000 in
set_option maxHeartbeats 4000000 in
theorem lawChk_b (q : Mb) (l : List Br) (rs : List Rn) (v u : Value) (a x : Int) (h4 : smallB q.l.length q.m.length 4 = true) (hn : 60 < q.name.size) (w : World) (hq : MbAt w q) (hl : Bars w v l) (hr : Runs w u rs) :
    Calls Tryz.prog 4 #[(.agg #[.string q.name, q.u, q.t, .int .i64 q.cover, .int .i64 q.agg, .int .i64 q.poker]), v, u, .int .i64 a, .int .i64 x] w (Ret w (.bool true)) := by
  have HL := Lib.hid hl
  have HR := Lib.hid hr
  have HQ := Lib.hid hq
  obtain ⟨ua, uc, eu, -, -, -⟩ := hq.boxes.shape
  obtain ⟨ta, tc, et, -, -, -⟩ := hq.holes.shape
  have HS4 := Lib.hid (fun w hl hm => refSmall_v q.l q.m q.u q.t 4 true h4 w hl hm)
  have dn : decide ((60 : Int) < (q.name.size : Int)) = true := by simp; omega
  obtain ⟨name, bl, ml, bu, bt, cover, agg, poker⟩ := q
  simp only at eu et HS4 dn
  subst eu et
  clear hq hl hr h4 hn
  go_enter Tryz.func4, Tryz.ntmps4
  go_wp2_with fail
  go_at_call 6; refine (awake21_c _).mono ?_; rintro e w' ⟨rfl, x0, rfl⟩
  go_wp2_with fail
  go_at_call 7; refine (small21g_c l rs v u _ (HL.out.below (by (repeat (first | exact grow_refl _ | refine grow_ext _ ?_ | refine grow_alloc _ ?_ | refine grow_drew ?_)))) (HR.out.below (by (repeat (first | exact grow_refl _ | refine grow_ext _ ?_ | refine grow_alloc _ ?_ | refine grow_drew ?_))))).mono ?_; rintro e w' ⟨q0, rfl, x1, rfl⟩
  cases q0
  · go_wp2
    go_ret
    exact Ret.of (by (repeat (first | exact grow_refl _ | refine grow_ext _ ?_ | refine grow_alloc _ ?_ | refine grow_drew ?_)))
  go_wp2_with fail
  go_at_call 14; refine (HS4.out _ (HQ.out.boxes.below (by (repeat (first | exact grow_refl _ | refine grow_ext _ ?_ | refine grow_alloc _ ?_ | refine grow_drew ?_)))) (HQ.out.holes.below (by (repeat (first | exact grow_refl _ | refine grow_ext _ ?_ | refine grow_alloc _ ?_ | refine grow_drew ?_))))).mono ?_; rintro e w' ⟨rfl, x2, rfl⟩
  go_wp2
  go_ret
  exact Ret.of (by (repeat (first | exact grow_refl _ | refine grow_ext _ ?_ | refine grow_alloc _ ?_ | refine grow_drew ?_)))

set_option maxRecDepth 100000 in
set_option maxHeartbeats 8000000 in
theorem lawChk_1 (q : Mb) (l : List Br) (rs : List Rn) (v u : Value) (a x : Int) (h4 : smallB q.l.length q.m.length 4 = true) (hn : q.name.size ≤ 60) (hv : laidB l rs = false) (w : World) (hq : MbAt w q) (hl : Bars w v l) (hr : Runs w u rs) :
    Calls Tryz.prog 4 #[(.agg #[.string q.name, q.u, q.t, .int .i64 q.cover, .int .i64 q.agg, .int .i64 q.poker]), v, u, .int .i64 a, .int .i64 x] w (Ret w (.bool true)) := by
  have HL := Lib.hid hl
  have HR := Lib.hid hr
  have HQ := Lib.hid hq
  obtain ⟨ua, uc, eu, -, -, -⟩ := hq.boxes.shape
  obtain ⟨ta, tc, et, -, -, -⟩ := hq.holes.shape
  have HS4 := Lib.hid (fun w hl hm => refSmall_v q.l q.m q.u q.t 4 true h4 w hl hm)
  have dn : decide ((60 : Int) < (q.name.size : Int)) = false := by simp; omega
  have hce := ce_bad (x := x) hv
  have HK := Lib.hid (fun w hl hr => (gCheck_c l rs v u a x w hl hr).mono fun e W h => by rw [show checkE l rs a x = ([], 1) by unfold checkE; rw [hce]; rfl] at h; exact fds_none h)
  have HSH := Lib.hid (fun w hq hl hr => share_v q l rs v u x (.agg #[.int .i64 0, .int .i64 0]) 1 (by unfold shareE; rw [hce]; split <;> rfl) w hq hl hr)
  have HV := Lib.hid hv
  obtain ⟨name, bl, ml, bu, bt, cover, agg, poker⟩ := q
  simp only at eu et HS4 dn HSH
  subst eu et
  clear hq hl hr h4 hn hv hce
  go_enter Tryz.func4, Tryz.ntmps4
  go_wp2_with fail
  go_at_call 6; refine (awake21_c _).mono ?_; rintro e w' ⟨rfl, x0, rfl⟩
  go_wp2_with fail
  go_at_call 7; refine (small21g_c l rs v u _ (HL.out.below (by (repeat (first | exact grow_refl _ | refine grow_ext _ ?_ | refine grow_alloc _ ?_ | refine grow_drew ?_)))) (HR.out.below (by (repeat (first | exact grow_refl _ | refine grow_ext _ ?_ | refine grow_alloc _ ?_ | refine grow_drew ?_))))).mono ?_; rintro e w' ⟨q0, rfl, x1, rfl⟩
  cases q0
  · go_wp2
    go_ret
    exact Ret.of (by (repeat (first | exact grow_refl _ | refine grow_ext _ ?_ | refine grow_alloc _ ?_ | refine grow_drew ?_)))
  go_wp2_with fail
  go_at_call 14; refine (HS4.out _ (HQ.out.boxes.below (by (repeat (first | exact grow_refl _ | refine grow_ext _ ?_ | refine grow_alloc _ ?_ | refine grow_drew ?_)))) (HQ.out.holes.below (by (repeat (first | exact grow_refl _ | refine grow_ext _ ?_ | refine grow_alloc _ ?_ | refine grow_drew ?_))))).mono ?_; rintro e w' ⟨rfl, x2, rfl⟩
  go_wp2_with fail
  go_at_call 15; refine (HK.out _ (HL.out.below (by (repeat (first | exact grow_refl _ | refine grow_ext _ ?_ | refine grow_alloc _ ?_ | refine grow_drew ?_)))) (HR.out.below (by (repeat (first | exact grow_refl _ | refine grow_ext _ ?_ | refine grow_alloc _ ?_ | refine grow_drew ?_))))).mono ?_; rintro e w' ⟨a9, c9, rfl, k9, x3, rfl⟩
  go_wp2_with fail
  go_at_call 16; refine (HSH.out _ (HQ.out.below (by (repeat (first | exact grow_refl _ | refine grow_ext _ ?_ | refine grow_alloc _ ?_ | refine grow_drew ?_)))) (HL.out.below (by (repeat (first | exact grow_refl _ | refine grow_ext _ ?_ | refine grow_alloc _ ?_ | refine grow_drew ?_)))) (HR.out.below (by (repeat (first | exact grow_refl _ | refine grow_ext _ ?_ | refine grow_alloc _ ?_ | refine grow_drew ?_))))).mono ?_; rintro e w' ⟨rfl, x4, rfl⟩
  go_wp2_with fail
  go_at_call 10; refine (refLaid_v l rs v u false HV.out _ (HL.out.below (by (repeat (first | exact grow_refl _ | refine grow_ext _ ?_ | refine grow_alloc _ ?_ | refine grow_drew ?_)))) (HR.out.below (by (repeat (first | exact grow_refl _ | refine grow_ext _ ?_ | refine grow_alloc _ ?_ | refine grow_drew ?_))))).mono ?_; rintro e w' ⟨rfl, x5, rfl⟩
  go_wp2
  go_ret
  exact Ret.of (by (repeat (first | exact grow_refl _ | refine grow_ext _ ?_ | refine grow_alloc _ ?_ | refine grow_drew ?_)))

set_option maxRecDepth 100000 in
set_option maxHeartbeats 8000000 in
theorem lawChk_2 (q : Mb) (l : List Br) (rs : List Rn) (v u : Value) (a x : Int) (h4 : smallB q.l.length q.m.length 4 = true) (hn : q.name.size ≤ 60) (hv : laidB l rs = true) (hx : inI x (-1048576) 1048576 = false) (hb : memB q = false) (w : World) (hq : MbAt w q) (hl : Bars w v l) (hr : Runs w u rs) :
    Calls Tryz.prog 4 #[(.agg #[.string q.name, q.u, q.t, .int .i64 q.cover, .int .i64 q.agg, .int .i64 q.poker]), v, u, .int .i64 a, .int .i64 x] w (Ret w (.bool true)) := by
  have HL := Lib.hid hl
  have HR := Lib.hid hr
  have HQ := Lib.hid hq
  obtain ⟨ua, uc, eu, -, -, -⟩ := hq.boxes.shape
  obtain ⟨ta, tc, et, -, -, -⟩ := hq.holes.shape
  have HS4 := Lib.hid (fun w hl hm => refSmall_v q.l q.m q.u q.t 4 true h4 w hl hm)
  have dn : decide ((60 : Int) < (q.name.size : Int)) = false := by simp; omega
  have hce := ce_far hv hx
  have HK := Lib.hid (fun w hl hr => (gCheck_c l rs v u a x w hl hr).mono fun e W h => by rw [show checkE l rs a x = ([], 2) by unfold checkE; rw [hce]; rfl] at h; exact fds_none h)
  have HSH := Lib.hid (fun w hq hl hr => share_v q l rs v u x (.agg #[.int .i64 0, .int .i64 0]) 1 (by unfold shareE; rw [hb]; rfl) w hq hl hr)
  have HM := Lib.hid (fun w hl hm => refMember_v q.name q.l q.m q.u q.t q.cover q.agg q.poker false hb hq.name w hl hm)
  have HV := Lib.hid hv
  have HX := Lib.hid (fun w => refIsLen_v x false (lenX hx) w)
  obtain ⟨name, bl, ml, bu, bt, cover, agg, poker⟩ := q
  simp only at eu et HS4 dn HSH HM
  subst eu et
  clear hq hl hr h4 hn hv hx hb hce
  go_enter Tryz.func4, Tryz.ntmps4
  go_wp2_with fail
  go_at_call 6; refine (awake21_c _).mono ?_; rintro e w' ⟨rfl, x0, rfl⟩
  go_wp2_with fail
  go_at_call 7; refine (small21g_c l rs v u _ (HL.out.below (by (repeat (first | exact grow_refl _ | refine grow_ext _ ?_ | refine grow_alloc _ ?_ | refine grow_drew ?_)))) (HR.out.below (by (repeat (first | exact grow_refl _ | refine grow_ext _ ?_ | refine grow_alloc _ ?_ | refine grow_drew ?_))))).mono ?_; rintro e w' ⟨q0, rfl, x1, rfl⟩
  cases q0
  · go_wp2
    go_ret
    exact Ret.of (by (repeat (first | exact grow_refl _ | refine grow_ext _ ?_ | refine grow_alloc _ ?_ | refine grow_drew ?_)))
  go_wp2_with fail
  go_at_call 14; refine (HS4.out _ (HQ.out.boxes.below (by (repeat (first | exact grow_refl _ | refine grow_ext _ ?_ | refine grow_alloc _ ?_ | refine grow_drew ?_)))) (HQ.out.holes.below (by (repeat (first | exact grow_refl _ | refine grow_ext _ ?_ | refine grow_alloc _ ?_ | refine grow_drew ?_))))).mono ?_; rintro e w' ⟨rfl, x2, rfl⟩
  go_wp2_with fail
  go_at_call 15; refine (HK.out _ (HL.out.below (by (repeat (first | exact grow_refl _ | refine grow_ext _ ?_ | refine grow_alloc _ ?_ | refine grow_drew ?_)))) (HR.out.below (by (repeat (first | exact grow_refl _ | refine grow_ext _ ?_ | refine grow_alloc _ ?_ | refine grow_drew ?_))))).mono ?_; rintro e w' ⟨a9, c9, rfl, k9, x3, rfl⟩
  go_wp2_with fail
  go_at_call 16; refine (HSH.out _ (HQ.out.below (by (repeat (first | exact grow_refl _ | refine grow_ext _ ?_ | refine grow_alloc _ ?_ | refine grow_drew ?_)))) (HL.out.below (by (repeat (first | exact grow_refl _ | refine grow_ext _ ?_ | refine grow_alloc _ ?_ | refine grow_drew ?_)))) (HR.out.below (by (repeat (first | exact grow_refl _ | refine grow_ext _ ?_ | refine grow_alloc _ ?_ | refine grow_drew ?_))))).mono ?_; rintro e w' ⟨rfl, x4, rfl⟩
  go_wp2_with fail
  go_at_call 10; refine (refLaid_v l rs v u true HV.out _ (HL.out.below (by (repeat (first | exact grow_refl _ | refine grow_ext _ ?_ | refine grow_alloc _ ?_ | refine grow_drew ?_)))) (HR.out.below (by (repeat (first | exact grow_refl _ | refine grow_ext _ ?_ | refine grow_alloc _ ?_ | refine grow_drew ?_))))).mono ?_; rintro e w' ⟨rfl, x5, rfl⟩
  go_wp2_with fail
  go_at_call 11; refine (HX.out _).mono ?_; rintro e w' ⟨rfl, x6, rfl⟩
  go_wp2_with fail
  go_at_call 20; refine (HM.out _ (HQ.out.boxes.below (by (repeat (first | exact grow_refl _ | refine grow_ext _ ?_ | refine grow_alloc _ ?_ | refine grow_drew ?_)))) (HQ.out.holes.below (by (repeat (first | exact grow_refl _ | refine grow_ext _ ?_ | refine grow_alloc _ ?_ | refine grow_drew ?_))))).mono ?_; rintro e w' ⟨rfl, y1, rfl⟩
  go_wp2
  go_ret
  exact Ret.of (by (repeat (first | exact grow_refl _ | refine grow_ext _ ?_ | refine grow_alloc _ ?_ | refine grow_drew ?_)))

set_option maxRecDepth 100000 in
set_option maxHeartbeats 8000000 in
theorem lawChk_3 (q : Mb) (l : List Br) (rs : List Rn) (v u : Value) (a x : Int) (h4 : smallB q.l.length q.m.length 4 = true) (hn : q.name.size ≤ 60) (hv : laidB l rs = true) (hx : inI x (-1048576) 1048576 = false) (hb : memB q = true) (w : World) (hq : MbAt w q) (hl : Bars w v l) (hr : Runs w u rs) :
    Calls Tryz.prog 4 #[(.agg #[.string q.name, q.u, q.t, .int .i64 q.cover, .int .i64 q.agg, .int .i64 q.poker]), v, u, .int .i64 a, .int .i64 x] w (Ret w (.bool true)) := by
  have HL := Lib.hid hl
  have HR := Lib.hid hr
  have HQ := Lib.hid hq
  obtain ⟨ua, uc, eu, -, -, -⟩ := hq.boxes.shape
  obtain ⟨ta, tc, et, -, -, -⟩ := hq.holes.shape
  have HS4 := Lib.hid (fun w hl hm => refSmall_v q.l q.m q.u q.t 4 true h4 w hl hm)
  have dn : decide ((60 : Int) < (q.name.size : Int)) = false := by simp; omega
  have hce := ce_far hv hx
  have HK := Lib.hid (fun w hl hr => (gCheck_c l rs v u a x w hl hr).mono fun e W h => by rw [show checkE l rs a x = ([], 2) by unfold checkE; rw [hce]; rfl] at h; exact fds_none h)
  have HSH := Lib.hid (fun w hq hl hr => share_v q l rs v u x (.agg #[.int .i64 0, .int .i64 0]) 2 (by unfold shareE; rw [hb, if_pos rfl, hce]; rfl) w hq hl hr)
  have HM := Lib.hid (fun w hl hm => refMember_v q.name q.l q.m q.u q.t q.cover q.agg q.poker true hb hq.name w hl hm)
  have HV := Lib.hid hv
  have HX := Lib.hid (fun w => refIsLen_v x false (lenX hx) w)
  obtain ⟨name, bl, ml, bu, bt, cover, agg, poker⟩ := q
  simp only at eu et HS4 dn HSH HM
  subst eu et
  clear hq hl hr h4 hn hv hx hb hce
  go_enter Tryz.func4, Tryz.ntmps4
  go_wp2_with fail
  go_at_call 6; refine (awake21_c _).mono ?_; rintro e w' ⟨rfl, x0, rfl⟩
  go_wp2_with fail
  go_at_call 7; refine (small21g_c l rs v u _ (HL.out.below (by (repeat (first | exact grow_refl _ | refine grow_ext _ ?_ | refine grow_alloc _ ?_ | refine grow_drew ?_)))) (HR.out.below (by (repeat (first | exact grow_refl _ | refine grow_ext _ ?_ | refine grow_alloc _ ?_ | refine grow_drew ?_))))).mono ?_; rintro e w' ⟨q0, rfl, x1, rfl⟩
  cases q0
  · go_wp2
    go_ret
    exact Ret.of (by (repeat (first | exact grow_refl _ | refine grow_ext _ ?_ | refine grow_alloc _ ?_ | refine grow_drew ?_)))
  go_wp2_with fail
  go_at_call 14; refine (HS4.out _ (HQ.out.boxes.below (by (repeat (first | exact grow_refl _ | refine grow_ext _ ?_ | refine grow_alloc _ ?_ | refine grow_drew ?_)))) (HQ.out.holes.below (by (repeat (first | exact grow_refl _ | refine grow_ext _ ?_ | refine grow_alloc _ ?_ | refine grow_drew ?_))))).mono ?_; rintro e w' ⟨rfl, x2, rfl⟩
  go_wp2_with fail
  go_at_call 15; refine (HK.out _ (HL.out.below (by (repeat (first | exact grow_refl _ | refine grow_ext _ ?_ | refine grow_alloc _ ?_ | refine grow_drew ?_)))) (HR.out.below (by (repeat (first | exact grow_refl _ | refine grow_ext _ ?_ | refine grow_alloc _ ?_ | refine grow_drew ?_))))).mono ?_; rintro e w' ⟨a9, c9, rfl, k9, x3, rfl⟩
  go_wp2_with fail
  go_at_call 16; refine (HSH.out _ (HQ.out.below (by (repeat (first | exact grow_refl _ | refine grow_ext _ ?_ | refine grow_alloc _ ?_ | refine grow_drew ?_)))) (HL.out.below (by (repeat (first | exact grow_refl _ | refine grow_ext _ ?_ | refine grow_alloc _ ?_ | refine grow_drew ?_)))) (HR.out.below (by (repeat (first | exact grow_refl _ | refine grow_ext _ ?_ | refine grow_alloc _ ?_ | refine grow_drew ?_))))).mono ?_; rintro e w' ⟨rfl, x4, rfl⟩
  go_wp2_with fail
  go_at_call 10; refine (refLaid_v l rs v u true HV.out _ (HL.out.below (by (repeat (first | exact grow_refl _ | refine grow_ext _ ?_ | refine grow_alloc _ ?_ | refine grow_drew ?_)))) (HR.out.below (by (repeat (first | exact grow_refl _ | refine grow_ext _ ?_ | refine grow_alloc _ ?_ | refine grow_drew ?_))))).mono ?_; rintro e w' ⟨rfl, x5, rfl⟩
  go_wp2_with fail
  go_at_call 11; refine (HX.out _).mono ?_; rintro e w' ⟨rfl, x6, rfl⟩
  go_wp2_with fail
  go_at_call 20; refine (HM.out _ (HQ.out.boxes.below (by (repeat (first | exact grow_refl _ | refine grow_ext _ ?_ | refine grow_alloc _ ?_ | refine grow_drew ?_)))) (HQ.out.holes.below (by (repeat (first | exact grow_refl _ | refine grow_ext _ ?_ | refine grow_alloc _ ?_ | refine grow_drew ?_))))).mono ?_; rintro e w' ⟨rfl, y1, rfl⟩
  go_wp2_with fail
  go_at_call 11; refine (HX.out _).mono ?_; rintro e w' ⟨rfl, y2, rfl⟩
  go_wp2
  go_ret
  exact Ret.of (by (repeat (first | exact grow_refl _ | refine grow_ext _ ?_ | refine grow_alloc _ ?_ | refine grow_drew ?_)))

set_option maxRecDepth 100000 in
set_option maxHeartbeats 8000000 in
theorem lawChk_4 (q : Mb) (l : List Br) (rs : List Rn) (v u : Value) (a x : Int) (h4 : smallB q.l.length q.m.length 4 = true) (hn : q.name.size ≤ 60) (hv : laidB l rs = true) (hx : inI x (-1048576) 1048576 = true) (ha : inI a 1 100 = false) (hb : memB q = false) (w : World) (hq : MbAt w q) (hl : Bars w v l) (hr : Runs w u rs) :
    Calls Tryz.prog 4 #[(.agg #[.string q.name, q.u, q.t, .int .i64 q.cover, .int .i64 q.agg, .int .i64 q.poker]), v, u, .int .i64 a, .int .i64 x] w (Ret w (.bool true)) := by
  have HL := Lib.hid hl
  have HR := Lib.hid hr
  have HQ := Lib.hid hq
  obtain ⟨ua, uc, eu, -, -, -⟩ := hq.boxes.shape
  obtain ⟨ta, tc, et, -, -, -⟩ := hq.holes.shape
  have HS4 := Lib.hid (fun w hl hm => refSmall_v q.l q.m q.u q.t 4 true h4 w hl hm)
  have dn : decide ((60 : Int) < (q.name.size : Int)) = false := by simp; omega
  have hce := ce_ok hv hx
  have HK := Lib.hid (fun w hl hr => (gCheck_c l rs v u a x w hl hr).mono fun e W h => by rw [show checkE l rs a x = ([], 2) by unfold checkE; rw [hce, if_pos rfl, ha]; rfl] at h; exact fds_none h)
  have HSH := Lib.hid (fun w hq hl hr => share_v q l rs v u x (.agg #[.int .i64 0, .int .i64 0]) 1 (by unfold shareE; rw [hb]; rfl) w hq hl hr)
  have HM := Lib.hid (fun w hl hm => refMember_v q.name q.l q.m q.u q.t q.cover q.agg q.poker false hb hq.name w hl hm)
  have HV := Lib.hid hv
  have HX := Lib.hid (fun w => refIsLen_v x true (lenX hx) w)
  have HAG := Lib.hid (fun w => refAgg21_v a false ha w)
  obtain ⟨name, bl, ml, bu, bt, cover, agg, poker⟩ := q
  simp only at eu et HS4 dn HSH HM
  subst eu et
  clear hq hl hr h4 hn hv hx ha hb hce
  go_enter Tryz.func4, Tryz.ntmps4
  go_wp2_with fail
  go_at_call 6; refine (awake21_c _).mono ?_; rintro e w' ⟨rfl, x0, rfl⟩
  go_wp2_with fail
  go_at_call 7; refine (small21g_c l rs v u _ (HL.out.below (by (repeat (first | exact grow_refl _ | refine grow_ext _ ?_ | refine grow_alloc _ ?_ | refine grow_drew ?_)))) (HR.out.below (by (repeat (first | exact grow_refl _ | refine grow_ext _ ?_ | refine grow_alloc _ ?_ | refine grow_drew ?_))))).mono ?_; rintro e w' ⟨q0, rfl, x1, rfl⟩
  cases q0
  · go_wp2
    go_ret
    exact Ret.of (by (repeat (first | exact grow_refl _ | refine grow_ext _ ?_ | refine grow_alloc _ ?_ | refine grow_drew ?_)))
  go_wp2_with fail
  go_at_call 14; refine (HS4.out _ (HQ.out.boxes.below (by (repeat (first | exact grow_refl _ | refine grow_ext _ ?_ | refine grow_alloc _ ?_ | refine grow_drew ?_)))) (HQ.out.holes.below (by (repeat (first | exact grow_refl _ | refine grow_ext _ ?_ | refine grow_alloc _ ?_ | refine grow_drew ?_))))).mono ?_; rintro e w' ⟨rfl, x2, rfl⟩
  go_wp2_with fail
  go_at_call 15; refine (HK.out _ (HL.out.below (by (repeat (first | exact grow_refl _ | refine grow_ext _ ?_ | refine grow_alloc _ ?_ | refine grow_drew ?_)))) (HR.out.below (by (repeat (first | exact grow_refl _ | refine grow_ext _ ?_ | refine grow_alloc _ ?_ | refine grow_drew ?_))))).mono ?_; rintro e w' ⟨a9, c9, rfl, k9, x3, rfl⟩
  go_wp2_with fail
  go_at_call 16; refine (HSH.out _ (HQ.out.below (by (repeat (first | exact grow_refl _ | refine grow_ext _ ?_ | refine grow_alloc _ ?_ | refine grow_drew ?_)))) (HL.out.below (by (repeat (first | exact grow_refl _ | refine grow_ext _ ?_ | refine grow_alloc _ ?_ | refine grow_drew ?_)))) (HR.out.below (by (repeat (first | exact grow_refl _ | refine grow_ext _ ?_ | refine grow_alloc _ ?_ | refine grow_drew ?_))))).mono ?_; rintro e w' ⟨rfl, x4, rfl⟩
  go_wp2_with fail
  go_at_call 10; refine (refLaid_v l rs v u true HV.out _ (HL.out.below (by (repeat (first | exact grow_refl _ | refine grow_ext _ ?_ | refine grow_alloc _ ?_ | refine grow_drew ?_)))) (HR.out.below (by (repeat (first | exact grow_refl _ | refine grow_ext _ ?_ | refine grow_alloc _ ?_ | refine grow_drew ?_))))).mono ?_; rintro e w' ⟨rfl, x5, rfl⟩
  go_wp2_with fail
  go_at_call 11; refine (HX.out _).mono ?_; rintro e w' ⟨rfl, x6, rfl⟩
  go_wp2_with fail
  go_at_call 17; refine (HAG.out _).mono ?_; rintro e w' ⟨rfl, x7, rfl⟩
  go_wp2_with fail
  go_at_call 20; refine (HM.out _ (HQ.out.boxes.below (by (repeat (first | exact grow_refl _ | refine grow_ext _ ?_ | refine grow_alloc _ ?_ | refine grow_drew ?_)))) (HQ.out.holes.below (by (repeat (first | exact grow_refl _ | refine grow_ext _ ?_ | refine grow_alloc _ ?_ | refine grow_drew ?_))))).mono ?_; rintro e w' ⟨rfl, y1, rfl⟩
  go_wp2
  go_ret
  exact Ret.of (by (repeat (first | exact grow_refl _ | refine grow_ext _ ?_ | refine grow_alloc _ ?_ | refine grow_drew ?_)))

set_option maxRecDepth 100000 in
set_option maxHeartbeats 8000000 in
theorem lawChk_5 (q : Mb) (l : List Br) (rs : List Rn) (v u : Value) (a x : Int) (h4 : smallB q.l.length q.m.length 4 = true) (hn : q.name.size ≤ 60) (hv : laidB l rs = true) (hx : inI x (-1048576) 1048576 = true) (ha : inI a 1 100 = false) (hb : memB q = true) (h0 : sectI q.l q.m x = 0) (w : World) (hq : MbAt w q) (hl : Bars w v l) (hr : Runs w u rs) :
    Calls Tryz.prog 4 #[(.agg #[.string q.name, q.u, q.t, .int .i64 q.cover, .int .i64 q.agg, .int .i64 q.poker]), v, u, .int .i64 a, .int .i64 x] w (Ret w (.bool true)) := by
  have HL := Lib.hid hl
  have HR := Lib.hid hr
  have HQ := Lib.hid hq
  obtain ⟨ua, uc, eu, -, -, -⟩ := hq.boxes.shape
  obtain ⟨ta, tc, et, -, -, -⟩ := hq.holes.shape
  have HS4 := Lib.hid (fun w hl hm => refSmall_v q.l q.m q.u q.t 4 true h4 w hl hm)
  have dn : decide ((60 : Int) < (q.name.size : Int)) = false := by simp; omega
  have hce := ce_ok hv hx
  have HK := Lib.hid (fun w hl hr => (gCheck_c l rs v u a x w hl hr).mono fun e W h => by rw [show checkE l rs a x = ([], 2) by unfold checkE; rw [hce, if_pos rfl, ha]; rfl] at h; exact fds_none h)
  have HSH := Lib.hid (fun w hq hl hr => share_v q l rs v u x (.agg #[.int .i64 0, .int .i64 0]) 16 (by unfold shareE; rw [hb, if_pos rfl, hce, if_pos rfl, if_pos h0]; rfl) w hq hl hr)
  have hsol := (member_iff.1 hb).2.1
  have HRS := Lib.hid (fun w hl hm => refSection_c q.l q.m q.u q.t x hsol w hl hm)
  rw [h0] at HRS
  have HM := Lib.hid (fun w hl hm => refMember_v q.name q.l q.m q.u q.t q.cover q.agg q.poker true hb hq.name w hl hm)
  have HV := Lib.hid hv
  have HX := Lib.hid (fun w => refIsLen_v x true (lenX hx) w)
  have HAG := Lib.hid (fun w => refAgg21_v a false ha w)
  obtain ⟨name, bl, ml, bu, bt, cover, agg, poker⟩ := q
  simp only at eu et HS4 dn HSH HRS HM
  subst eu et
  clear hq hl hr h4 hn hv hx ha hb h0 hce hsol
  go_enter Tryz.func4, Tryz.ntmps4
  go_wp2_with fail
  go_at_call 6; refine (awake21_c _).mono ?_; rintro e w' ⟨rfl, x0, rfl⟩
  go_wp2_with fail
  go_at_call 7; refine (small21g_c l rs v u _ (HL.out.below (by (repeat (first | exact grow_refl _ | refine grow_ext _ ?_ | refine grow_alloc _ ?_ | refine grow_drew ?_)))) (HR.out.below (by (repeat (first | exact grow_refl _ | refine grow_ext _ ?_ | refine grow_alloc _ ?_ | refine grow_drew ?_))))).mono ?_; rintro e w' ⟨q0, rfl, x1, rfl⟩
  cases q0
  · go_wp2
    go_ret
    exact Ret.of (by (repeat (first | exact grow_refl _ | refine grow_ext _ ?_ | refine grow_alloc _ ?_ | refine grow_drew ?_)))
  go_wp2_with fail
  go_at_call 14; refine (HS4.out _ (HQ.out.boxes.below (by (repeat (first | exact grow_refl _ | refine grow_ext _ ?_ | refine grow_alloc _ ?_ | refine grow_drew ?_)))) (HQ.out.holes.below (by (repeat (first | exact grow_refl _ | refine grow_ext _ ?_ | refine grow_alloc _ ?_ | refine grow_drew ?_))))).mono ?_; rintro e w' ⟨rfl, x2, rfl⟩
  go_wp2_with fail
  go_at_call 15; refine (HK.out _ (HL.out.below (by (repeat (first | exact grow_refl _ | refine grow_ext _ ?_ | refine grow_alloc _ ?_ | refine grow_drew ?_)))) (HR.out.below (by (repeat (first | exact grow_refl _ | refine grow_ext _ ?_ | refine grow_alloc _ ?_ | refine grow_drew ?_))))).mono ?_; rintro e w' ⟨a9, c9, rfl, k9, x3, rfl⟩
  go_wp2_with fail
  go_at_call 16; refine (HSH.out _ (HQ.out.below (by (repeat (first | exact grow_refl _ | refine grow_ext _ ?_ | refine grow_alloc _ ?_ | refine grow_drew ?_)))) (HL.out.below (by (repeat (first | exact grow_refl _ | refine grow_ext _ ?_ | refine grow_alloc _ ?_ | refine grow_drew ?_)))) (HR.out.below (by (repeat (first | exact grow_refl _ | refine grow_ext _ ?_ | refine grow_alloc _ ?_ | refine grow_drew ?_))))).mono ?_; rintro e w' ⟨rfl, x4, rfl⟩
  go_wp2_with fail
  go_at_call 10; refine (refLaid_v l rs v u true HV.out _ (HL.out.below (by (repeat (first | exact grow_refl _ | refine grow_ext _ ?_ | refine grow_alloc _ ?_ | refine grow_drew ?_)))) (HR.out.below (by (repeat (first | exact grow_refl _ | refine grow_ext _ ?_ | refine grow_alloc _ ?_ | refine grow_drew ?_))))).mono ?_; rintro e w' ⟨rfl, x5, rfl⟩
  go_wp2_with fail
  go_at_call 11; refine (HX.out _).mono ?_; rintro e w' ⟨rfl, x6, rfl⟩
  go_wp2_with fail
  go_at_call 17; refine (HAG.out _).mono ?_; rintro e w' ⟨rfl, x7, rfl⟩
  go_wp2_with fail
  go_at_call 20; refine (HM.out _ (HQ.out.boxes.below (by (repeat (first | exact grow_refl _ | refine grow_ext _ ?_ | refine grow_alloc _ ?_ | refine grow_drew ?_)))) (HQ.out.holes.below (by (repeat (first | exact grow_refl _ | refine grow_ext _ ?_ | refine grow_alloc _ ?_ | refine grow_drew ?_))))).mono ?_; rintro e w' ⟨rfl, y1, rfl⟩
  go_wp2_with fail
  go_at_call 11; refine (HX.out _).mono ?_; rintro e w' ⟨rfl, y2, rfl⟩
  go_wp2_with fail
  go_at_call 21; refine (HRS.out _ (HQ.out.boxes.below (by (repeat (first | exact grow_refl _ | refine grow_ext _ ?_ | refine grow_alloc _ ?_ | refine grow_drew ?_)))) (HQ.out.holes.below (by (repeat (first | exact grow_refl _ | refine grow_ext _ ?_ | refine grow_alloc _ ?_ | refine grow_drew ?_))))).mono ?_; rintro e w' ⟨rfl, y3, rfl⟩
  go_wp2
  go_ret
  exact Ret.of (by (repeat (first | exact grow_refl _ | refine grow_ext _ ?_ | refine grow_alloc _ ?_ | refine grow_drew ?_)))

set_option maxRecDepth 100000 in
set_option maxHeartbeats 8000000 in
theorem lawChk_6 (q : Mb) (l : List Br) (rs : List Rn) (v u : Value) (a x : Int) (h4 : smallB q.l.length q.m.length 4 = true) (hn : q.name.size ≤ 60) (hv : laidB l rs = true) (hx : inI x (-1048576) 1048576 = true) (ha : inI a 1 100 = false) (hb : memB q = true) (h0 : ¬ sectI q.l q.m x = 0) (w : World) (hq : MbAt w q) (hl : Bars w v l) (hr : Runs w u rs) :
    Calls Tryz.prog 4 #[(.agg #[.string q.name, q.u, q.t, .int .i64 q.cover, .int .i64 q.agg, .int .i64 q.poker]), v, u, .int .i64 a, .int .i64 x] w (Ret w (.bool true)) := by
  have HL := Lib.hid hl
  have HR := Lib.hid hr
  have HQ := Lib.hid hq
  obtain ⟨ua, uc, eu, -, -, -⟩ := hq.boxes.shape
  obtain ⟨ta, tc, et, -, -, -⟩ := hq.holes.shape
  have HS4 := Lib.hid (fun w hl hm => refSmall_v q.l q.m q.u q.t 4 true h4 w hl hm)
  have dn : decide ((60 : Int) < (q.name.size : Int)) = false := by simp; omega
  have hce := ce_ok hv hx
  have HK := Lib.hid (fun w hl hr => (gCheck_c l rs v u a x w hl hr).mono fun e W h => by rw [show checkE l rs a x = ([], 2) by unfold checkE; rw [hce, if_pos rfl, ha]; rfl] at h; exact fds_none h)
  have hsol := (member_iff.1 hb).2.1
  have HRS := Lib.hid (fun w hl hm => refSection_c q.l q.m q.u q.t x hsol w hl hm)
  have hst : 0 ≤ steelI (cutsI l rs x) ∧ steelI (cutsI l rs x) ≤ 1560000000 := by
    have ok := rcOk hv hx
    have := steelT_range ok.sz (cutsI l rs x).length (Nat.le_refl _)
    rw [steelT_all] at this
    have := ok.len; have := ok.most; omega
  have hsi := solid_iff.1 hsol
  have hne : q.l ≠ [] := by intro e; rw [e] at hsi; simp at hsi
  have hsr := sect_bound (m := q.m) hsi.2.2.1 hne x
  obtain ⟨A, hA⟩ : ∃ A : Nat, steelI (cutsI l rs x) = (A : Int) := ⟨(steelI (cutsI l rs x)).toNat, by omega⟩
  obtain ⟨S, hS⟩ : ∃ S : Nat, sectI q.l q.m x = (S : Int) := ⟨(sectI q.l q.m x).toNat, by omega⟩
  obtain ⟨D, hD⟩ : ∃ D, 100 * S = D := ⟨_, rfl⟩
  obtain ⟨f1, f2, hF⟩ : ∃ f1 f2 : Int, fracV A D = .agg #[.int .i64 f1, .int .i64 f2] := ⟨_, _, rfl⟩
  have HSH := Lib.hid (fun w hq hl hr => share_v q l rs v u x (.agg #[.int .i64 f1, .int .i64 f2]) 0 (by
    unfold shareE; rw [hb, if_pos rfl, hce, if_pos rfl, if_neg h0]
    rw [hA, hS, ← hF, ← hD, show ((A : Int)).toNat = A by simp, show (100 * (S : Int)).toNat = 100 * S by omega]) w hq hl hr)
  have HRT := Lib.hid (fun w hl hr => refSteel21_c l rs v u x hv hx w hl hr)
  rw [hA] at HRT hst
  rw [hS] at HRS hsr h0
  have HMK := Lib.hid (fun w => refMake_c A D (by omega) (by omega) (by omega) w)
  rw [hF] at HMK
  have d0 : ((S : Int) == 0) = false := by simpa using h0
  have hw1 : wrap64 (100 * (S : Int)) = (D : Int) := by rw [IntWalk.wrap64_in _ (by omega)]; omega
  have HM := Lib.hid (fun w hl hm => refMember_v q.name q.l q.m q.u q.t q.cover q.agg q.poker true hb hq.name w hl hm)
  have HV := Lib.hid hv
  have HX := Lib.hid (fun w => refIsLen_v x true (lenX hx) w)
  have HAG := Lib.hid (fun w => refAgg21_v a false ha w)
  obtain ⟨name, bl, ml, bu, bt, cover, agg, poker⟩ := q
  simp only at eu et HS4 dn HSH HRS hS HM
  subst eu et
  clear hq hl hr h4 hn hv hx ha hb h0 hce hsol hsi hne hA hS hF hst hsr hD
  go_enter Tryz.func4, Tryz.ntmps4
  go_wp2_with fail
  go_at_call 6; refine (awake21_c _).mono ?_; rintro e w' ⟨rfl, x0, rfl⟩
  go_wp2_with fail
  go_at_call 7; refine (small21g_c l rs v u _ (HL.out.below (by (repeat (first | exact grow_refl _ | refine grow_ext _ ?_ | refine grow_alloc _ ?_ | refine grow_drew ?_)))) (HR.out.below (by (repeat (first | exact grow_refl _ | refine grow_ext _ ?_ | refine grow_alloc _ ?_ | refine grow_drew ?_))))).mono ?_; rintro e w' ⟨q0, rfl, x1, rfl⟩
  cases q0
  · go_wp2
    go_ret
    exact Ret.of (by (repeat (first | exact grow_refl _ | refine grow_ext _ ?_ | refine grow_alloc _ ?_ | refine grow_drew ?_)))
  go_wp2_with fail
  go_at_call 14; refine (HS4.out _ (HQ.out.boxes.below (by (repeat (first | exact grow_refl _ | refine grow_ext _ ?_ | refine grow_alloc _ ?_ | refine grow_drew ?_)))) (HQ.out.holes.below (by (repeat (first | exact grow_refl _ | refine grow_ext _ ?_ | refine grow_alloc _ ?_ | refine grow_drew ?_))))).mono ?_; rintro e w' ⟨rfl, x2, rfl⟩
  go_wp2_with fail
  go_at_call 15; refine (HK.out _ (HL.out.below (by (repeat (first | exact grow_refl _ | refine grow_ext _ ?_ | refine grow_alloc _ ?_ | refine grow_drew ?_)))) (HR.out.below (by (repeat (first | exact grow_refl _ | refine grow_ext _ ?_ | refine grow_alloc _ ?_ | refine grow_drew ?_))))).mono ?_; rintro e w' ⟨a9, c9, rfl, k9, x3, rfl⟩
  go_wp2_with fail
  go_at_call 16; refine (HSH.out _ (HQ.out.below (by (repeat (first | exact grow_refl _ | refine grow_ext _ ?_ | refine grow_alloc _ ?_ | refine grow_drew ?_)))) (HL.out.below (by (repeat (first | exact grow_refl _ | refine grow_ext _ ?_ | refine grow_alloc _ ?_ | refine grow_drew ?_)))) (HR.out.below (by (repeat (first | exact grow_refl _ | refine grow_ext _ ?_ | refine grow_alloc _ ?_ | refine grow_drew ?_))))).mono ?_; rintro e w' ⟨rfl, x4, rfl⟩
  go_wp2_with fail
  go_at_call 10; refine (refLaid_v l rs v u true HV.out _ (HL.out.below (by (repeat (first | exact grow_refl _ | refine grow_ext _ ?_ | refine grow_alloc _ ?_ | refine grow_drew ?_)))) (HR.out.below (by (repeat (first | exact grow_refl _ | refine grow_ext _ ?_ | refine grow_alloc _ ?_ | refine grow_drew ?_))))).mono ?_; rintro e w' ⟨rfl, x5, rfl⟩
  go_wp2_with fail
  go_at_call 11; refine (HX.out _).mono ?_; rintro e w' ⟨rfl, x6, rfl⟩
  go_wp2_with fail
  go_at_call 17; refine (HAG.out _).mono ?_; rintro e w' ⟨rfl, x7, rfl⟩
  go_wp2_with fail
  go_at_call 20; refine (HM.out _ (HQ.out.boxes.below (by (repeat (first | exact grow_refl _ | refine grow_ext _ ?_ | refine grow_alloc _ ?_ | refine grow_drew ?_)))) (HQ.out.holes.below (by (repeat (first | exact grow_refl _ | refine grow_ext _ ?_ | refine grow_alloc _ ?_ | refine grow_drew ?_))))).mono ?_; rintro e w' ⟨rfl, y1, rfl⟩
  go_wp2_with fail
  go_at_call 11; refine (HX.out _).mono ?_; rintro e w' ⟨rfl, y2, rfl⟩
  go_wp2_with fail
  go_at_call 21; refine (HRS.out _ (HQ.out.boxes.below (by (repeat (first | exact grow_refl _ | refine grow_ext _ ?_ | refine grow_alloc _ ?_ | refine grow_drew ?_)))) (HQ.out.holes.below (by (repeat (first | exact grow_refl _ | refine grow_ext _ ?_ | refine grow_alloc _ ?_ | refine grow_drew ?_))))).mono ?_; rintro e w' ⟨rfl, y3, rfl⟩
  go_wp2_with fail
  go_at_call 23; refine (HRT.out _ (HL.out.below (by (repeat (first | exact grow_refl _ | refine grow_ext _ ?_ | refine grow_alloc _ ?_ | refine grow_drew ?_)))) (HR.out.below (by (repeat (first | exact grow_refl _ | refine grow_ext _ ?_ | refine grow_alloc _ ?_ | refine grow_drew ?_))))).mono ?_; rintro e w' ⟨rfl, y4, rfl⟩
  go_wp2_with fail
  go_at_call 22; refine (HMK.out _).mono ?_; rintro e w' ⟨rfl, y5, rfl⟩
  go_wp2
  go_ret
  exact Ret.of (by (repeat (first | exact grow_refl _ | refine grow_ext _ ?_ | refine grow_alloc _ ?_ | refine grow_drew ?_)))

set_option maxRecDepth 100000 in
set_option maxHeartbeats 8000000 in
theorem lawChk_7 (q : Mb) (l : List Br) (rs : List Rn) (v u : Value) (a x : Int) (h4 : smallB q.l.length q.m.length 4 = true) (hn : q.name.size ≤ 60) (hv : laidB l rs = true) (hx : inI x (-1048576) 1048576 = true) (ha : inI a 1 100 = true) (hb : memB q = false) (w : World) (hq : MbAt w q) (hl : Bars w v l) (hr : Runs w u rs) :
    Calls Tryz.prog 4 #[(.agg #[.string q.name, q.u, q.t, .int .i64 q.cover, .int .i64 q.agg, .int .i64 q.poker]), v, u, .int .i64 a, .int .i64 x] w (Ret w (.bool true)) := by
  have HL := Lib.hid hl
  have HR := Lib.hid hr
  have HQ := Lib.hid hq
  obtain ⟨ua, uc, eu, -, -, -⟩ := hq.boxes.shape
  obtain ⟨ta, tc, et, -, -, -⟩ := hq.holes.shape
  have HS4 := Lib.hid (fun w hl hm => refSmall_v q.l q.m q.u q.t 4 true h4 w hl hm)
  have dn : decide ((60 : Int) < (q.name.size : Int)) = false := by simp; omega
  have hce := ce_ok hv hx
  have HK := Lib.hid (fun w hl hr => gCheck_c l rs v u a x w hl hr)
  rw [show checkE l rs a x = (checkI (cutsI l rs x) a, 0) by unfold checkE; rw [hce, if_pos rfl, if_pos ha]] at HK
  have har : 1 ≤ a ∧ a ≤ 100 := by unfold inI at ha; simpa using ha
  have HRK := Lib.hid (fun w hl hr => refCheck21_c l rs v u a x hv hx har w hl hr)
  have HEQ := Lib.hid (fun v v' w h1 h2 => equalFds_c (checkI (cutsI l rs x) a) v v' w h1 h2)
  have HSH := Lib.hid (fun w hq hl hr => share_v q l rs v u x (.agg #[.int .i64 0, .int .i64 0]) 1 (by unfold shareE; rw [hb]; rfl) w hq hl hr)
  have HM := Lib.hid (fun w hl hm => refMember_v q.name q.l q.m q.u q.t q.cover q.agg q.poker false hb hq.name w hl hm)
  have HV := Lib.hid hv
  have HX := Lib.hid (fun w => refIsLen_v x true (lenX hx) w)
  have HAG := Lib.hid (fun w => refAgg21_v a true ha w)
  obtain ⟨name, bl, ml, bu, bt, cover, agg, poker⟩ := q
  simp only at eu et HS4 dn HSH HM
  subst eu et
  clear hq hl hr h4 hn hv hx ha hb hce
  go_enter Tryz.func4, Tryz.ntmps4
  go_wp2_with fail
  go_at_call 6; refine (awake21_c _).mono ?_; rintro e w' ⟨rfl, x0, rfl⟩
  go_wp2_with fail
  go_at_call 7; refine (small21g_c l rs v u _ (HL.out.below (by (repeat (first | exact grow_refl _ | refine grow_ext _ ?_ | refine grow_alloc _ ?_ | refine grow_drew ?_)))) (HR.out.below (by (repeat (first | exact grow_refl _ | refine grow_ext _ ?_ | refine grow_alloc _ ?_ | refine grow_drew ?_))))).mono ?_; rintro e w' ⟨q0, rfl, x1, rfl⟩
  cases q0
  · go_wp2
    go_ret
    exact Ret.of (by (repeat (first | exact grow_refl _ | refine grow_ext _ ?_ | refine grow_alloc _ ?_ | refine grow_drew ?_)))
  go_wp2_with fail
  go_at_call 14; refine (HS4.out _ (HQ.out.boxes.below (by (repeat (first | exact grow_refl _ | refine grow_ext _ ?_ | refine grow_alloc _ ?_ | refine grow_drew ?_)))) (HQ.out.holes.below (by (repeat (first | exact grow_refl _ | refine grow_ext _ ?_ | refine grow_alloc _ ?_ | refine grow_drew ?_))))).mono ?_; rintro e w' ⟨rfl, x2, rfl⟩
  go_wp2_with fail
  go_at_call 15; refine (HK.out _ (HL.out.below (by (repeat (first | exact grow_refl _ | refine grow_ext _ ?_ | refine grow_alloc _ ?_ | refine grow_drew ?_)))) (HR.out.below (by (repeat (first | exact grow_refl _ | refine grow_ext _ ?_ | refine grow_alloc _ ?_ | refine grow_drew ?_))))).mono ?_; rintro e w' ⟨v9, rfl, ho9, x3, rfl⟩
  have HO9 := Lib.hid (Fds.of_own ho9)
  obtain ⟨a9, c9, rfl, k9, m9, -⟩ := own_shape ho9
  clear ho9
  go_wp2_with fail
  go_at_call 16; refine (HSH.out _ (HQ.out.below (by (repeat (first | exact grow_refl _ | refine grow_ext _ ?_ | refine grow_alloc _ ?_ | refine grow_drew ?_)))) (HL.out.below (by (repeat (first | exact grow_refl _ | refine grow_ext _ ?_ | refine grow_alloc _ ?_ | refine grow_drew ?_)))) (HR.out.below (by (repeat (first | exact grow_refl _ | refine grow_ext _ ?_ | refine grow_alloc _ ?_ | refine grow_drew ?_))))).mono ?_; rintro e w' ⟨rfl, x4, rfl⟩
  go_wp2_with fail
  go_at_call 10; refine (refLaid_v l rs v u true HV.out _ (HL.out.below (by (repeat (first | exact grow_refl _ | refine grow_ext _ ?_ | refine grow_alloc _ ?_ | refine grow_drew ?_)))) (HR.out.below (by (repeat (first | exact grow_refl _ | refine grow_ext _ ?_ | refine grow_alloc _ ?_ | refine grow_drew ?_))))).mono ?_; rintro e w' ⟨rfl, x5, rfl⟩
  go_wp2_with fail
  go_at_call 11; refine (HX.out _).mono ?_; rintro e w' ⟨rfl, x6, rfl⟩
  go_wp2_with fail
  go_at_call 17; refine (HAG.out _).mono ?_; rintro e w' ⟨rfl, x7, rfl⟩
  go_wp2_with fail
  go_at_call 19; refine (HRK.out _ (HL.out.below (by (repeat (first | exact grow_refl _ | refine grow_ext _ ?_ | refine grow_alloc _ ?_ | refine grow_drew ?_)))) (HR.out.below (by (repeat (first | exact grow_refl _ | refine grow_ext _ ?_ | refine grow_alloc _ ?_ | refine grow_drew ?_))))).mono ?_; rintro e w' ⟨v8, rfl, ho8, x8, rfl⟩
  have HO8 := Lib.hid (Fds.of_own ho8)
  obtain ⟨a8, c8, rfl, k8, m8, -⟩ := own_shape ho8
  clear ho8
  go_wp2_with fail
  go_at_call 18; refine (HEQ.out _ _ _ (HO9.out.below (by (repeat (first | exact grow_refl _ | refine grow_ext _ ?_ | refine grow_alloc _ ?_ | refine grow_drew ?_)))) (HO8.out.below (by (repeat (first | exact grow_refl _ | refine grow_ext _ ?_ | refine grow_alloc _ ?_ | refine grow_drew ?_))))).mono ?_; rintro e w' ⟨rfl, x9, rfl⟩
  go_wp2_with fail
  go_at_call 20; refine (HM.out _ (HQ.out.boxes.below (by (repeat (first | exact grow_refl _ | refine grow_ext _ ?_ | refine grow_alloc _ ?_ | refine grow_drew ?_)))) (HQ.out.holes.below (by (repeat (first | exact grow_refl _ | refine grow_ext _ ?_ | refine grow_alloc _ ?_ | refine grow_drew ?_))))).mono ?_; rintro e w' ⟨rfl, y1, rfl⟩
  go_wp2
  go_ret
  exact Ret.of (by (repeat (first | exact grow_refl _ | refine grow_ext _ ?_ | refine grow_alloc _ ?_ | refine grow_drew ?_)))

set_option maxRecDepth 100000 in
set_option maxHeartbeats 8000000 in
theorem lawChk_8 (q : Mb) (l : List Br) (rs : List Rn) (v u : Value) (a x : Int) (h4 : smallB q.l.length q.m.length 4 = true) (hn : q.name.size ≤ 60) (hv : laidB l rs = true) (hx : inI x (-1048576) 1048576 = true) (ha : inI a 1 100 = true) (hb : memB q = true) (h0 : sectI q.l q.m x = 0) (w : World) (hq : MbAt w q) (hl : Bars w v l) (hr : Runs w u rs) :
    Calls Tryz.prog 4 #[(.agg #[.string q.name, q.u, q.t, .int .i64 q.cover, .int .i64 q.agg, .int .i64 q.poker]), v, u, .int .i64 a, .int .i64 x] w (Ret w (.bool true)) := by
  have HL := Lib.hid hl
  have HR := Lib.hid hr
  have HQ := Lib.hid hq
  obtain ⟨ua, uc, eu, -, -, -⟩ := hq.boxes.shape
  obtain ⟨ta, tc, et, -, -, -⟩ := hq.holes.shape
  have HS4 := Lib.hid (fun w hl hm => refSmall_v q.l q.m q.u q.t 4 true h4 w hl hm)
  have dn : decide ((60 : Int) < (q.name.size : Int)) = false := by simp; omega
  have hce := ce_ok hv hx
  have HK := Lib.hid (fun w hl hr => gCheck_c l rs v u a x w hl hr)
  rw [show checkE l rs a x = (checkI (cutsI l rs x) a, 0) by unfold checkE; rw [hce, if_pos rfl, if_pos ha]] at HK
  have har : 1 ≤ a ∧ a ≤ 100 := by unfold inI at ha; simpa using ha
  have HRK := Lib.hid (fun w hl hr => refCheck21_c l rs v u a x hv hx har w hl hr)
  have HEQ := Lib.hid (fun v v' w h1 h2 => equalFds_c (checkI (cutsI l rs x) a) v v' w h1 h2)
  have HSH := Lib.hid (fun w hq hl hr => share_v q l rs v u x (.agg #[.int .i64 0, .int .i64 0]) 16 (by unfold shareE; rw [hb, if_pos rfl, hce, if_pos rfl, if_pos h0]; rfl) w hq hl hr)
  have hsol := (member_iff.1 hb).2.1
  have HRS := Lib.hid (fun w hl hm => refSection_c q.l q.m q.u q.t x hsol w hl hm)
  rw [h0] at HRS
  have HM := Lib.hid (fun w hl hm => refMember_v q.name q.l q.m q.u q.t q.cover q.agg q.poker true hb hq.name w hl hm)
  have HV := Lib.hid hv
  have HX := Lib.hid (fun w => refIsLen_v x true (lenX hx) w)
  have HAG := Lib.hid (fun w => refAgg21_v a true ha w)
  obtain ⟨name, bl, ml, bu, bt, cover, agg, poker⟩ := q
  simp only at eu et HS4 dn HSH HRS HM
  subst eu et
  clear hq hl hr h4 hn hv hx ha hb h0 hce hsol
  go_enter Tryz.func4, Tryz.ntmps4
  go_wp2_with fail
  go_at_call 6; refine (awake21_c _).mono ?_; rintro e w' ⟨rfl, x0, rfl⟩
  go_wp2_with fail
  go_at_call 7; refine (small21g_c l rs v u _ (HL.out.below (by (repeat (first | exact grow_refl _ | refine grow_ext _ ?_ | refine grow_alloc _ ?_ | refine grow_drew ?_)))) (HR.out.below (by (repeat (first | exact grow_refl _ | refine grow_ext _ ?_ | refine grow_alloc _ ?_ | refine grow_drew ?_))))).mono ?_; rintro e w' ⟨q0, rfl, x1, rfl⟩
  cases q0
  · go_wp2
    go_ret
    exact Ret.of (by (repeat (first | exact grow_refl _ | refine grow_ext _ ?_ | refine grow_alloc _ ?_ | refine grow_drew ?_)))
  go_wp2_with fail
  go_at_call 14; refine (HS4.out _ (HQ.out.boxes.below (by (repeat (first | exact grow_refl _ | refine grow_ext _ ?_ | refine grow_alloc _ ?_ | refine grow_drew ?_)))) (HQ.out.holes.below (by (repeat (first | exact grow_refl _ | refine grow_ext _ ?_ | refine grow_alloc _ ?_ | refine grow_drew ?_))))).mono ?_; rintro e w' ⟨rfl, x2, rfl⟩
  go_wp2_with fail
  go_at_call 15; refine (HK.out _ (HL.out.below (by (repeat (first | exact grow_refl _ | refine grow_ext _ ?_ | refine grow_alloc _ ?_ | refine grow_drew ?_)))) (HR.out.below (by (repeat (first | exact grow_refl _ | refine grow_ext _ ?_ | refine grow_alloc _ ?_ | refine grow_drew ?_))))).mono ?_; rintro e w' ⟨v9, rfl, ho9, x3, rfl⟩
  have HO9 := Lib.hid (Fds.of_own ho9)
  obtain ⟨a9, c9, rfl, k9, m9, -⟩ := own_shape ho9
  clear ho9
  go_wp2_with fail
  go_at_call 16; refine (HSH.out _ (HQ.out.below (by (repeat (first | exact grow_refl _ | refine grow_ext _ ?_ | refine grow_alloc _ ?_ | refine grow_drew ?_)))) (HL.out.below (by (repeat (first | exact grow_refl _ | refine grow_ext _ ?_ | refine grow_alloc _ ?_ | refine grow_drew ?_)))) (HR.out.below (by (repeat (first | exact grow_refl _ | refine grow_ext _ ?_ | refine grow_alloc _ ?_ | refine grow_drew ?_))))).mono ?_; rintro e w' ⟨rfl, x4, rfl⟩
  go_wp2_with fail
  go_at_call 10; refine (refLaid_v l rs v u true HV.out _ (HL.out.below (by (repeat (first | exact grow_refl _ | refine grow_ext _ ?_ | refine grow_alloc _ ?_ | refine grow_drew ?_)))) (HR.out.below (by (repeat (first | exact grow_refl _ | refine grow_ext _ ?_ | refine grow_alloc _ ?_ | refine grow_drew ?_))))).mono ?_; rintro e w' ⟨rfl, x5, rfl⟩
  go_wp2_with fail
  go_at_call 11; refine (HX.out _).mono ?_; rintro e w' ⟨rfl, x6, rfl⟩
  go_wp2_with fail
  go_at_call 17; refine (HAG.out _).mono ?_; rintro e w' ⟨rfl, x7, rfl⟩
  go_wp2_with fail
  go_at_call 19; refine (HRK.out _ (HL.out.below (by (repeat (first | exact grow_refl _ | refine grow_ext _ ?_ | refine grow_alloc _ ?_ | refine grow_drew ?_)))) (HR.out.below (by (repeat (first | exact grow_refl _ | refine grow_ext _ ?_ | refine grow_alloc _ ?_ | refine grow_drew ?_))))).mono ?_; rintro e w' ⟨v8, rfl, ho8, x8, rfl⟩
  have HO8 := Lib.hid (Fds.of_own ho8)
  obtain ⟨a8, c8, rfl, k8, m8, -⟩ := own_shape ho8
  clear ho8
  go_wp2_with fail
  go_at_call 18; refine (HEQ.out _ _ _ (HO9.out.below (by (repeat (first | exact grow_refl _ | refine grow_ext _ ?_ | refine grow_alloc _ ?_ | refine grow_drew ?_)))) (HO8.out.below (by (repeat (first | exact grow_refl _ | refine grow_ext _ ?_ | refine grow_alloc _ ?_ | refine grow_drew ?_))))).mono ?_; rintro e w' ⟨rfl, x9, rfl⟩
  go_wp2_with fail
  go_at_call 20; refine (HM.out _ (HQ.out.boxes.below (by (repeat (first | exact grow_refl _ | refine grow_ext _ ?_ | refine grow_alloc _ ?_ | refine grow_drew ?_)))) (HQ.out.holes.below (by (repeat (first | exact grow_refl _ | refine grow_ext _ ?_ | refine grow_alloc _ ?_ | refine grow_drew ?_))))).mono ?_; rintro e w' ⟨rfl, y1, rfl⟩
  go_wp2_with fail
  go_at_call 11; refine (HX.out _).mono ?_; rintro e w' ⟨rfl, y2, rfl⟩
  go_wp2_with fail
  go_at_call 21; refine (HRS.out _ (HQ.out.boxes.below (by (repeat (first | exact grow_refl _ | refine grow_ext _ ?_ | refine grow_alloc _ ?_ | refine grow_drew ?_)))) (HQ.out.holes.below (by (repeat (first | exact grow_refl _ | refine grow_ext _ ?_ | refine grow_alloc _ ?_ | refine grow_drew ?_))))).mono ?_; rintro e w' ⟨rfl, y3, rfl⟩
  go_wp2
  go_ret
  exact Ret.of (by (repeat (first | exact grow_refl _ | refine grow_ext _ ?_ | refine grow_alloc _ ?_ | refine grow_drew ?_)))

set_option maxRecDepth 100000 in
set_option maxHeartbeats 8000000 in
theorem lawChk_9 (q : Mb) (l : List Br) (rs : List Rn) (v u : Value) (a x : Int) (h4 : smallB q.l.length q.m.length 4 = true) (hn : q.name.size ≤ 60) (hv : laidB l rs = true) (hx : inI x (-1048576) 1048576 = true) (ha : inI a 1 100 = true) (hb : memB q = true) (h0 : ¬ sectI q.l q.m x = 0) (w : World) (hq : MbAt w q) (hl : Bars w v l) (hr : Runs w u rs) :
    Calls Tryz.prog 4 #[(.agg #[.string q.name, q.u, q.t, .int .i64 q.cover, .int .i64 q.agg, .int .i64 q.poker]), v, u, .int .i64 a, .int .i64 x] w (Ret w (.bool true)) := by
  have HL := Lib.hid hl
  have HR := Lib.hid hr
  have HQ := Lib.hid hq
  obtain ⟨ua, uc, eu, -, -, -⟩ := hq.boxes.shape
  obtain ⟨ta, tc, et, -, -, -⟩ := hq.holes.shape
  have HS4 := Lib.hid (fun w hl hm => refSmall_v q.l q.m q.u q.t 4 true h4 w hl hm)
  have dn : decide ((60 : Int) < (q.name.size : Int)) = false := by simp; omega
  have hce := ce_ok hv hx
  have HK := Lib.hid (fun w hl hr => gCheck_c l rs v u a x w hl hr)
  rw [show checkE l rs a x = (checkI (cutsI l rs x) a, 0) by unfold checkE; rw [hce, if_pos rfl, if_pos ha]] at HK
  have har : 1 ≤ a ∧ a ≤ 100 := by unfold inI at ha; simpa using ha
  have HRK := Lib.hid (fun w hl hr => refCheck21_c l rs v u a x hv hx har w hl hr)
  have HEQ := Lib.hid (fun v v' w h1 h2 => equalFds_c (checkI (cutsI l rs x) a) v v' w h1 h2)
  have hsol := (member_iff.1 hb).2.1
  have HRS := Lib.hid (fun w hl hm => refSection_c q.l q.m q.u q.t x hsol w hl hm)
  have hst : 0 ≤ steelI (cutsI l rs x) ∧ steelI (cutsI l rs x) ≤ 1560000000 := by
    have ok := rcOk hv hx
    have := steelT_range ok.sz (cutsI l rs x).length (Nat.le_refl _)
    rw [steelT_all] at this
    have := ok.len; have := ok.most; omega
  have hsi := solid_iff.1 hsol
  have hne : q.l ≠ [] := by intro e; rw [e] at hsi; simp at hsi
  have hsr := sect_bound (m := q.m) hsi.2.2.1 hne x
  obtain ⟨A, hA⟩ : ∃ A : Nat, steelI (cutsI l rs x) = (A : Int) := ⟨(steelI (cutsI l rs x)).toNat, by omega⟩
  obtain ⟨S, hS⟩ : ∃ S : Nat, sectI q.l q.m x = (S : Int) := ⟨(sectI q.l q.m x).toNat, by omega⟩
  obtain ⟨D, hD⟩ : ∃ D, 100 * S = D := ⟨_, rfl⟩
  obtain ⟨f1, f2, hF⟩ : ∃ f1 f2 : Int, fracV A D = .agg #[.int .i64 f1, .int .i64 f2] := ⟨_, _, rfl⟩
  have HSH := Lib.hid (fun w hq hl hr => share_v q l rs v u x (.agg #[.int .i64 f1, .int .i64 f2]) 0 (by
    unfold shareE; rw [hb, if_pos rfl, hce, if_pos rfl, if_neg h0]
    rw [hA, hS, ← hF, ← hD, show ((A : Int)).toNat = A by simp, show (100 * (S : Int)).toNat = 100 * S by omega]) w hq hl hr)
  have HRT := Lib.hid (fun w hl hr => refSteel21_c l rs v u x hv hx w hl hr)
  rw [hA] at HRT hst
  rw [hS] at HRS hsr h0
  have HMK := Lib.hid (fun w => refMake_c A D (by omega) (by omega) (by omega) w)
  rw [hF] at HMK
  have d0 : ((S : Int) == 0) = false := by simpa using h0
  have hw1 : wrap64 (100 * (S : Int)) = (D : Int) := by rw [IntWalk.wrap64_in _ (by omega)]; omega
  have HM := Lib.hid (fun w hl hm => refMember_v q.name q.l q.m q.u q.t q.cover q.agg q.poker true hb hq.name w hl hm)
  have HV := Lib.hid hv
  have HX := Lib.hid (fun w => refIsLen_v x true (lenX hx) w)
  have HAG := Lib.hid (fun w => refAgg21_v a true ha w)
  obtain ⟨name, bl, ml, bu, bt, cover, agg, poker⟩ := q
  simp only at eu et HS4 dn HSH HRS hS HM
  subst eu et
  clear hq hl hr h4 hn hv hx ha hb h0 hce hsol hsi hne hA hS hF hst hsr hD
  go_enter Tryz.func4, Tryz.ntmps4
  go_wp2_with fail
  go_at_call 6; refine (awake21_c _).mono ?_; rintro e w' ⟨rfl, x0, rfl⟩
  go_wp2_with fail
  go_at_call 7; refine (small21g_c l rs v u _ (HL.out.below (by (repeat (first | exact grow_refl _ | refine grow_ext _ ?_ | refine grow_alloc _ ?_ | refine grow_drew ?_)))) (HR.out.below (by (repeat (first | exact grow_refl _ | refine grow_ext _ ?_ | refine grow_alloc _ ?_ | refine grow_drew ?_))))).mono ?_; rintro e w' ⟨q0, rfl, x1, rfl⟩
  cases q0
  · go_wp2
    go_ret
    exact Ret.of (by (repeat (first | exact grow_refl _ | refine grow_ext _ ?_ | refine grow_alloc _ ?_ | refine grow_drew ?_)))
  go_wp2_with fail
  go_at_call 14; refine (HS4.out _ (HQ.out.boxes.below (by (repeat (first | exact grow_refl _ | refine grow_ext _ ?_ | refine grow_alloc _ ?_ | refine grow_drew ?_)))) (HQ.out.holes.below (by (repeat (first | exact grow_refl _ | refine grow_ext _ ?_ | refine grow_alloc _ ?_ | refine grow_drew ?_))))).mono ?_; rintro e w' ⟨rfl, x2, rfl⟩
  go_wp2_with fail
  go_at_call 15; refine (HK.out _ (HL.out.below (by (repeat (first | exact grow_refl _ | refine grow_ext _ ?_ | refine grow_alloc _ ?_ | refine grow_drew ?_)))) (HR.out.below (by (repeat (first | exact grow_refl _ | refine grow_ext _ ?_ | refine grow_alloc _ ?_ | refine grow_drew ?_))))).mono ?_; rintro e w' ⟨v9, rfl, ho9, x3, rfl⟩
  have HO9 := Lib.hid (Fds.of_own ho9)
  obtain ⟨a9, c9, rfl, k9, m9, -⟩ := own_shape ho9
  clear ho9
  go_wp2_with fail
  go_at_call 16; refine (HSH.out _ (HQ.out.below (by (repeat (first | exact grow_refl _ | refine grow_ext _ ?_ | refine grow_alloc _ ?_ | refine grow_drew ?_)))) (HL.out.below (by (repeat (first | exact grow_refl _ | refine grow_ext _ ?_ | refine grow_alloc _ ?_ | refine grow_drew ?_)))) (HR.out.below (by (repeat (first | exact grow_refl _ | refine grow_ext _ ?_ | refine grow_alloc _ ?_ | refine grow_drew ?_))))).mono ?_; rintro e w' ⟨rfl, x4, rfl⟩
  go_wp2_with fail
  go_at_call 10; refine (refLaid_v l rs v u true HV.out _ (HL.out.below (by (repeat (first | exact grow_refl _ | refine grow_ext _ ?_ | refine grow_alloc _ ?_ | refine grow_drew ?_)))) (HR.out.below (by (repeat (first | exact grow_refl _ | refine grow_ext _ ?_ | refine grow_alloc _ ?_ | refine grow_drew ?_))))).mono ?_; rintro e w' ⟨rfl, x5, rfl⟩
  go_wp2_with fail
  go_at_call 11; refine (HX.out _).mono ?_; rintro e w' ⟨rfl, x6, rfl⟩
  go_wp2_with fail
  go_at_call 17; refine (HAG.out _).mono ?_; rintro e w' ⟨rfl, x7, rfl⟩
  go_wp2_with fail
  go_at_call 19; refine (HRK.out _ (HL.out.below (by (repeat (first | exact grow_refl _ | refine grow_ext _ ?_ | refine grow_alloc _ ?_ | refine grow_drew ?_)))) (HR.out.below (by (repeat (first | exact grow_refl _ | refine grow_ext _ ?_ | refine grow_alloc _ ?_ | refine grow_drew ?_))))).mono ?_; rintro e w' ⟨v8, rfl, ho8, x8, rfl⟩
  have HO8 := Lib.hid (Fds.of_own ho8)
  obtain ⟨a8, c8, rfl, k8, m8, -⟩ := own_shape ho8
  clear ho8
  go_wp2_with fail
  go_at_call 18; refine (HEQ.out _ _ _ (HO9.out.below (by (repeat (first | exact grow_refl _ | refine grow_ext _ ?_ | refine grow_alloc _ ?_ | refine grow_drew ?_)))) (HO8.out.below (by (repeat (first | exact grow_refl _ | refine grow_ext _ ?_ | refine grow_alloc _ ?_ | refine grow_drew ?_))))).mono ?_; rintro e w' ⟨rfl, x9, rfl⟩
  go_wp2_with fail
  go_at_call 20; refine (HM.out _ (HQ.out.boxes.below (by (repeat (first | exact grow_refl _ | refine grow_ext _ ?_ | refine grow_alloc _ ?_ | refine grow_drew ?_)))) (HQ.out.holes.below (by (repeat (first | exact grow_refl _ | refine grow_ext _ ?_ | refine grow_alloc _ ?_ | refine grow_drew ?_))))).mono ?_; rintro e w' ⟨rfl, y1, rfl⟩
  go_wp2_with fail
  go_at_call 11; refine (HX.out _).mono ?_; rintro e w' ⟨rfl, y2, rfl⟩
  go_wp2_with fail
  go_at_call 21; refine (HRS.out _ (HQ.out.boxes.below (by (repeat (first | exact grow_refl _ | refine grow_ext _ ?_ | refine grow_alloc _ ?_ | refine grow_drew ?_)))) (HQ.out.holes.below (by (repeat (first | exact grow_refl _ | refine grow_ext _ ?_ | refine grow_alloc _ ?_ | refine grow_drew ?_))))).mono ?_; rintro e w' ⟨rfl, y3, rfl⟩
  go_wp2_with fail
  go_at_call 23; refine (HRT.out _ (HL.out.below (by (repeat (first | exact grow_refl _ | refine grow_ext _ ?_ | refine grow_alloc _ ?_ | refine grow_drew ?_)))) (HR.out.below (by (repeat (first | exact grow_refl _ | refine grow_ext _ ?_ | refine grow_alloc _ ?_ | refine grow_drew ?_))))).mono ?_; rintro e w' ⟨rfl, y4, rfl⟩
  go_wp2_with fail
  go_at_call 22; refine (HMK.out _).mono ?_; rintro e w' ⟨rfl, y5, rfl⟩
  go_wp2
  go_ret
  exact Ret.of (by (repeat (first | exact grow_refl _ | refine grow_ext _ ?_ | refine grow_alloc _ ?_ | refine grow_drew ?_)))

theorem lawGapsChecks_c (q : Mb) (l : List Br) (v : Value) (rs : List Rn) (u : Value) (a x : Int) (_ : -9223372036854775808 ≤ a ∧ a ≤ 9223372036854775807) (_ : -9223372036854775808 ≤ x ∧ x ≤ 9223372036854775807) (w : World) (hq : MbAt w q) (hl : Bars w v l) (hr : Runs w u rs) :
    Calls Tryz.prog 4 #[(.agg #[.string q.name, q.u, q.t, .int .i64 q.cover, .int .i64 q.agg, .int .i64 q.poker]), v, u, .int .i64 a, .int .i64 x] w (Ret w (.bool true)) := by
  cases h4 : smallB q.l.length q.m.length 4
  · exact lawChk_a q l rs v u a x h4 w hq hl hr
  by_cases hn : q.name.size ≤ 60
  case neg => exact lawChk_b q l rs v u a x h4 (by omega) w hq hl hr
  cases hv : laidB l rs
  · exact lawChk_1 q l rs v u a x h4 hn hv w hq hl hr
  cases hx : inI x (-1048576) 1048576 <;> cases hb : memB q
  · exact lawChk_2 q l rs v u a x h4 hn hv hx hb w hq hl hr
  · exact lawChk_3 q l rs v u a x h4 hn hv hx hb w hq hl hr
  · cases ha : inI a 1 100
    · exact lawChk_4 q l rs v u a x h4 hn hv hx ha hb w hq hl hr
    · exact lawChk_7 q l rs v u a x h4 hn hv hx ha hb w hq hl hr
  · by_cases h0 : sectI q.l q.m x = 0
    · cases ha : inI a 1 100
      · exact lawChk_5 q l rs v u a x h4 hn hv hx ha hb h0 w hq hl hr
      · exact lawChk_8 q l rs v u a x h4 hn hv hx ha hb h0 w hq hl hr
    · cases ha : inI a 1 100
      · exact lawChk_6 q l rs v u a x h4 hn hv hx ha hb h0 w hq hl hr
      · exact lawChk_9 q l rs v u a x h4 hn hv hx ha hb h0 w hq hl hr

end Go.Proofs.YtofjopdcbmaijaaGreat
