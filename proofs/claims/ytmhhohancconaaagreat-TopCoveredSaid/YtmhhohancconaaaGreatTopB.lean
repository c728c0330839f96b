/- TopCovered: the walk of the law, given its example. Printed by mktopb.py. -/
import Derived.Test.YtmhhohancconaaaGreatTopA
import Derived.Test.YtmhhohancconaaaGreatRefLK3
import Derived.Test.YtmhhohancconaaaGreatRefMK
import Derived.Test.YtmhhohancconaaaGreatSolK4
import Derived.Deep.DeepCutAuto
namespace Go.Proofs.YtmhhohancconaaaGreat
open Go.RowKit
set_option maxRecDepth 20000

theorem run_bar_size54 (mark : ByteArray) (size count code : Int) (ad : Option Addr) (n cd : Nat) (w : World) :
    (Instr.field 51 (.agg #[.string mark, .int .i64 size, .int .i64 count, .int .i64 code, .slice ad n cd]) 1).run Tryz.prog w = .ok (.int .i64 size) w := by kernel_rfl
attribute [local go_sem] run_bar_size54
set_option maxHeartbeats 1000000 in
theorem sureFew_c (l : List Br) (rs : List Rn) (v u : Value) (w : World) (hl : Bars w v l) (hr : Runs w u rs) : Calls Tryz.prog 5 #[v, u] w (RetSm w rs 14) := by
  have HL := Lib.hid hl
  have HR := Lib.hid hr
  have H16 := Lib.hid (fun w hl hr => refSmall16s_c l rs v u 6 14 (by omega) (by omega) w hl hr)
  clear hl hr
  go_enter Tryz.func5, Tryz.ntmps5
  go_wp2_with fail
  go_at_call 20; refine (H16.out _ (HL.out.below (by (repeat (first | exact grow_refl _ | refine grow_ext _ ?_ | refine grow_alloc _ ?_ | refine grow_drew ?_)))) (HR.out.below (by (repeat (first | exact grow_refl _ | refine grow_ext _ ?_ | refine grow_alloc _ ?_ | refine grow_drew ?_))))).mono ?_; rintro e w' ⟨q0, rfl, hq0, x1, rfl⟩
  go_wp2
  go_ret
  exact ⟨_, rfl, hq0, ext_of (by (repeat (first | exact grow_refl _ | refine grow_ext _ ?_ | refine grow_alloc _ ?_ | refine grow_drew ?_)))⟩

theorem tmod_in (d : Int) {n : Int} (h : 0 < n) : -n < d.tmod n ∧ d.tmod n < n := by
  by_cases h0 : 0 ≤ d
  · rw [Int.tmod_eq_emod_of_nonneg h0]
    have h1 := Int.emod_nonneg d (show n ≠ 0 by omega)
    have h2 := Int.emod_lt_of_pos d h
    omega
  · have e : d.tmod n = -((-d).tmod n) := by rw [Int.neg_tmod, Int.neg_neg]
    rw [e, Int.tmod_eq_emod_of_nonneg (by omega)]
    have h1 := Int.emod_nonneg (-d) (show n ≠ 0 by omega)
    have h2 := Int.emod_lt_of_pos (-d) h
    omega
/-- A coordinate of the point. -/
def oneI (lo hi far al d : Int) : Int := lo + al % (hi - lo + 1) + d.tmod (far + 1)
theorem one_in {lo hi far al d : Int} (h : lo ≤ hi) (hf : 0 ≤ far) : lo - far ≤ oneI lo hi far al d ∧ oneI lo hi far al d ≤ hi + far := by
  have h1 := Int.emod_nonneg al (show hi - lo + 1 ≠ 0 by omega)
  have h2 := Int.emod_lt_of_pos al (show 0 < hi - lo + 1 by omega)
  have h3 : -far ≤ d.tmod (far + 1) ∧ d.tmod (far + 1) ≤ far := by
    have hl := tmod_in d (show 0 < far + 1 by omega)
    omega
  unfold oneI
  omega
set_option maxRecDepth 100000 in
set_option maxHeartbeats 2000000 in
theorem one54_c (lo hi d half cov al : Int) (g9 g14 g30 : Nat) (v1 : -1048576 ≤ lo) (v2 : lo ≤ hi) (v3 : hi ≤ 1048576) (hd : -32768 ≤ d ∧ d ≤ 32767) (ha : 0 ≤ al ∧ al ≤ 4294967295) (hh : 0 ≤ half ∧ half ≤ 100) (hc : 0 ≤ cov ∧ cov ≤ 1000) (w : World)
    (c30 : w.cell? ⟨g30, 0, none⟩ = some (.int .i64 half)) (c9 : w.cell? ⟨g9, 3, none⟩ = some (.int .i64 cov)) (c14 : w.cell? ⟨g14, 0, none⟩ = some (.int .u32 al)) :
    Calls Tryz.prog 15 #[.int .i64 lo, .int .i64 hi, .int .i16 d, .pointer (some ⟨g30, 0, none⟩), .pointer (some ⟨g9, 0, none⟩), .pointer (some ⟨g14, 0, none⟩)] w (Ret w (.int .i64 (oneI lo hi (half + cov) al d))) := by
  have hin := one_in (al := al) (d := d) v2 (show 0 ≤ half + cov by omega)
  have h1 := Int.emod_nonneg al (show hi - lo + 1 ≠ 0 by omega)
  have h2 := Int.emod_lt_of_pos al (show 0 < hi - lo + 1 by omega)
  have e1 : al.tmod (hi - lo + 1) = al % (hi - lo + 1) := Int.tmod_eq_emod_of_nonneg ha.1
  have h3 : -(half + cov) ≤ d.tmod (half + cov + 1) ∧ d.tmod (half + cov + 1) ≤ half + cov := by
    have hl := tmod_in d (show 0 < half + cov + 1 by omega)
    omega
  have w1 : IntKind.i64.wrap al = al := IntWalk.i64_in _ (by omega)
  have w2 : IntKind.i64.wrap d = d := IntWalk.i64_in _ (by omega)
  have z1 : hi - lo + 1 ≠ 0 := by omega
  have z2 : half + cov + 1 ≠ 0 := by omega
  have HE := Lib.hid (show oneI lo hi (half + cov) al d = lo + al % (hi - lo + 1) + d.tmod (half + cov + 1) from rfl)
  generalize al % (hi - lo + 1) = A at *
  obtain ⟨D, e2⟩ : ∃ D, d.tmod (half + cov + 1) = D := ⟨_, rfl⟩
  rw [e2] at HE h3
  clear hin
  go_enter Tryz.func15, Tryz.ntmps15
  go_wp2_with fail
  refine wp_region_grows (by kernel_rfl) (by kernel_rfl) ?_
  repeat (go_big_quiet_step (fail))
  refine wpQuiet_nil ?_; rintro _ ⟨xq, rfl⟩
  go_wp2
  go_ret
  rw [HE.out]
  exact Ret.of (by (repeat (first | exact grow_refl _ | refine grow_ext _ ?_ | refine grow_alloc _ ?_ | refine grow_drew ?_)))

set_option maxRecDepth 100000 in
set_option maxHeartbeats 16000000 in
theorem lawTC_name (q : Mb) (l : List Br) (rs : List Rn) (v u : Value) (qi qk al dx dy dz : Int) (AW : ∀ w, Calls Tryz.prog 4 #[] w (Ret w (.bool true))) (h1 : ¬ q.name.size ≤ 60) (w : World) (hq : MbAt w q) (hl : Bars w v l) (hr : Runs w u rs) :
    Calls Tryz.prog 3 #[(.agg #[.string q.name, q.u, q.t, .int .i64 q.cover, .int .i64 q.agg, .int .i64 q.poker]), v, u, .int .u8 qi, .int .u8 qk, .int .u32 al, .int .i16 dx, .int .i16 dy, .int .i16 dz] w (Ret w (.bool true)) := by
  have HQ := Lib.hid hq
  have HL := Lib.hid hl
  have HR := Lib.hid hr
  have HAW := Lib.hid AW
  have HFW := Lib.hid (fun w hl hr => sureFew_c l rs v u w hl hr)
  have HSM := Lib.hid (fun r h w hl hm => refSmall_v q.l q.m q.u q.t 5 r h w hl hm)
  have d1 : decide ((60 : Int) < (q.name.size : Int)) = true := by simp; omega
  clear hq hl hr h1 AW
  go_enter Tryz.func3, Tryz.ntmps3
  go_wp2_with fail
  go_at_call 4; refine (HAW.out _).mono ?_; rintro e w' ⟨rfl, x0, rfl⟩
  go_wp2_with fail
  go_at_call 5; refine (HFW.out _ (HL.out.below (by (repeat (first | exact grow_refl _ | refine grow_ext _ ?_ | refine grow_alloc _ ?_ | refine grow_drew ?_)))) (HR.out.below (by (repeat (first | exact grow_refl _ | refine grow_ext _ ?_ | refine grow_alloc _ ?_ | refine grow_drew ?_))))).mono ?_; rintro e w' ⟨q0, rfl, hfew, x1, rfl⟩
  cases q0
  · clear hfew
    go_wp2
    go_ret
    exact Ret.of (by (repeat (first | exact grow_refl _ | refine grow_ext _ ?_ | refine grow_alloc _ ?_ | refine grow_drew ?_)))
  have hfew := hfew rfl
  have HFE := Lib.hid hfew
  clear hfew
  go_wp2
  go_ret
  exact Ret.of (by (repeat (first | exact grow_refl _ | refine grow_ext _ ?_ | refine grow_alloc _ ?_ | refine grow_drew ?_)))

set_option maxRecDepth 100000 in
set_option maxHeartbeats 16000000 in
theorem lawTC_small (q : Mb) (l : List Br) (rs : List Rn) (v u : Value) (qi qk al dx dy dz : Int) (AW : ∀ w, Calls Tryz.prog 4 #[] w (Ret w (.bool true))) (h1 : q.name.size ≤ 60) (hs : smallB q.l.length q.m.length 5 = false) (w : World) (hq : MbAt w q) (hl : Bars w v l) (hr : Runs w u rs) :
    Calls Tryz.prog 3 #[(.agg #[.string q.name, q.u, q.t, .int .i64 q.cover, .int .i64 q.agg, .int .i64 q.poker]), v, u, .int .u8 qi, .int .u8 qk, .int .u32 al, .int .i16 dx, .int .i16 dy, .int .i16 dz] w (Ret w (.bool true)) := by
  have HQ := Lib.hid hq
  have HL := Lib.hid hl
  have HR := Lib.hid hr
  have HAW := Lib.hid AW
  have HFW := Lib.hid (fun w hl hr => sureFew_c l rs v u w hl hr)
  have HSM := Lib.hid (fun r h w hl hm => refSmall_v q.l q.m q.u q.t 5 r h w hl hm)
  have d1 : decide ((60 : Int) < (q.name.size : Int)) = false := by simp; omega
  have HSB := Lib.hid hs
  clear hq hl hr h1 hs AW
  go_enter Tryz.func3, Tryz.ntmps3
  go_wp2_with fail
  go_at_call 4; refine (HAW.out _).mono ?_; rintro e w' ⟨rfl, x0, rfl⟩
  go_wp2_with fail
  go_at_call 5; refine (HFW.out _ (HL.out.below (by (repeat (first | exact grow_refl _ | refine grow_ext _ ?_ | refine grow_alloc _ ?_ | refine grow_drew ?_)))) (HR.out.below (by (repeat (first | exact grow_refl _ | refine grow_ext _ ?_ | refine grow_alloc _ ?_ | refine grow_drew ?_))))).mono ?_; rintro e w' ⟨q0, rfl, hfew, x1, rfl⟩
  cases q0
  · clear hfew
    go_wp2
    go_ret
    exact Ret.of (by (repeat (first | exact grow_refl _ | refine grow_ext _ ?_ | refine grow_alloc _ ?_ | refine grow_drew ?_)))
  have hfew := hfew rfl
  have HFE := Lib.hid hfew
  clear hfew
  go_wp2_with fail
  go_at_call 6; refine (HSM.out _ HSB.out _ (HQ.out.boxes.below (by (repeat (first | exact grow_refl _ | refine grow_ext _ ?_ | refine grow_alloc _ ?_ | refine grow_drew ?_)))) (HQ.out.holes.below (by (repeat (first | exact grow_refl _ | refine grow_ext _ ?_ | refine grow_alloc _ ?_ | refine grow_drew ?_))))).mono ?_; rintro e w' ⟨rfl, x2, rfl⟩
  go_wp2
  go_ret
  exact Ret.of (by (repeat (first | exact grow_refl _ | refine grow_ext _ ?_ | refine grow_alloc _ ?_ | refine grow_drew ?_)))

set_option maxRecDepth 100000 in
set_option maxHeartbeats 16000000 in
theorem lawTC_err (q : Mb) (l : List Br) (rs : List Rn) (v u : Value) (qi qk al dx dy dz : Int) (AW : ∀ w, Calls Tryz.prog 4 #[] w (Ret w (.bool true))) (h1 : q.name.size ≤ 60) (hs : smallB q.l.length q.m.length 5 = true) (he : ¬ (mbB q = true ∧ laidB l rs = true)) (w : World) (hq : MbAt w q) (hl : Bars w v l) (hr : Runs w u rs) :
    Calls Tryz.prog 3 #[(.agg #[.string q.name, q.u, q.t, .int .i64 q.cover, .int .i64 q.agg, .int .i64 q.poker]), v, u, .int .u8 qi, .int .u8 qk, .int .u32 al, .int .i16 dx, .int .i16 dy, .int .i16 dz] w (Ret w (.bool true)) := by
  have HQ := Lib.hid hq
  have HL := Lib.hid hl
  have HR := Lib.hid hr
  have HAW := Lib.hid AW
  have HFW := Lib.hid (fun w hl hr => sureFew_c l rs v u w hl hr)
  have HSM := Lib.hid (fun r h w hl hm => refSmall_v q.l q.m q.u q.t 5 r h w hl hm)
  have d1 : decide ((60 : Int) < (q.name.size : Int)) = false := by simp; omega
  have HSB := Lib.hid hs
  have HCK := Lib.hid (fun w hq hl hr => Check18_err q l rs v u he w hq hl hr)
  have HCN := Lib.hid (fun w hl hr => count_c l rs v u w hl hr)
  clear hq hl hr h1 hs he AW
  go_enter Tryz.func3, Tryz.ntmps3
  go_wp2_with fail
  go_at_call 4; refine (HAW.out _).mono ?_; rintro e w' ⟨rfl, x0, rfl⟩
  go_wp2_with fail
  go_at_call 5; refine (HFW.out _ (HL.out.below (by (repeat (first | exact grow_refl _ | refine grow_ext _ ?_ | refine grow_alloc _ ?_ | refine grow_drew ?_)))) (HR.out.below (by (repeat (first | exact grow_refl _ | refine grow_ext _ ?_ | refine grow_alloc _ ?_ | refine grow_drew ?_))))).mono ?_; rintro e w' ⟨q0, rfl, hfew, x1, rfl⟩
  cases q0
  · clear hfew
    go_wp2
    go_ret
    exact Ret.of (by (repeat (first | exact grow_refl _ | refine grow_ext _ ?_ | refine grow_alloc _ ?_ | refine grow_drew ?_)))
  have hfew := hfew rfl
  have HFE := Lib.hid hfew
  clear hfew
  go_wp2_with fail
  go_at_call 6; refine (HSM.out _ HSB.out _ (HQ.out.boxes.below (by (repeat (first | exact grow_refl _ | refine grow_ext _ ?_ | refine grow_alloc _ ?_ | refine grow_drew ?_)))) (HQ.out.holes.below (by (repeat (first | exact grow_refl _ | refine grow_ext _ ?_ | refine grow_alloc _ ?_ | refine grow_drew ?_))))).mono ?_; rintro e w' ⟨rfl, x2, rfl⟩
  go_wp2_with fail
  go_at_call 7; refine (HCK.out _ (HQ.out.below (by (repeat (first | exact grow_refl _ | refine grow_ext _ ?_ | refine grow_alloc _ ?_ | refine grow_drew ?_)))) (HL.out.below (by (repeat (first | exact grow_refl _ | refine grow_ext _ ?_ | refine grow_alloc _ ?_ | refine grow_drew ?_)))) (HR.out.below (by (repeat (first | exact grow_refl _ | refine grow_ext _ ?_ | refine grow_alloc _ ?_ | refine grow_drew ?_))))).mono ?_; rintro e w' hret
  obtain ⟨a, c, rfl, hc, y1, rfl⟩ := fds_nothing hret
  clear hret
  go_wp2_with fail
  go_at_call 8; refine (HCN.out _ (HL.out.below (by (repeat (first | exact grow_refl _ | refine grow_ext _ ?_ | refine grow_alloc _ ?_ | refine grow_drew ?_)))) (HR.out.below (by (repeat (first | exact grow_refl _ | refine grow_ext _ ?_ | refine grow_alloc _ ?_ | refine grow_drew ?_))))).mono ?_; rintro e w' ⟨rfl, x4, rfl⟩
  go_wp2
  go_ret
  exact Ret.of (by (repeat (first | exact grow_refl _ | refine grow_ext _ ?_ | refine grow_alloc _ ?_ | refine grow_drew ?_)))

set_option maxRecDepth 100000 in
set_option maxHeartbeats 16000000 in
theorem lawTC_many (q : Mb) (l : List Br) (rs : List Rn) (v u : Value) (qi qk al dx dy dz : Int) (AW : ∀ w, Calls Tryz.prog 4 #[] w (Ret w (.bool true))) (h1 : q.name.size ≤ 60) (_hs : smallB q.l.length q.m.length 5 = true) (_hmb : mbB q = true) (hv : laidB l rs = true) (h14 : ¬ countS rs ≤ 14) (w : World) (hq : MbAt w q) (hl : Bars w v l) (hr : Runs w u rs) :
    Calls Tryz.prog 3 #[(.agg #[.string q.name, q.u, q.t, .int .i64 q.cover, .int .i64 q.agg, .int .i64 q.poker]), v, u, .int .u8 qi, .int .u8 qk, .int .u32 al, .int .i16 dx, .int .i16 dy, .int .i16 dz] w (Ret w (.bool true)) := by
  have HQ := Lib.hid hq
  have HL := Lib.hid hl
  have HR := Lib.hid hr
  have HAW := Lib.hid AW
  have HFW := Lib.hid (fun w hl hr => sureFew_c l rs v u w hl hr)
  have HSM := Lib.hid (fun r h w hl hm => refSmall_v q.l q.m q.u q.t 5 r h w hl hm)
  have d1 : decide ((60 : Int) < (q.name.size : Int)) = false := by simp; omega
  have hq0 : ¬ countS rs ≤ 14 := h14
  have HNB := Lib.hid hq0
  have HCT := Lib.hid (show (∀ r ∈ rs, 1 ≤ r.count ∧ r.count ≤ 1000) ∧ rs.length ≤ 60 from ⟨laid_counts hv, (laidB_iff.1 hv).2.1⟩)
  clear hq hl hr h1 _hs _hmb hv h14 hq0 AW
  go_enter Tryz.func3, Tryz.ntmps3
  go_wp2_with fail
  go_at_call 4; refine (HAW.out _).mono ?_; rintro e w' ⟨rfl, x0, rfl⟩
  go_wp2_with fail
  go_at_call 5; refine (HFW.out _ (HL.out.below (by (repeat (first | exact grow_refl _ | refine grow_ext _ ?_ | refine grow_alloc _ ?_ | refine grow_drew ?_)))) (HR.out.below (by (repeat (first | exact grow_refl _ | refine grow_ext _ ?_ | refine grow_alloc _ ?_ | refine grow_drew ?_))))).mono ?_; rintro e w' ⟨q0, rfl, hfew, x1, rfl⟩
  cases q0
  · clear hfew
    go_wp2
    go_ret
    exact Ret.of (by (repeat (first | exact grow_refl _ | refine grow_ext _ ?_ | refine grow_alloc _ ?_ | refine grow_drew ?_)))
  have hfew := hfew rfl
  exact absurd (hfew HCT.out.1 HCT.out.2) (by have := HNB.out; omega)

set_option maxRecDepth 100000 in
set_option maxHeartbeats 16000000 in
theorem lawTC_none (q : Mb) (l : List Br) (rs : List Rn) (v u : Value) (qi qk al dx dy dz : Int) (AW : ∀ w, Calls Tryz.prog 4 #[] w (Ret w (.bool true))) (h1 : q.name.size ≤ 60) (hs : smallB q.l.length q.m.length 5 = true) (hmb : mbB q = true) (hv : laidB l rs = true) (_h14 : countS rs ≤ 14) (h0 : countS rs = 0) (w : World) (hq : MbAt w q) (hl : Bars w v l) (hr : Runs w u rs) :
    Calls Tryz.prog 3 #[(.agg #[.string q.name, q.u, q.t, .int .i64 q.cover, .int .i64 q.agg, .int .i64 q.poker]), v, u, .int .u8 qi, .int .u8 qk, .int .u32 al, .int .i16 dx, .int .i16 dy, .int .i16 dz] w (Ret w (.bool true)) := by
  have HQ := Lib.hid hq
  have HL := Lib.hid hl
  have HR := Lib.hid hr
  have HAW := Lib.hid AW
  have HFW := Lib.hid (fun w hl hr => sureFew_c l rs v u w hl hr)
  have HSM := Lib.hid (fun r h w hl hm => refSmall_v q.l q.m q.u q.t 5 r h w hl hm)
  have d1 : decide ((60 : Int) < (q.name.size : Int)) = false := by simp; omega
  have HSB := Lib.hid hs
  obtain ⟨hms, hmc⟩ : solidB q.l q.m = true ∧ 0 ≤ q.cover ∧ q.cover ≤ 200 := ⟨(member_iff.1 hmb).2.1, (member_iff.1 hmb).2.2.1⟩
  have HCK := Lib.hid (fun w hq hl hr => Check18_ok q l rs v u hmb hv (by omega) w hq hl hr)
  have HCN := Lib.hid (fun w hl hr => count_c l rs v u w hl hr)
  rw [show countE l rs = (countS rs, 0) by unfold countE; rw [if_pos hv]] at HCN
  have h0' : countS rs = 0 := h0
  rw [h0'] at HCK HCN
  rw [show coverTo q l rs (0 : Int).toNat = [] from rfl] at HCK
  clear hq hl hr h1 hs hmb hv _h14 h0 h0' AW hms hmc
  go_enter Tryz.func3, Tryz.ntmps3
  go_wp2_with fail
  go_at_call 4; refine (HAW.out _).mono ?_; rintro e w' ⟨rfl, x0, rfl⟩
  go_wp2_with fail
  go_at_call 5; refine (HFW.out _ (HL.out.below (by (repeat (first | exact grow_refl _ | refine grow_ext _ ?_ | refine grow_alloc _ ?_ | refine grow_drew ?_)))) (HR.out.below (by (repeat (first | exact grow_refl _ | refine grow_ext _ ?_ | refine grow_alloc _ ?_ | refine grow_drew ?_))))).mono ?_; rintro e w' ⟨q0, rfl, hfew, x1, rfl⟩
  cases q0
  · clear hfew
    go_wp2
    go_ret
    exact Ret.of (by (repeat (first | exact grow_refl _ | refine grow_ext _ ?_ | refine grow_alloc _ ?_ | refine grow_drew ?_)))
  have hfew := hfew rfl
  have HFE := Lib.hid hfew
  clear hfew
  go_wp2_with fail
  go_at_call 6; refine (HSM.out _ HSB.out _ (HQ.out.boxes.below (by (repeat (first | exact grow_refl _ | refine grow_ext _ ?_ | refine grow_alloc _ ?_ | refine grow_drew ?_)))) (HQ.out.holes.below (by (repeat (first | exact grow_refl _ | refine grow_ext _ ?_ | refine grow_alloc _ ?_ | refine grow_drew ?_))))).mono ?_; rintro e w' ⟨rfl, x2, rfl⟩
  go_wp2_with fail
  go_at_call 7; refine (HCK.out _ (HQ.out.below (by (repeat (first | exact grow_refl _ | refine grow_ext _ ?_ | refine grow_alloc _ ?_ | refine grow_drew ?_)))) (HL.out.below (by (repeat (first | exact grow_refl _ | refine grow_ext _ ?_ | refine grow_alloc _ ?_ | refine grow_drew ?_)))) (HR.out.below (by (repeat (first | exact grow_refl _ | refine grow_ext _ ?_ | refine grow_alloc _ ?_ | refine grow_drew ?_))))).mono ?_; rintro e w' hret
  obtain ⟨a, c, rfl, hc, y1, rfl⟩ := fds_nothing hret
  clear hret
  go_wp2_with fail
  go_at_call 8; refine (HCN.out _ (HL.out.below (by (repeat (first | exact grow_refl _ | refine grow_ext _ ?_ | refine grow_alloc _ ?_ | refine grow_drew ?_)))) (HR.out.below (by (repeat (first | exact grow_refl _ | refine grow_ext _ ?_ | refine grow_alloc _ ?_ | refine grow_drew ?_))))).mono ?_; rintro e w' ⟨rfl, x4, rfl⟩
  go_wp2
  go_ret
  exact Ret.of (by (repeat (first | exact grow_refl _ | refine grow_ext _ ?_ | refine grow_alloc _ ?_ | refine grow_drew ?_)))

set_option maxRecDepth 100000 in
set_option maxHeartbeats 16000000 in
theorem lawTC_low (q : Mb) (l : List Br) (rs : List Rn) (v u : Value) (qi qk al dx dy dz : Int) (AW : ∀ w, Calls Tryz.prog 4 #[] w (Ret w (.bool true))) (h1 : q.name.size ≤ 60) (hs : smallB q.l.length q.m.length 5 = true) (hmb : mbB q = true) (hv : laidB l rs = true) (h14 : countS rs ≤ 14) (h0 : countS rs ≠ 0) (hqi : 0 ≤ qi ∧ qi ≤ 255) (hqk : 0 ≤ qk ∧ qk ≤ 255) (hdx : -32768 ≤ dx ∧ dx ≤ 32767) (hdy : -32768 ≤ dy ∧ dy ≤ 32767) (hdz : -32768 ≤ dz ∧ dz ≤ 32767) (hal : 0 ≤ al ∧ al ≤ 4294967295) (hlow : barI q l rs (qi % countS rs) < q.cover) (w : World) (hq : MbAt w q) (hl : Bars w v l) (hr : Runs w u rs) :
    Calls Tryz.prog 3 #[(.agg #[.string q.name, q.u, q.t, .int .i64 q.cover, .int .i64 q.agg, .int .i64 q.poker]), v, u, .int .u8 qi, .int .u8 qk, .int .u32 al, .int .i16 dx, .int .i16 dy, .int .i16 dz] w (Ret w (.bool true)) := by
  have HQ := Lib.hid hq
  have HL := Lib.hid hl
  have HR := Lib.hid hr
  have HAW := Lib.hid AW
  have HFW := Lib.hid (fun w hl hr => sureFew_c l rs v u w hl hr)
  have HSM := Lib.hid (fun r h w hl hm => refSmall_v q.l q.m q.u q.t 5 r h w hl hm)
  have d1 : decide ((60 : Int) < (q.name.size : Int)) = false := by simp; omega
  have HSB := Lib.hid hs
  obtain ⟨hms, hmc⟩ : solidB q.l q.m = true ∧ 0 ≤ q.cover ∧ q.cover ≤ 200 := ⟨(member_iff.1 hmb).2.1, (member_iff.1 hmb).2.2.1⟩
  have HCK := Lib.hid (fun w hq hl hr => Check18_ok q l rs v u hmb hv (by omega) w hq hl hr)
  have HCN := Lib.hid (fun w hl hr => count_c l rs v u w hl hr)
  rw [show countE l rs = (countS rs, 0) by unfold countE; rw [if_pos hv]] at HCN
  have hN1 := (count_le hv rs.length)
  rw [List.take_length] at hN1
  have a0 := Int.emod_nonneg qi (show countS rs ≠ 0 from h0)
  have a1 := Int.emod_lt_of_pos qi (show 0 < countS rs by omega)
  have ea : qi.tmod (countS rs) = qi % countS rs := Int.tmod_eq_emod_of_nonneg hqi.1
  obtain ⟨a, ha⟩ : ∃ a, qi % countS rs = a := ⟨_, rfl⟩
  rw [ha] at a0 a1 ea hlow
  have w1 : IntKind.i64.wrap qi = qi := IntWalk.i64_in _ (by omega)
  have w2 : IntKind.i64.wrap qk = qk := IntWalk.i64_in _ (by omega)
  have HMK := Lib.hid (fun w hl hr => mark_v l rs v u a _ _ (mark_of hv a0 a1).1 (by omega) w hl hr)
  have hlg := fun w hl hr => legsLaid_c l rs v u a w hl hr
  rw [show legsE l rs a = (legsI l rs a, 0) by unfold legsE; rw [if_pos hv, if_pos ⟨a0, a1⟩]] at hlg
  unfold RetBxs at hlg
  have HLG := Lib.hid hlg
  have HBA := Lib.hid (fun w hq hl hr => Bar18_c q l rs v u a (by omega) w hq hl hr)
  rw [show barX q l rs a = (barI q l rs a, 0) by unfold barX barE; rw [if_pos hmb, if_pos hv, if_pos ⟨a0, a1⟩]] at HBA
  have hsz := size_of hv a0 a1
  have HRD := Lib.hid (fun w => Round_c (sizeI l rs a) w)
  rw [show roundR (sizeI l rs a) = (halfI (sizeI l rs a), 0) by unfold roundR; rw [if_pos hsz]; rfl] at HRD
  have hhd := halfD_in hsz
  have HRB := Lib.hid (fun w hl hr => refBar_c l rs v u a hv a0 a1 w hl hr)
  obtain ⟨bc, bd, bad, bn, bcd, bdm, hbar⟩ := bar_form hv hl a0 a1
  rw [hbar] at HRB
  have hle := legsI_some hv a0 a1
  have hlm := legsI_most l rs a
  have hlv := legsI_valid hv a0 a1
  have HCV := Lib.hid (fun (b : Bx) (x y z : Int) (hb : b ∈ legsI l rs a) (hc : q.cover ≤ barI q l rs a) hx hy hz => covered (q := q) (x := x) (y := y) (z := z) (hlv b hb) hsz hmc.1 (Int.le_trans hc (coverL_le (q := q) (d := sizeI l rs a) hb)) hx hy hz)
  have HFD := Lib.hid (show barI q l rs a < q.cover → markI rs a ∈ coverTo q l rs (countS rs).toNat from fun h => by
    have := findings_has (q := q) (l := l) (rs := rs) (n := (countS rs).toNat) (i := a.toNat) (by omega) (by rw [Int.toNat_of_nonneg a0]; exact h)
    rwa [Int.toNat_of_nonneg a0] at this)
  have HLV := Lib.hid hlv
  have HIN := Lib.hid (fun x y z r h w hl hm => solidInside_v q.l q.m q.u q.t x y z r h w hl hm)
  have HSO := Lib.hid hms
  have HBI := Lib.hid (barI_in q l rs a)
  generalize barI q l rs a = C at *
  generalize markI rs a = MK at *
  generalize sizeI l rs a = SZ at *
  generalize halfI SZ = half at *
  generalize legsI l rs a = LG at *
  generalize coverTo q l rs (countS rs).toNat = CT at *
  generalize countS rs = N at *
  have g1 : (N == 0) = false := by simpa using h0
  obtain ⟨ua, uc, eu, -, -, -⟩ := hq.boxes.shape
  obtain ⟨ta, tc, et, -, -, -⟩ := hq.holes.shape
  have EU := Lib.hid eu
  have ET := Lib.hid et
  have HXYZ := Lib.hid (And.intro hdx (And.intro hdy (And.intro hdz hal)))
  have HHD := Lib.hid (And.intro hhd hmc)
  clear hq hl hr h1 hs hmb hv h14 h0 AW hms hmc hN1 hlg hsz hhd hbar hlv eu et hdx hdy hdz hal ha
  go_enter Tryz.func3, Tryz.ntmps3
  go_wp2_with fail
  go_at_call 4; refine (HAW.out _).mono ?_; rintro e w' ⟨rfl, x0, rfl⟩
  go_wp2_with fail
  go_at_call 5; refine (HFW.out _ (HL.out.below (by (repeat (first | exact grow_refl _ | refine grow_ext _ ?_ | refine grow_alloc _ ?_ | refine grow_drew ?_)))) (HR.out.below (by (repeat (first | exact grow_refl _ | refine grow_ext _ ?_ | refine grow_alloc _ ?_ | refine grow_drew ?_))))).mono ?_; rintro e w' ⟨q0, rfl, hfew, x1, rfl⟩
  cases q0
  · clear hfew
    go_wp2
    go_ret
    exact Ret.of (by (repeat (first | exact grow_refl _ | refine grow_ext _ ?_ | refine grow_alloc _ ?_ | refine grow_drew ?_)))
  have hfew := hfew rfl
  have HFE := Lib.hid hfew
  clear hfew
  go_wp2_with fail
  go_at_call 6; refine (HSM.out _ HSB.out _ (HQ.out.boxes.below (by (repeat (first | exact grow_refl _ | refine grow_ext _ ?_ | refine grow_alloc _ ?_ | refine grow_drew ?_)))) (HQ.out.holes.below (by (repeat (first | exact grow_refl _ | refine grow_ext _ ?_ | refine grow_alloc _ ?_ | refine grow_drew ?_))))).mono ?_; rintro e w' ⟨rfl, x2, rfl⟩
  go_wp2_with fail
  go_at_call 7; refine (HCK.out _ (HQ.out.below (by (repeat (first | exact grow_refl _ | refine grow_ext _ ?_ | refine grow_alloc _ ?_ | refine grow_drew ?_)))) (HL.out.below (by (repeat (first | exact grow_refl _ | refine grow_ext _ ?_ | refine grow_alloc _ ?_ | refine grow_drew ?_)))) (HR.out.below (by (repeat (first | exact grow_refl _ | refine grow_ext _ ?_ | refine grow_alloc _ ?_ | refine grow_drew ?_))))).mono ?_; rintro e w' hret
  obtain ⟨v19, rfl, hown19, y1, rfl⟩ := hret
  obtain ⟨a19, c19, rfl, -, -, -⟩ := own_shape hown19
  have HF := Lib.hid (Fds.of_own hown19)
  clear hown19
  go_wp2_with fail
  go_at_call 8; refine (HCN.out _ (HL.out.below (by (repeat (first | exact grow_refl _ | refine grow_ext _ ?_ | refine grow_alloc _ ?_ | refine grow_drew ?_)))) (HR.out.below (by (repeat (first | exact grow_refl _ | refine grow_ext _ ?_ | refine grow_alloc _ ?_ | refine grow_drew ?_))))).mono ?_; rintro e w' ⟨rfl, x4, rfl⟩
  go_wp2_with fail
  go_at_call 9; refine (HMK.out _ (HL.out.below (by (repeat (first | exact grow_refl _ | refine grow_ext _ ?_ | refine grow_alloc _ ?_ | refine grow_drew ?_)))) (HR.out.below (by (repeat (first | exact grow_refl _ | refine grow_ext _ ?_ | refine grow_alloc _ ?_ | refine grow_drew ?_))))).mono ?_; rintro e w' ⟨rfl, x5, rfl⟩
  go_wp2_with fail
  go_at_call 10; refine (HLG.out _ (HL.out.below (by (repeat (first | exact grow_refl _ | refine grow_ext _ ?_ | refine grow_alloc _ ?_ | refine grow_drew ?_)))) (HR.out.below (by (repeat (first | exact grow_refl _ | refine grow_ext _ ?_ | refine grow_alloc _ ?_ | refine grow_drew ?_))))).mono ?_; rintro e w' ⟨v26, rfl, hown26, x6, rfl⟩
  obtain ⟨a26, c26, rfl, -, -, -⟩ := own_shape hown26
  have HLB := Lib.hid (Boxes.of_own hown26)
  clear hown26
  have g2 : ((LG.length : Int) == 0) = false := by rw [beq_eq_false_iff_ne]; omega
  go_wp2_with fail
  go_at_call 11; refine (HBA.out _ (HQ.out.below (by (repeat (first | exact grow_refl _ | refine grow_ext _ ?_ | refine grow_alloc _ ?_ | refine grow_drew ?_)))) (HL.out.below (by (repeat (first | exact grow_refl _ | refine grow_ext _ ?_ | refine grow_alloc _ ?_ | refine grow_drew ?_)))) (HR.out.below (by (repeat (first | exact grow_refl _ | refine grow_ext _ ?_ | refine grow_alloc _ ?_ | refine grow_drew ?_))))).mono ?_; rintro e w' ⟨rfl, x7, rfl⟩
  have d2 : decide (C < q.cover) = true := by simpa using hlow
  have HMM := Lib.hid (HFD.out hlow)
  clear hlow
  go_wp2_with fail
  go_at_call 12; refine (containsFd_c CT MK HMM.out _ _ (HF.out.below (by (repeat (first | exact grow_refl _ | refine grow_ext _ ?_ | refine grow_alloc _ ?_ | refine grow_drew ?_))))).mono ?_; rintro e w' ⟨rfl, x8, rfl⟩
  go_wp2
  go_ret
  exact Ret.of (by (repeat (first | exact grow_refl _ | refine grow_ext _ ?_ | refine grow_alloc _ ?_ | refine grow_drew ?_)))

set_option maxRecDepth 100000 in
set_option maxHeartbeats 16000000 in
theorem lawTC_high (q : Mb) (l : List Br) (rs : List Rn) (v u : Value) (qi qk al dx dy dz : Int) (AW : ∀ w, Calls Tryz.prog 4 #[] w (Ret w (.bool true))) (h1 : q.name.size ≤ 60) (hs : smallB q.l.length q.m.length 5 = true) (hmb : mbB q = true) (hv : laidB l rs = true) (h14 : countS rs ≤ 14) (h0 : countS rs ≠ 0) (hqi : 0 ≤ qi ∧ qi ≤ 255) (hqk : 0 ≤ qk ∧ qk ≤ 255) (hdx : -32768 ≤ dx ∧ dx ≤ 32767) (hdy : -32768 ≤ dy ∧ dy ≤ 32767) (hdz : -32768 ≤ dz ∧ dz ≤ 32767) (hal : 0 ≤ al ∧ al ≤ 4294967295) (hhigh : ¬ barI q l rs (qi % countS rs) < q.cover) (w : World) (hq : MbAt w q) (hl : Bars w v l) (hr : Runs w u rs) :
    Calls Tryz.prog 3 #[(.agg #[.string q.name, q.u, q.t, .int .i64 q.cover, .int .i64 q.agg, .int .i64 q.poker]), v, u, .int .u8 qi, .int .u8 qk, .int .u32 al, .int .i16 dx, .int .i16 dy, .int .i16 dz] w (Ret w (.bool true)) := by
  have HQ := Lib.hid hq
  have HL := Lib.hid hl
  have HR := Lib.hid hr
  have HAW := Lib.hid AW
  have HFW := Lib.hid (fun w hl hr => sureFew_c l rs v u w hl hr)
  have HSM := Lib.hid (fun r h w hl hm => refSmall_v q.l q.m q.u q.t 5 r h w hl hm)
  have d1 : decide ((60 : Int) < (q.name.size : Int)) = false := by simp; omega
  have HSB := Lib.hid hs
  obtain ⟨hms, hmc⟩ : solidB q.l q.m = true ∧ 0 ≤ q.cover ∧ q.cover ≤ 200 := ⟨(member_iff.1 hmb).2.1, (member_iff.1 hmb).2.2.1⟩
  have HCK := Lib.hid (fun w hq hl hr => Check18_ok q l rs v u hmb hv (by omega) w hq hl hr)
  have HCN := Lib.hid (fun w hl hr => count_c l rs v u w hl hr)
  rw [show countE l rs = (countS rs, 0) by unfold countE; rw [if_pos hv]] at HCN
  have hN1 := (count_le hv rs.length)
  rw [List.take_length] at hN1
  have a0 := Int.emod_nonneg qi (show countS rs ≠ 0 from h0)
  have a1 := Int.emod_lt_of_pos qi (show 0 < countS rs by omega)
  have ea : qi.tmod (countS rs) = qi % countS rs := Int.tmod_eq_emod_of_nonneg hqi.1
  obtain ⟨a, ha⟩ : ∃ a, qi % countS rs = a := ⟨_, rfl⟩
  rw [ha] at a0 a1 ea hhigh
  have w1 : IntKind.i64.wrap qi = qi := IntWalk.i64_in _ (by omega)
  have w2 : IntKind.i64.wrap qk = qk := IntWalk.i64_in _ (by omega)
  have HMK := Lib.hid (fun w hl hr => mark_v l rs v u a _ _ (mark_of hv a0 a1).1 (by omega) w hl hr)
  have hlg := fun w hl hr => legsLaid_c l rs v u a w hl hr
  rw [show legsE l rs a = (legsI l rs a, 0) by unfold legsE; rw [if_pos hv, if_pos ⟨a0, a1⟩]] at hlg
  unfold RetBxs at hlg
  have HLG := Lib.hid hlg
  have HBA := Lib.hid (fun w hq hl hr => Bar18_c q l rs v u a (by omega) w hq hl hr)
  rw [show barX q l rs a = (barI q l rs a, 0) by unfold barX barE; rw [if_pos hmb, if_pos hv, if_pos ⟨a0, a1⟩]] at HBA
  have hsz := size_of hv a0 a1
  have HRD := Lib.hid (fun w => Round_c (sizeI l rs a) w)
  rw [show roundR (sizeI l rs a) = (halfI (sizeI l rs a), 0) by unfold roundR; rw [if_pos hsz]; rfl] at HRD
  have hhd := halfD_in hsz
  have HRB := Lib.hid (fun w hl hr => refBar_c l rs v u a hv a0 a1 w hl hr)
  obtain ⟨bc, bd, bad, bn, bcd, bdm, hbar⟩ := bar_form hv hl a0 a1
  rw [hbar] at HRB
  have hle := legsI_some hv a0 a1
  have hlm := legsI_most l rs a
  have hlv := legsI_valid hv a0 a1
  have HCV := Lib.hid (fun (b : Bx) (x y z : Int) (hb : b ∈ legsI l rs a) (hc : q.cover ≤ barI q l rs a) hx hy hz => covered (q := q) (x := x) (y := y) (z := z) (hlv b hb) hsz hmc.1 (Int.le_trans hc (coverL_le (q := q) (d := sizeI l rs a) hb)) hx hy hz)
  have HFD := Lib.hid (show barI q l rs a < q.cover → markI rs a ∈ coverTo q l rs (countS rs).toNat from fun h => by
    have := findings_has (q := q) (l := l) (rs := rs) (n := (countS rs).toNat) (i := a.toNat) (by omega) (by rw [Int.toNat_of_nonneg a0]; exact h)
    rwa [Int.toNat_of_nonneg a0] at this)
  have HLV := Lib.hid hlv
  have HIN := Lib.hid (fun x y z r h w hl hm => solidInside_v q.l q.m q.u q.t x y z r h w hl hm)
  have HSO := Lib.hid hms
  have HBI := Lib.hid (barI_in q l rs a)
  generalize barI q l rs a = C at *
  generalize markI rs a = MK at *
  generalize sizeI l rs a = SZ at *
  generalize halfI SZ = half at *
  generalize legsI l rs a = LG at *
  generalize coverTo q l rs (countS rs).toNat = CT at *
  generalize countS rs = N at *
  have g1 : (N == 0) = false := by simpa using h0
  obtain ⟨ua, uc, eu, -, -, -⟩ := hq.boxes.shape
  obtain ⟨ta, tc, et, -, -, -⟩ := hq.holes.shape
  have EU := Lib.hid eu
  have ET := Lib.hid et
  have HXYZ := Lib.hid (And.intro hdx (And.intro hdy (And.intro hdz hal)))
  have HHD := Lib.hid (And.intro hhd hmc)
  clear hq hl hr h1 hs hmb hv h14 h0 AW hms hmc hN1 hlg hsz hhd hbar hlv eu et hdx hdy hdz hal ha
  go_enter Tryz.func3, Tryz.ntmps3
  go_wp2_with fail
  go_at_call 4; refine (HAW.out _).mono ?_; rintro e w' ⟨rfl, x0, rfl⟩
  go_wp2_with fail
  go_at_call 5; refine (HFW.out _ (HL.out.below (by (repeat (first | exact grow_refl _ | refine grow_ext _ ?_ | refine grow_alloc _ ?_ | refine grow_drew ?_)))) (HR.out.below (by (repeat (first | exact grow_refl _ | refine grow_ext _ ?_ | refine grow_alloc _ ?_ | refine grow_drew ?_))))).mono ?_; rintro e w' ⟨q0, rfl, hfew, x1, rfl⟩
  cases q0
  · clear hfew
    go_wp2
    go_ret
    exact Ret.of (by (repeat (first | exact grow_refl _ | refine grow_ext _ ?_ | refine grow_alloc _ ?_ | refine grow_drew ?_)))
  have hfew := hfew rfl
  have HFE := Lib.hid hfew
  clear hfew
  go_wp2_with fail
  go_at_call 6; refine (HSM.out _ HSB.out _ (HQ.out.boxes.below (by (repeat (first | exact grow_refl _ | refine grow_ext _ ?_ | refine grow_alloc _ ?_ | refine grow_drew ?_)))) (HQ.out.holes.below (by (repeat (first | exact grow_refl _ | refine grow_ext _ ?_ | refine grow_alloc _ ?_ | refine grow_drew ?_))))).mono ?_; rintro e w' ⟨rfl, x2, rfl⟩
  go_wp2_with fail
  go_at_call 7; refine (HCK.out _ (HQ.out.below (by (repeat (first | exact grow_refl _ | refine grow_ext _ ?_ | refine grow_alloc _ ?_ | refine grow_drew ?_)))) (HL.out.below (by (repeat (first | exact grow_refl _ | refine grow_ext _ ?_ | refine grow_alloc _ ?_ | refine grow_drew ?_)))) (HR.out.below (by (repeat (first | exact grow_refl _ | refine grow_ext _ ?_ | refine grow_alloc _ ?_ | refine grow_drew ?_))))).mono ?_; rintro e w' hret
  obtain ⟨v19, rfl, hown19, y1, rfl⟩ := hret
  obtain ⟨a19, c19, rfl, -, -, -⟩ := own_shape hown19
  have HF := Lib.hid (Fds.of_own hown19)
  clear hown19
  go_wp2_with fail
  go_at_call 8; refine (HCN.out _ (HL.out.below (by (repeat (first | exact grow_refl _ | refine grow_ext _ ?_ | refine grow_alloc _ ?_ | refine grow_drew ?_)))) (HR.out.below (by (repeat (first | exact grow_refl _ | refine grow_ext _ ?_ | refine grow_alloc _ ?_ | refine grow_drew ?_))))).mono ?_; rintro e w' ⟨rfl, x4, rfl⟩
  go_wp2_with fail
  go_at_call 9; refine (HMK.out _ (HL.out.below (by (repeat (first | exact grow_refl _ | refine grow_ext _ ?_ | refine grow_alloc _ ?_ | refine grow_drew ?_)))) (HR.out.below (by (repeat (first | exact grow_refl _ | refine grow_ext _ ?_ | refine grow_alloc _ ?_ | refine grow_drew ?_))))).mono ?_; rintro e w' ⟨rfl, x5, rfl⟩
  go_wp2_with fail
  go_at_call 10; refine (HLG.out _ (HL.out.below (by (repeat (first | exact grow_refl _ | refine grow_ext _ ?_ | refine grow_alloc _ ?_ | refine grow_drew ?_)))) (HR.out.below (by (repeat (first | exact grow_refl _ | refine grow_ext _ ?_ | refine grow_alloc _ ?_ | refine grow_drew ?_))))).mono ?_; rintro e w' ⟨v26, rfl, hown26, x6, rfl⟩
  obtain ⟨a26, c26, rfl, -, -, -⟩ := own_shape hown26
  have HLB := Lib.hid (Boxes.of_own hown26)
  clear hown26
  have g2 : ((LG.length : Int) == 0) = false := by rw [beq_eq_false_iff_ne]; omega
  go_wp2_with fail
  go_at_call 11; refine (HBA.out _ (HQ.out.below (by (repeat (first | exact grow_refl _ | refine grow_ext _ ?_ | refine grow_alloc _ ?_ | refine grow_drew ?_)))) (HL.out.below (by (repeat (first | exact grow_refl _ | refine grow_ext _ ?_ | refine grow_alloc _ ?_ | refine grow_drew ?_)))) (HR.out.below (by (repeat (first | exact grow_refl _ | refine grow_ext _ ?_ | refine grow_alloc _ ?_ | refine grow_drew ?_))))).mono ?_; rintro e w' ⟨rfl, x7, rfl⟩
  have d2 : decide (C < q.cover) = false := by simp; omega
  have HHI := Lib.hid (show q.cover ≤ C by omega)
  clear hhigh
  go_wp2_with fail
  go_at_call 14; refine (HRB.out _ (HL.out.below (by (repeat (first | exact grow_refl _ | refine grow_ext _ ?_ | refine grow_alloc _ ?_ | refine grow_drew ?_)))) (HR.out.below (by (repeat (first | exact grow_refl _ | refine grow_ext _ ?_ | refine grow_alloc _ ?_ | refine grow_drew ?_))))).mono ?_; rintro e w' ⟨rfl, x8, rfl⟩
  go_wp2_with fail
  go_at_call 13; refine (HRD.out _).mono ?_; rintro e w' ⟨rfl, x9, rfl⟩
  go_upto_region 18 with fail
  obtain ⟨g30, hg30⟩ : ∃ g, g = (ext (ext (ext (ext (ext (ext (ext (ext (ext (ext ((w.alloc (.cells #[.string q.name, q.u, q.t, .int .i64 q.cover, .int .i64 q.agg, .int .i64 q.poker] 26)).alloc (.cells #[.int .u32 al] 29)) x0) x1) x2) y1) x4) x5) x6) x7) x8) x9).heap.size := ⟨_, rfl⟩
  simp only [World.size_alloc, size_ext] at hg30
  rw [← hg30]
  refine world_mask (fun W => Below w.heap.size w W ∧ Blk W w.heap.size #[.string q.name, q.u, q.t, .int .i64 q.cover, .int .i64 q.agg, .int .i64 q.poker] 26 ∧ Blk W (w.heap.size + 1) #[.int .u32 al] 29 ∧ Blk W g30 #[.int .i64 half] 3 ∧ Boxes W (.slice a26 LG.length c26) LG) _ ⟨by (repeat (first | exact grow_refl _ | refine grow_ext _ ?_ | refine grow_alloc _ ?_ | refine grow_drew ?_)), ((((((((((((Blk.new _ _ _).alloc _).ext _).ext _).ext _).ext _).ext _).ext _).ext _).ext _).ext _).ext _).alloc _, (((((((((((Blk.new' (by simp only [World.size_alloc]) _ _).ext _).ext _).ext _).ext _).ext _).ext _).ext _).ext _).ext _).ext _).alloc _, Blk.new' (by simp only [World.size_alloc, size_ext]; exact hg30) _ _, HLB.out.below (by (repeat (first | exact grow_refl _ | refine grow_ext _ ?_ | refine grow_alloc _ ?_ | refine grow_drew ?_)))⟩ ?_
  clear hg30
  generalize hg14 : w.heap.size + 1 = g14
  rintro W1 ⟨hb, h9, h14, h30, hbx⟩
  have k0 := Int.emod_nonneg qk (show (LG.length : Int) ≠ 0 by omega)
  have k1 := Int.emod_lt_of_pos qk (show 0 < (LG.length : Int) by omega)
  have ek : qk.tmod (LG.length : Int) = qk % (LG.length : Int) := Int.tmod_eq_emod_of_nonneg hqk.1
  obtain ⟨kk, hkk⟩ : ∃ k : Nat, qk % (LG.length : Int) = (k : Int) := ⟨(qk % (LG.length : Int)).toNat, by omega⟩
  rw [hkk] at k0 k1 ek
  have hlt : kk < LG.length := by omega
  obtain ⟨a', c', e', -, -, hb4⟩ := hbx.shape
  cases e'
  obtain ⟨bb, off, rfl, hba⟩ := hb4 kk hlt
  have hvb := HLV.out _ (List.getElem_mem hlt)
  have HCB := Lib.hid (fun x y z => HCV.out LG[kk] x y z (List.getElem_mem hlt) HHI.out)
  obtain ⟨B, hB⟩ : ∃ B, LG[kk] = B := ⟨_, rfl⟩
  rw [hB] at hba hvb HCB
  obtain ⟨c0, c1, c2, c3, c4, c5⟩ := hba
  have H9 := Lib.hid (And.intro hb (And.intro h9 (And.intro h14 h30)))
  clear hb h9 h14 h30 hbx hb4 hB hkk
  go_upto_region 22 with fail
  refine world_mask (fun W => Below w.heap.size w W ∧ Blk W w.heap.size #[.string q.name, q.u, q.t, .int .i64 q.cover, .int .i64 q.agg, .int .i64 q.poker] 26 ∧ Blk W g14 #[.int .u32 al] 29 ∧ Blk W g30 #[.int .i64 half] 3 ∧ Blk W W1.heap.size #[.int .i64 B.lx, .int .i64 B.ly, .int .i64 B.lz, .int .i64 B.hx, .int .i64 B.hy, .int .i64 B.hz] 56) _ ⟨grow_alloc _ H9.out.1, H9.out.2.1.alloc _, H9.out.2.2.1.alloc _, H9.out.2.2.2.alloc _, Blk.new _ _ _⟩ ?_
  generalize W1.heap.size = g32
  clear H9 c0 c1 c2 c3 c4 c5
  rintro W2 ⟨hb, h9, h14, h30, h32⟩
  obtain ⟨⟨v1, v2, v3⟩, ⟨v4, v5, v6⟩, v7, v8, v9⟩ : (-1048576 ≤ B.lx ∧ B.lx ≤ B.hx ∧ B.hx ≤ 1048576) ∧ (-1048576 ≤ B.ly ∧ B.ly ≤ B.hy ∧ B.hy ≤ 1048576) ∧ (-1048576 ≤ B.lz ∧ B.lz ≤ B.hz ∧ B.hz ≤ 1048576) := by
    have := valid_iff.1 hvb
    omega
  obtain ⟨hdx, hdy, hdz, hal⟩ := HXYZ.out
  obtain ⟨hhd, hmc⟩ := HHD.out
  have ox := one_in (al := al) (d := dx) v2 (show 0 ≤ half + q.cover by omega)
  have oy := one_in (al := al) (d := dy) v5 (show 0 ≤ half + q.cover by omega)
  have oz := one_in (al := al) (d := dz) v8 (show 0 ≤ half + q.cover by omega)
  have HON := Lib.hid (fun lo hi d h1 h2 h3 h4 xq => one54_c lo hi d half q.cover al w.heap.size g14 g30 h1 h2 h3 h4 hal ⟨by omega, by omega⟩ ⟨by omega, by omega⟩ (ext W2 xq) ((h30.ext xq).cell 0) ((h9.ext xq).cell 3) ((h14.ext xq).cell 0))
  have hct := HCB.out (oneI B.lx B.hx (half + q.cover) al dx) (oneI B.ly B.hy (half + q.cover) al dy) (oneI B.lz B.hz (half + q.cover) al dz) ox oy oz
  have hpv := containsS_valid (solid_iff.1 HSO.out).2.2.1 ⟨Int.le_refl _, Int.le_refl _, Int.le_refl _⟩ hct
  have HII := Lib.hid (HIN.out (oneI B.lx B.hx (half + q.cover) al dx) (oneI B.ly B.hy (half + q.cover) al dy) (oneI B.lz B.hz (half + q.cover) al dz) (true, 0) (by unfold insideR ptX; rw [if_pos HSO.out, if_pos hpv, hct]))
  have HB := Lib.hid hb
  have e0 : W2.cell? ⟨g32, 0, none⟩ = some (.int .i64 B.lx) := h32.cell 0
  have e1 : W2.cell? ⟨g32, 1, none⟩ = some (.int .i64 B.ly) := h32.cell 1
  have e2 : W2.cell? ⟨g32, 2, none⟩ = some (.int .i64 B.lz) := h32.cell 2
  have e3 : W2.cell? ⟨g32, 3, none⟩ = some (.int .i64 B.hx) := h32.cell 3
  have e4 : W2.cell? ⟨g32, 4, none⟩ = some (.int .i64 B.hy) := h32.cell 4
  have e5 : W2.cell? ⟨g32, 5, none⟩ = some (.int .i64 B.hz) := h32.cell 5
  have m1 : W2.cell? ⟨w.heap.size, 1, none⟩ = some q.u := h9.cell 1
  have m2 : W2.cell? ⟨w.heap.size, 2, none⟩ = some q.t := h9.cell 2
  clear ox oy oz hct hpv hb h9 h14 h30 h32 hvb
  refine wp_region_grows (by kernel_rfl) (by kernel_rfl) ?_
  repeat (go_big_quiet_step ((first | (go_at_call 15; exact Calls.quiet_ext (HON.out _ _ _ (by omega) (by omega) (by omega) (by omega) _)) | (go_at_call 16; exact Calls.quiet_ext (HII.out _ (HQ.out.boxes.below (HB.out.trans (Below.mono (by (repeat (first | exact grow_refl _ | refine grow_ext _ ?_ | refine grow_alloc _ ?_ | refine grow_drew ?_))) HB.out.size))) (HQ.out.holes.below (HB.out.trans (Below.mono (by (repeat (first | exact grow_refl _ | refine grow_ext _ ?_ | refine grow_alloc _ ?_ | refine grow_drew ?_))) HB.out.size))))))))
  refine wpQuiet_nil ?_; rintro _ ⟨xq, rfl⟩
  go_wp2
  go_ret
  exact Ret.of (HB.out.trans (Below.mono (by (repeat (first | exact grow_refl _ | refine grow_ext _ ?_ | refine grow_alloc _ ?_ | refine grow_drew ?_))) HB.out.size))

theorem lawTC_all (q : Mb) (l : List Br) (rs : List Rn) (v u : Value) (qi qk al dx dy dz : Int) (AW : ∀ w, Calls Tryz.prog 4 #[] w (Ret w (.bool true))) (hqi : 0 ≤ qi ∧ qi ≤ 255) (hqk : 0 ≤ qk ∧ qk ≤ 255) (hal : 0 ≤ al ∧ al ≤ 4294967295) (hdx : -32768 ≤ dx ∧ dx ≤ 32767) (hdy : -32768 ≤ dy ∧ dy ≤ 32767) (hdz : -32768 ≤ dz ∧ dz ≤ 32767) (w : World) (hq : MbAt w q) (hl : Bars w v l) (hr : Runs w u rs) :
    Calls Tryz.prog 3 #[(.agg #[.string q.name, q.u, q.t, .int .i64 q.cover, .int .i64 q.agg, .int .i64 q.poker]), v, u, .int .u8 qi, .int .u8 qk, .int .u32 al, .int .i16 dx, .int .i16 dy, .int .i16 dz] w (Ret w (.bool true)) := by
  by_cases h1 : q.name.size ≤ 60
  case neg => exact lawTC_name q l rs v u qi qk al dx dy dz AW h1 w hq hl hr
  cases hs : smallB q.l.length q.m.length 5
  · exact lawTC_small q l rs v u qi qk al dx dy dz AW h1 hs w hq hl hr
  by_cases he : mbB q = true ∧ laidB l rs = true
  case neg => exact lawTC_err q l rs v u qi qk al dx dy dz AW h1 hs he w hq hl hr
  obtain ⟨hmb, hv⟩ := he
  by_cases h14 : countS rs ≤ 14
  case neg => exact lawTC_many q l rs v u qi qk al dx dy dz AW h1 hs hmb hv h14 w hq hl hr
  by_cases h0 : countS rs = 0
  · exact lawTC_none q l rs v u qi qk al dx dy dz AW h1 hs hmb hv h14 h0 w hq hl hr
  by_cases hlow : barI q l rs (qi % countS rs) < q.cover
  · exact lawTC_low q l rs v u qi qk al dx dy dz AW h1 hs hmb hv h14 h0 hqi hqk hdx hdy hdz hal hlow w hq hl hr
  · exact lawTC_high q l rs v u qi qk al dx dy dz AW h1 hs hmb hv h14 h0 hqi hqk hdx hdy hdz hal hlow w hq hl hr

end Go.Proofs.YtmhhohancconaaaGreat
