/- PokerLess: the walk of the law. Printed by mkpokls.py. -/
import Derived.Test.YtmoechhfjmemaaaGreatPokX
import Derived.Test.YtmoechhfjmemaaaGreatPokK7
import Derived.Test.YtmoechhfjmemaaaGreatPokK8
import Derived.Test.YtmoechhfjmemaaaGreatPokK3
import Derived.Deep.DeepCutAuto
import Derived.Deep.CutBlock
namespace Go.Proofs.YtmoechhfjmemaaaGreat
open Go.RowKit
set_option maxRecDepth 20000

set_option maxHeartbeats 2000000 in
theorem less11_c (L : List Pt) (lv : Value) (g : Nat) (p : Pt) (w : World) (hc : w.cell? ⟨g, 0, none⟩ = some lv) (hp : Pts w lv L) :
    Calls Tryz.prog 41 (#[(.agg #[.int .i64 p.x, .int .i64 p.y, .int .i64 p.z])] ++ #[.pointer (some ⟨g, 0, none⟩)]) w (Ret w (.bool (!(L.any (eqPt p))))) := by
  show Calls Tryz.prog 41 #[(.agg #[.int .i64 p.x, .int .i64 p.y, .int .i64 p.z]), .pointer (some ⟨g, 0, none⟩)] w (Ret w (.bool (!(L.any (eqPt p)))))
  obtain ⟨a, c, rfl, -, -, -⟩ := hp.shape
  have HP := Lib.hid hp
  have HC := Lib.hid (fun v' w hv' => containsPt_v L p v' _ rfl w hv')
  generalize L.any (eqPt p) = B at *
  clear hp
  go_enter Tryz.func41, Tryz.ntmps41
  go_wp2_with fail
  go_at_call 42; refine (HC.out _ _ (HP.out.below (by (repeat (first | exact grow_refl _ | refine grow_ext _ ?_ | refine grow_alloc _ ?_ | refine grow_drew ?_))))).mono ?_; rintro e w' ⟨rfl, x1, rfl⟩
  go_wp2
  go_ret
  exact Ret.of (by (repeat (first | exact grow_refl _ | refine grow_ext _ ?_ | refine grow_alloc _ ?_ | refine grow_drew ?_)))
theorem enters_less11 : Enters 41 := enters_of Tryz.func41 (by decide) (by simp [Tryz.f41])

set_option maxHeartbeats 2000000 in
theorem within22_c (L A : List Pt) (lv av : Value) (g : Nat) (h : ∀ p ∈ A, p ∈ L) (w : World) (hc : w.cell? ⟨g, 0, none⟩ = some lv) (hp : Pts w lv L) (ha : Pts w av A) :
    Calls Tryz.prog 40 #[av, .pointer (some ⟨g, 0, none⟩)] w (Ret w (.bool true)) := by
  have HP := Lib.hid hp
  have HA := Lib.hid ha
  have HC := Lib.hid hc
  have HN := Lib.hid (show (A.any fun p => !(L.any (eqPt p))) = false by
    rw [List.any_eq_false]
    intro p hp
    rw [any_mem.2 (h p hp)]; decide)
  clear hc hp ha h
  go_enter Tryz.func40, Tryz.ntmps40
  go_wp2_with fail
  go_at_call 22
  refine (containsFunc_cPt _ enters_less11 #[.pointer (some ⟨g, 0, none⟩)] (fun p => !(L.any (eqPt p))) A av _ (HA.out.below (by (repeat (first | exact grow_refl _ | refine grow_ext _ ?_ | refine grow_alloc _ ?_ | refine grow_drew ?_)))) (fun b x hb => less11_c L lv g b _ (cell_ext_some HC.out x) (HP.out.ext x))).mono ?_
  rintro e w' ⟨rfl, x4, rfl⟩
  rw [HN.out]
  go_wp2
  go_ret
  exact Ret.of (by (repeat (first | exact grow_refl _ | refine grow_ext _ ?_ | refine grow_alloc _ ?_ | refine grow_drew ?_)))

theorem gridD_more {q : Mb} {R : List Rc} {st r r' : Int} (h : r ≤ r') : ∀ p ∈ gridD q R st r', p ∈ gridD q R st r := fun _ hp => dry_more h hp
theorem gridD_fewer {q : Mb} {R R' : List Rc} {st r : Int} (hs : ∀ c ∈ R', c ∈ R) (h1 : 1 ≤ st) : ∀ p ∈ gridD q R' st r, p ∈ gridD q R st r := fun _ hp => dry_fewer hs (grid_inc _ _ st h1) hp

set_option maxRecDepth 100000 in
set_option maxHeartbeats 16000000 in
theorem lawPLs_ef (q : Mb) (l : List Br) (rs : List Rn) (v u : Value) (st r mo k : Int) (E : Int) (he : (E != 0) = true) (hm : okMb q = false) (hde : dryE q l rs st r = ([], E)) (w : World) (hq : MbAt w q) (hl : Bars w v l) (hr : Runs w u rs) :
    Calls Tryz.prog 9 #[(.agg #[.string q.name, q.u, q.t, .int .i64 q.cover, .int .i64 q.agg, .int .i64 q.poker]), v, u, .int .i64 st, .int .i64 r, .int .u8 mo, .int .u8 k] w (Ret w (.bool true)) := by
  have HQ := Lib.hid hq
  have HL := Lib.hid hl
  have HR := Lib.hid hr
  have HM := Lib.hid (fun w hl hm' => refMember_v q.name q.l q.m q.u q.t q.cover q.agg q.poker false hm hq.name w hl hm')
  have HD := Lib.hid (fun w hq hl hr => pDry_c q l rs v u st r _ _ hde w hq hl hr)
  clear hq hl hr hm hde
  go_enter Tryz.func9, Tryz.ntmps9
  go_wp2_with fail
  go_at_call 11; refine (awake22_c _).mono ?_; rintro e w' ⟨rfl, x0, rfl⟩
  go_wp2_with fail
  go_at_call 12; refine (few22_c q l rs v _ _ (HQ.out.below (by (repeat (first | exact grow_refl _ | refine grow_ext _ ?_ | refine grow_alloc _ ?_ | refine grow_drew ?_)))) (HL.out.below (by (repeat (first | exact grow_refl _ | refine grow_ext _ ?_ | refine grow_alloc _ ?_ | refine grow_drew ?_)))) (HR.out.below (by (repeat (first | exact grow_refl _ | refine grow_ext _ ?_ | refine grow_alloc _ ?_ | refine grow_drew ?_))))).mono ?_; rintro e w' ⟨q0, rfl, x1, rfl⟩
  cases q0
  · go_wp2
    go_ret
    exact Ret.of (by (repeat (first | exact grow_refl _ | refine grow_ext _ ?_ | refine grow_alloc _ ?_ | refine grow_drew ?_)))
  go_wp2_with fail
  go_at_call 15; refine (HM.out _ (HQ.out.boxes.below (by (repeat (first | exact grow_refl _ | refine grow_ext _ ?_ | refine grow_alloc _ ?_ | refine grow_drew ?_)))) (HQ.out.holes.below (by (repeat (first | exact grow_refl _ | refine grow_ext _ ?_ | refine grow_alloc _ ?_ | refine grow_drew ?_))))).mono ?_; rintro e w' ⟨rfl, x2, rfl⟩
  go_wp2_with fail
  go_at_call 37; refine (HD.out _ (HQ.out.below (by (repeat (first | exact grow_refl _ | refine grow_ext _ ?_ | refine grow_alloc _ ?_ | refine grow_drew ?_)))) (HL.out.below (by (repeat (first | exact grow_refl _ | refine grow_ext _ ?_ | refine grow_alloc _ ?_ | refine grow_drew ?_)))) (HR.out.below (by (repeat (first | exact grow_refl _ | refine grow_ext _ ?_ | refine grow_alloc _ ?_ | refine grow_drew ?_))))).mono ?_; rintro e w' hret
  obtain ⟨ad, cd, rfl, kd, x4, rfl⟩ := hret.open0
  clear hret
  go_wp2
  go_ret
  exact Ret.of (by (repeat (first | exact grow_refl _ | refine grow_ext _ ?_ | refine grow_alloc _ ?_ | refine grow_drew ?_)))

set_option maxRecDepth 100000 in
set_option maxHeartbeats 16000000 in
theorem lawPLs_et (q : Mb) (l : List Br) (rs : List Rn) (v u : Value) (st r mo k : Int) (E : Int) (he : (E != 0) = true) (hm : okMb q = true) (hde : dryE q l rs st r = ([], E)) (w : World) (hq : MbAt w q) (hl : Bars w v l) (hr : Runs w u rs) :
    Calls Tryz.prog 9 #[(.agg #[.string q.name, q.u, q.t, .int .i64 q.cover, .int .i64 q.agg, .int .i64 q.poker]), v, u, .int .i64 st, .int .i64 r, .int .u8 mo, .int .u8 k] w (Ret w (.bool true)) := by
  have HQ := Lib.hid hq
  have HL := Lib.hid hl
  have HR := Lib.hid hr
  have HM := Lib.hid (fun w hl hm' => refMember_v q.name q.l q.m q.u q.t q.cover q.agg q.poker true hm hq.name w hl hm')
  have HLG := Lib.hid (fun w hq => large22_c q st hm w hq)
  have HD := Lib.hid (fun w hq hl hr => pDry_c q l rs v u st r _ _ hde w hq hl hr)
  clear hq hl hr hm hde
  go_enter Tryz.func9, Tryz.ntmps9
  go_wp2_with fail
  go_at_call 11; refine (awake22_c _).mono ?_; rintro e w' ⟨rfl, x0, rfl⟩
  go_wp2_with fail
  go_at_call 12; refine (few22_c q l rs v _ _ (HQ.out.below (by (repeat (first | exact grow_refl _ | refine grow_ext _ ?_ | refine grow_alloc _ ?_ | refine grow_drew ?_)))) (HL.out.below (by (repeat (first | exact grow_refl _ | refine grow_ext _ ?_ | refine grow_alloc _ ?_ | refine grow_drew ?_)))) (HR.out.below (by (repeat (first | exact grow_refl _ | refine grow_ext _ ?_ | refine grow_alloc _ ?_ | refine grow_drew ?_))))).mono ?_; rintro e w' ⟨q0, rfl, x1, rfl⟩
  cases q0
  · go_wp2
    go_ret
    exact Ret.of (by (repeat (first | exact grow_refl _ | refine grow_ext _ ?_ | refine grow_alloc _ ?_ | refine grow_drew ?_)))
  go_wp2_with fail
  go_at_call 15; refine (HM.out _ (HQ.out.boxes.below (by (repeat (first | exact grow_refl _ | refine grow_ext _ ?_ | refine grow_alloc _ ?_ | refine grow_drew ?_)))) (HQ.out.holes.below (by (repeat (first | exact grow_refl _ | refine grow_ext _ ?_ | refine grow_alloc _ ?_ | refine grow_drew ?_))))).mono ?_; rintro e w' ⟨rfl, x2, rfl⟩
  go_wp2_with fail
  go_at_call 30; refine (HLG.out _ (HQ.out.below (by (repeat (first | exact grow_refl _ | refine grow_ext _ ?_ | refine grow_alloc _ ?_ | refine grow_drew ?_))))).mono ?_; rintro e w' ⟨b0, rfl, x3, rfl⟩
  cases b0
  case true =>
    go_wp2
    go_ret
    exact Ret.of (by (repeat (first | exact grow_refl _ | refine grow_ext _ ?_ | refine grow_alloc _ ?_ | refine grow_drew ?_)))
  go_wp2_with fail
  go_at_call 37; refine (HD.out _ (HQ.out.below (by (repeat (first | exact grow_refl _ | refine grow_ext _ ?_ | refine grow_alloc _ ?_ | refine grow_drew ?_)))) (HL.out.below (by (repeat (first | exact grow_refl _ | refine grow_ext _ ?_ | refine grow_alloc _ ?_ | refine grow_drew ?_)))) (HR.out.below (by (repeat (first | exact grow_refl _ | refine grow_ext _ ?_ | refine grow_alloc _ ?_ | refine grow_drew ?_))))).mono ?_; rintro e w' hret
  obtain ⟨ad, cd, rfl, kd, x4, rfl⟩ := hret.open0
  clear hret
  go_wp2
  go_ret
  exact Ret.of (by (repeat (first | exact grow_refl _ | refine grow_ext _ ?_ | refine grow_alloc _ ?_ | refine grow_drew ?_)))

set_option maxRecDepth 100000 in
set_option maxHeartbeats 16000000 in
theorem lawPLs_big (q : Mb) (l : List Br) (rs : List Rn) (v u : Value) (st r mo k : Int) (hmo : 0 ≤ mo ∧ mo ≤ 255) (hk : 0 ≤ k ∧ k ≤ 255) (hm : okMb q = true) (hv : laidB l rs = true) (hs : stepB st = true) (hrc : reachB r = true) (hlg : largeB q st = false) (hbig : reachB (r + mo) = false) (w : World) (hq : MbAt w q) (hl : Bars w v l) (hr : Runs w u rs) :
    Calls Tryz.prog 9 #[(.agg #[.string q.name, q.u, q.t, .int .i64 q.cover, .int .i64 q.agg, .int .i64 q.poker]), v, u, .int .i64 st, .int .i64 r, .int .u8 mo, .int .u8 k] w (Ret w (.bool true)) := by
  have HQ := Lib.hid hq
  have HL := Lib.hid hl
  have HR := Lib.hid hr
  have HM := Lib.hid (fun w hl hm' => refMember_v q.name q.l q.m q.u q.t q.cover q.agg q.poker true hm hq.name w hl hm')
  have HLG := Lib.hid (fun w hq => large22_c q st hm w hq)
  obtain ⟨h1, h2⟩ := stepB_iff.1 hs
  obtain ⟨r1, r2⟩ := reachB_iff.1 hrc
  have HD := Lib.hid (fun w hq hl hr => pDry_c q l rs v u st r _ _ (show dryE q l rs st r = (gridD q (rodsI l rs) st r, 0) by unfold dryE; rw [if_pos ⟨hm, hv⟩, hs, hrc, if_pos (by decide), hlg, if_neg (by decide)]) w hq hl hr)
  have HCN := Lib.hid (fun w hl hr => count_c l rs v u w hl hr)
  rw [show countE l rs = (countS rs, 0) by unfold countE; rw [if_pos hv]] at HCN
  have HRL := Lib.hid (show countS rs ≠ 0 → 0 < rs.length from fun h => by cases rs with | nil => exact absurd rfl h | cons a b => simp)
  have HRC := Lib.hid (laidB_iff.1 hv).2.1
  have HRS := Lib.hid (Runs.marks hr)
  have HDF := Lib.hid (fun (i : Nat) (hi : i < rs.length) u' w hq hl hr => pDry_c q l (rs.take i ++ rs.drop (i + 1)) v u' st r _ _ (show dryE q l (rs.take i ++ rs.drop (i + 1)) st r = (gridD q (rodsI l (rs.take i ++ rs.drop (i + 1))) st r, 0) by unfold dryE; rw [if_pos ⟨hm, laid_erase hv hi⟩, hs, hrc, if_pos (by decide), hlg, if_neg (by decide)]) w hq hl hr)
  have HWF := Lib.hid (fun (i : Nat) (hi : i < rs.length) => gridD_fewer (q := q) (st := st) (r := r) (rods_erase hv hi) h1)
  have HKK := Lib.hid hk
  have w1 : IntKind.i64.wrap mo = mo := IntWalk.i64_in _ (by omega)
  have w2 : IntKind.i64.wrap k = k := IntWalk.i64_in _ (by omega)
  have HD2 := Lib.hid (fun w hq hl hr => pDry_c q l rs v u st (r + mo) _ _ (show dryE q l rs st (r + mo) = ([], 2) by unfold dryE; rw [if_pos ⟨hm, hv⟩, hs, hbig, if_neg (by decide)]) w hq hl hr)
  generalize gridD q (rodsI l rs) st r = D at *
  generalize countS rs = N at *
  obtain ⟨ua, uc, rfl, u2, u3, -⟩ := hr.shape
  clear hq hl hr hm hv hs hlg hrc h1 h2 hbig hk
  go_enter Tryz.func9, Tryz.ntmps9
  go_wp2_with fail
  go_at_call 11; refine (awake22_c _).mono ?_; rintro e w' ⟨rfl, x0, rfl⟩
  go_wp2_with fail
  go_at_call 12; refine (few22_c q l rs v _ _ (HQ.out.below (by (repeat (first | exact grow_refl _ | refine grow_ext _ ?_ | refine grow_alloc _ ?_ | refine grow_drew ?_)))) (HL.out.below (by (repeat (first | exact grow_refl _ | refine grow_ext _ ?_ | refine grow_alloc _ ?_ | refine grow_drew ?_)))) (HR.out.below (by (repeat (first | exact grow_refl _ | refine grow_ext _ ?_ | refine grow_alloc _ ?_ | refine grow_drew ?_))))).mono ?_; rintro e w' ⟨q0, rfl, x1, rfl⟩
  cases q0
  · go_wp2
    go_ret
    exact Ret.of (by (repeat (first | exact grow_refl _ | refine grow_ext _ ?_ | refine grow_alloc _ ?_ | refine grow_drew ?_)))
  go_wp2_with fail
  go_at_call 15; refine (HM.out _ (HQ.out.boxes.below (by (repeat (first | exact grow_refl _ | refine grow_ext _ ?_ | refine grow_alloc _ ?_ | refine grow_drew ?_)))) (HQ.out.holes.below (by (repeat (first | exact grow_refl _ | refine grow_ext _ ?_ | refine grow_alloc _ ?_ | refine grow_drew ?_))))).mono ?_; rintro e w' ⟨rfl, x2, rfl⟩
  go_wp2_with fail
  go_at_call 30; refine (HLG.out _ (HQ.out.below (by (repeat (first | exact grow_refl _ | refine grow_ext _ ?_ | refine grow_alloc _ ?_ | refine grow_drew ?_))))).mono ?_; rintro e w' ⟨b0, rfl, x3, rfl⟩
  cases b0
  case true =>
    go_wp2
    go_ret
    exact Ret.of (by (repeat (first | exact grow_refl _ | refine grow_ext _ ?_ | refine grow_alloc _ ?_ | refine grow_drew ?_)))
  go_wp2_with fail
  go_at_call 37; refine (HD.out _ (HQ.out.below (by (repeat (first | exact grow_refl _ | refine grow_ext _ ?_ | refine grow_alloc _ ?_ | refine grow_drew ?_)))) (HL.out.below (by (repeat (first | exact grow_refl _ | refine grow_ext _ ?_ | refine grow_alloc _ ?_ | refine grow_drew ?_)))) (HR.out.below (by (repeat (first | exact grow_refl _ | refine grow_ext _ ?_ | refine grow_alloc _ ?_ | refine grow_drew ?_))))).mono ?_; rintro e w' hret
  obtain ⟨ad, cd, rfl, kd, k9, hpd, x4, rfl⟩ := hret.open
  have HDT := Lib.hid hpd
  clear hret hpd
  go_upto_region 8 with fail
  refine world_mask (fun W => Below w.heap.size w W ∧ MCells22 W w.heap.size q.name q.u q.t q.cover q.agg q.poker ∧ W.cell? ⟨w.heap.size + 1 + x0.heap.size + x1.heap.size + x2.heap.size + x3.heap.size + x4.heap.size, 0, none⟩ = some (.slice ad D.length cd) ∧ Pts W (.slice ad D.length cd) D) _ ⟨by (repeat (first | exact grow_refl _ | refine grow_ext _ ?_ | refine grow_alloc _ ?_ | refine grow_drew ?_)), by simp [MCells22, go_sem], by simp [go_sem, Nat.add_assoc], HDT.out.below (by (repeat (first | exact grow_refl _ | refine grow_ext _ ?_ | refine grow_alloc _ ?_ | refine grow_drew ?_)))⟩ ?_
  clear HDT HD
  rintro W0 ⟨hb, hm0, hgl, hpd⟩
  generalize w.heap.size + 1 + x0.heap.size + x1.heap.size + x2.heap.size + x3.heap.size + x4.heap.size = gl at *
  have HB0 := Lib.hid hb
  have HM0 := Lib.hid hm0
  have HGL := Lib.hid hgl
  have HPD := Lib.hid hpd
  obtain ⟨m0, m1, m2, m3, m4, m5⟩ := hm0
  clear hb hpd
  go_wp2_with fail
  go_at_call 37; refine (HD2.out _ (HQ.out.below HB0.out) (HL.out.below HB0.out) (HR.out.below HB0.out)).mono ?_; rintro e w' hret
  obtain ⟨a2, c2, rfl, k2, x5, rfl⟩ := hret.open0
  clear hret
  clear m0 m1 m2 m3 m4 m5 hgl
  go_wp2_with fail
  go_at_call 43; refine (HCN.out _ ((HL.out.below HB0.out).below (by (repeat (first | exact grow_refl _ | refine grow_ext _ ?_ | refine grow_alloc _ ?_ | refine grow_drew ?_)))) ((HR.out.below HB0.out).below (by (repeat (first | exact grow_refl _ | refine grow_ext _ ?_ | refine grow_alloc _ ?_ | refine grow_drew ?_))))).mono ?_; rintro e w' ⟨rfl, y1, rfl⟩
  by_cases h0 : N = 0
  · have d0 : (N == 0) = true := by rw [h0]; rfl
    clear h0
    go_wp2
    go_ret
    exact Ret.of (below22 HB0.out (by (repeat (first | exact grow_refl _ | refine grow_ext _ ?_ | refine grow_alloc _ ?_ | refine grow_drew ?_))))
  have d0 : (N == 0) = false := by rw [beq_eq_false_iff_ne]; exact h0
  have hrl := HRL.out h0
  obtain ⟨J, hJ⟩ : ∃ J : Nat, k % (rs.length : Int) = J := ⟨(k % (rs.length : Int)).toNat, by have := Int.emod_nonneg k (show (rs.length : Int) ≠ 0 by omega); omega⟩
  have hJn : J < rs.length := by have := Int.emod_lt_of_pos k (show (0 : Int) < (rs.length : Int) by omega); omega
  have r2 : k.tmod (rs.length : Int) = J := by rw [Int.tmod_eq_emod_of_nonneg HKK.out.1, hJ]
  have z2 : (rs.length : Int) ≠ 0 := by omega
  have HDJ := Lib.hid (HDF.out J hJn)
  have HWJ := Lib.hid (HWF.out J hJn)
  have HJN := Lib.hid hJn
  have HRLN := Lib.hid hrl
  have k4 : IntKind.i64.wrap ((J : Int) + 1) = (J : Int) + 1 := IntWalk.i64_in _ (by have := HRC.out; omega)
  obtain ⟨W1, hW1⟩ : ∃ W1 : World, W1 = ext (ext W0 x5) y1 := ⟨_, rfl⟩
  rw [← hW1]
  have HBW := Lib.hid (show Below W0.heap.size W0 W1 by rw [hW1]; exact (by (repeat (first | exact grow_refl _ | refine grow_ext _ ?_ | refine grow_alloc _ ?_ | refine grow_drew ?_))))
  have hm1 : MCells22 W1 w.heap.size q.name q.u q.t q.cover q.agg q.poker := by obtain ⟨z, ez⟩ := ext_of HBW.out; rw [ez]; exact HM0.out.ext z
  have hgl1 : W1.cell? ⟨gl, 0, none⟩ = some (.slice ad D.length cd) := by obtain ⟨z, ez⟩ := ext_of HBW.out; rw [ez]; exact cell_ext_some HGL.out z
  have HPD1 := Lib.hid (HPD.out.below HBW.out)
  have HB1 := Lib.hid (below22 HB0.out HBW.out)
  have HM1 := Lib.hid hm1
  have HGL1 := Lib.hid hgl1
  obtain ⟨m0, m1, m2, m3, m4, m5⟩ := hm1
  clear hJ h0 hW1 hrl hgl1
  go_upto_region 16 with fail
  go_cut [23, 24] (fun s23 s24 wx => s24 = .int .i64 0 ∧ ∃ D2 : List Pt, Pts wx s23 D2 ∧ (∀ p ∈ D2, p ∈ D) ∧ Below W1.heap.size W1 wx)
  case first =>
    go_region_with (first
      | (go_at_call 29; refine (cloneRn_c rs _ _ ((HR.out.below HB1.out).below (by (repeat (first | exact grow_refl _ | refine grow_ext _ ?_ | refine grow_alloc _ ?_ | refine grow_drew ?_)))) (by have := HRC.out; omega)).mono ?_; rintro e w' ⟨vc, rfl, hown, xc, rfl⟩; try (rw [ext_drew] at hown); have HOWN := Lib.hid hown; clear hown)
      | (go_at_call 28; refine (deleteRn_c rs HRS.out J HJN.out _ _ _ HOWN.out).mono ?_; rintro e w' ⟨vd, rfl, hrd, hbd⟩; have HBD := Lib.hid (Below.trans (show Below W1.heap.size W1 _ from (by (repeat (first | exact grow_refl _ | refine grow_ext _ ?_ | refine grow_alloc _ ?_ | refine grow_drew ?_)))) hbd); have HRD := Lib.hid hrd; have hm9 : MCells22 w' w.heap.size q.name q.u q.t q.cover q.agg q.poker := (by obtain ⟨z, ez⟩ := ext_of HBD.out; rw [ez]; exact HM1.out.ext z); obtain ⟨k0, k1, k2, k3, k4, k5⟩ := hm9; clear hrd hbd)
      | (go_at_call 37; refine (HDJ.out _ _ (HQ.out.below (below22 HB1.out HBD.out)) (HL.out.below (below22 HB1.out HBD.out)) HRD.out).mono ?_; rintro e w' hret; obtain ⟨a3, c3, rfl, k3, n3, hp3, x7, rfl⟩ := hret.open; have HP3 := Lib.hid hp3; clear hret hp3))
    all_goals
      go_wp2_with fail
      go_meet
      exact ⟨rfl, _, HP3.out, HWJ.out, below22 HBD.out (by (repeat (first | exact grow_refl _ | refine grow_ext _ ?_ | refine grow_alloc _ ?_ | refine grow_drew ?_)))⟩
  case rest =>
    obtain ⟨rfl, D2, hp2, hsub, hbl⟩ := hcut
    obtain ⟨W2, rfl⟩ : ∃ W : World, W = wc := ⟨_, rfl⟩
    have HB2 := Lib.hid (below22 HB1.out hbl)
    have HP2 := Lib.hid hp2
    have HPD2 := Lib.hid (HPD1.out.below hbl)
    have HGL2 := Lib.hid (show W2.cell? ⟨gl, 0, none⟩ = some (.slice ad D.length cd) by obtain ⟨z, ez⟩ := ext_of hbl; rw [ez]; exact cell_ext_some HGL1.out z)
    have HSUB := Lib.hid hsub
    obtain ⟨a4, c4, rfl, -, -, -⟩ := hp2.shape
    clear hp2 hbl hsub m0 m1 m2 m3 m4 m5
    go_wp2_with fail
    go_at_call 40; refine (within22_c D D2 _ _ gl HSUB.out _ HGL2.out HPD2.out HP2.out).mono ?_; rintro e w' ⟨rfl, x8, rfl⟩
    go_wp2
    go_ret
    exact Ret.of (below22 HB2.out (by (repeat (first | exact grow_refl _ | refine grow_ext _ ?_ | refine grow_alloc _ ?_ | refine grow_drew ?_))))

set_option maxRecDepth 100000 in
set_option maxHeartbeats 16000000 in
theorem lawPLs_ok (q : Mb) (l : List Br) (rs : List Rn) (v u : Value) (st r mo k : Int) (hmo : 0 ≤ mo ∧ mo ≤ 255) (hk : 0 ≤ k ∧ k ≤ 255) (hm : okMb q = true) (hv : laidB l rs = true) (hs : stepB st = true) (hrc : reachB r = true) (hlg : largeB q st = false) (hbig : reachB (r + mo) = true) (w : World) (hq : MbAt w q) (hl : Bars w v l) (hr : Runs w u rs) :
    Calls Tryz.prog 9 #[(.agg #[.string q.name, q.u, q.t, .int .i64 q.cover, .int .i64 q.agg, .int .i64 q.poker]), v, u, .int .i64 st, .int .i64 r, .int .u8 mo, .int .u8 k] w (Ret w (.bool true)) := by
  have HQ := Lib.hid hq
  have HL := Lib.hid hl
  have HR := Lib.hid hr
  have HM := Lib.hid (fun w hl hm' => refMember_v q.name q.l q.m q.u q.t q.cover q.agg q.poker true hm hq.name w hl hm')
  have HLG := Lib.hid (fun w hq => large22_c q st hm w hq)
  obtain ⟨h1, h2⟩ := stepB_iff.1 hs
  obtain ⟨r1, r2⟩ := reachB_iff.1 hrc
  have HD := Lib.hid (fun w hq hl hr => pDry_c q l rs v u st r _ _ (show dryE q l rs st r = (gridD q (rodsI l rs) st r, 0) by unfold dryE; rw [if_pos ⟨hm, hv⟩, hs, hrc, if_pos (by decide), hlg, if_neg (by decide)]) w hq hl hr)
  have HCN := Lib.hid (fun w hl hr => count_c l rs v u w hl hr)
  rw [show countE l rs = (countS rs, 0) by unfold countE; rw [if_pos hv]] at HCN
  have HRL := Lib.hid (show countS rs ≠ 0 → 0 < rs.length from fun h => by cases rs with | nil => exact absurd rfl h | cons a b => simp)
  have HRC := Lib.hid (laidB_iff.1 hv).2.1
  have HRS := Lib.hid (Runs.marks hr)
  have HDF := Lib.hid (fun (i : Nat) (hi : i < rs.length) u' w hq hl hr => pDry_c q l (rs.take i ++ rs.drop (i + 1)) v u' st r _ _ (show dryE q l (rs.take i ++ rs.drop (i + 1)) st r = (gridD q (rodsI l (rs.take i ++ rs.drop (i + 1))) st r, 0) by unfold dryE; rw [if_pos ⟨hm, laid_erase hv hi⟩, hs, hrc, if_pos (by decide), hlg, if_neg (by decide)]) w hq hl hr)
  have HWF := Lib.hid (fun (i : Nat) (hi : i < rs.length) => gridD_fewer (q := q) (st := st) (r := r) (rods_erase hv hi) h1)
  have HKK := Lib.hid hk
  have w1 : IntKind.i64.wrap mo = mo := IntWalk.i64_in _ (by omega)
  have w2 : IntKind.i64.wrap k = k := IntWalk.i64_in _ (by omega)
  have HD2 := Lib.hid (fun w hq hl hr => pDry_c q l rs v u st (r + mo) _ _ (show dryE q l rs st (r + mo) = (gridD q (rodsI l rs) st (r + mo), 0) by unfold dryE; rw [if_pos ⟨hm, hv⟩, hs, hbig, if_pos (by decide), hlg, if_neg (by decide)]) w hq hl hr)
  have HW2 := Lib.hid (fun lv av g w hc hp ha => within22_c _ _ lv av g (gridD_more (q := q) (R := rodsI l rs) (st := st) (r := r) (r' := r + mo) (by omega)) w hc hp ha)
  generalize gridD q (rodsI l rs) st (r + mo) = A2 at *
  generalize gridD q (rodsI l rs) st r = D at *
  generalize countS rs = N at *
  obtain ⟨ua, uc, rfl, u2, u3, -⟩ := hr.shape
  clear hq hl hr hm hv hs hlg hrc h1 h2 hbig hk
  go_enter Tryz.func9, Tryz.ntmps9
  go_wp2_with fail
  go_at_call 11; refine (awake22_c _).mono ?_; rintro e w' ⟨rfl, x0, rfl⟩
  go_wp2_with fail
  go_at_call 12; refine (few22_c q l rs v _ _ (HQ.out.below (by (repeat (first | exact grow_refl _ | refine grow_ext _ ?_ | refine grow_alloc _ ?_ | refine grow_drew ?_)))) (HL.out.below (by (repeat (first | exact grow_refl _ | refine grow_ext _ ?_ | refine grow_alloc _ ?_ | refine grow_drew ?_)))) (HR.out.below (by (repeat (first | exact grow_refl _ | refine grow_ext _ ?_ | refine grow_alloc _ ?_ | refine grow_drew ?_))))).mono ?_; rintro e w' ⟨q0, rfl, x1, rfl⟩
  cases q0
  · go_wp2
    go_ret
    exact Ret.of (by (repeat (first | exact grow_refl _ | refine grow_ext _ ?_ | refine grow_alloc _ ?_ | refine grow_drew ?_)))
  go_wp2_with fail
  go_at_call 15; refine (HM.out _ (HQ.out.boxes.below (by (repeat (first | exact grow_refl _ | refine grow_ext _ ?_ | refine grow_alloc _ ?_ | refine grow_drew ?_)))) (HQ.out.holes.below (by (repeat (first | exact grow_refl _ | refine grow_ext _ ?_ | refine grow_alloc _ ?_ | refine grow_drew ?_))))).mono ?_; rintro e w' ⟨rfl, x2, rfl⟩
  go_wp2_with fail
  go_at_call 30; refine (HLG.out _ (HQ.out.below (by (repeat (first | exact grow_refl _ | refine grow_ext _ ?_ | refine grow_alloc _ ?_ | refine grow_drew ?_))))).mono ?_; rintro e w' ⟨b0, rfl, x3, rfl⟩
  cases b0
  case true =>
    go_wp2
    go_ret
    exact Ret.of (by (repeat (first | exact grow_refl _ | refine grow_ext _ ?_ | refine grow_alloc _ ?_ | refine grow_drew ?_)))
  go_wp2_with fail
  go_at_call 37; refine (HD.out _ (HQ.out.below (by (repeat (first | exact grow_refl _ | refine grow_ext _ ?_ | refine grow_alloc _ ?_ | refine grow_drew ?_)))) (HL.out.below (by (repeat (first | exact grow_refl _ | refine grow_ext _ ?_ | refine grow_alloc _ ?_ | refine grow_drew ?_)))) (HR.out.below (by (repeat (first | exact grow_refl _ | refine grow_ext _ ?_ | refine grow_alloc _ ?_ | refine grow_drew ?_))))).mono ?_; rintro e w' hret
  obtain ⟨ad, cd, rfl, kd, k9, hpd, x4, rfl⟩ := hret.open
  have HDT := Lib.hid hpd
  clear hret hpd
  go_upto_region 8 with fail
  refine world_mask (fun W => Below w.heap.size w W ∧ MCells22 W w.heap.size q.name q.u q.t q.cover q.agg q.poker ∧ W.cell? ⟨w.heap.size + 1 + x0.heap.size + x1.heap.size + x2.heap.size + x3.heap.size + x4.heap.size, 0, none⟩ = some (.slice ad D.length cd) ∧ Pts W (.slice ad D.length cd) D) _ ⟨by (repeat (first | exact grow_refl _ | refine grow_ext _ ?_ | refine grow_alloc _ ?_ | refine grow_drew ?_)), by simp [MCells22, go_sem], by simp [go_sem, Nat.add_assoc], HDT.out.below (by (repeat (first | exact grow_refl _ | refine grow_ext _ ?_ | refine grow_alloc _ ?_ | refine grow_drew ?_)))⟩ ?_
  clear HDT HD
  rintro W0 ⟨hb, hm0, hgl, hpd⟩
  generalize w.heap.size + 1 + x0.heap.size + x1.heap.size + x2.heap.size + x3.heap.size + x4.heap.size = gl at *
  have HB0 := Lib.hid hb
  have HM0 := Lib.hid hm0
  have HGL := Lib.hid hgl
  have HPD := Lib.hid hpd
  obtain ⟨m0, m1, m2, m3, m4, m5⟩ := hm0
  clear hb hpd
  go_wp2_with fail
  go_at_call 37; refine (HD2.out _ (HQ.out.below HB0.out) (HL.out.below HB0.out) (HR.out.below HB0.out)).mono ?_; rintro e w' hret
  obtain ⟨a2, c2, rfl, k2, n2, hpa, x5, rfl⟩ := hret.open
  have HPA := Lib.hid hpa
  clear hret hpa
  go_wp2_with fail
  go_at_call 40; refine (HW2.out _ _ _ _ (cell_ext_some HGL.out _) (HPD.out.ext _) HPA.out).mono ?_; rintro e w' ⟨rfl, x6, rfl⟩
  clear m0 m1 m2 m3 m4 m5 hgl
  go_wp2_with fail
  go_at_call 43; refine (HCN.out _ ((HL.out.below HB0.out).below (by (repeat (first | exact grow_refl _ | refine grow_ext _ ?_ | refine grow_alloc _ ?_ | refine grow_drew ?_)))) ((HR.out.below HB0.out).below (by (repeat (first | exact grow_refl _ | refine grow_ext _ ?_ | refine grow_alloc _ ?_ | refine grow_drew ?_))))).mono ?_; rintro e w' ⟨rfl, y1, rfl⟩
  by_cases h0 : N = 0
  · have d0 : (N == 0) = true := by rw [h0]; rfl
    clear h0
    go_wp2
    go_ret
    exact Ret.of (below22 HB0.out (by (repeat (first | exact grow_refl _ | refine grow_ext _ ?_ | refine grow_alloc _ ?_ | refine grow_drew ?_))))
  have d0 : (N == 0) = false := by rw [beq_eq_false_iff_ne]; exact h0
  have hrl := HRL.out h0
  obtain ⟨J, hJ⟩ : ∃ J : Nat, k % (rs.length : Int) = J := ⟨(k % (rs.length : Int)).toNat, by have := Int.emod_nonneg k (show (rs.length : Int) ≠ 0 by omega); omega⟩
  have hJn : J < rs.length := by have := Int.emod_lt_of_pos k (show (0 : Int) < (rs.length : Int) by omega); omega
  have r2 : k.tmod (rs.length : Int) = J := by rw [Int.tmod_eq_emod_of_nonneg HKK.out.1, hJ]
  have z2 : (rs.length : Int) ≠ 0 := by omega
  have HDJ := Lib.hid (HDF.out J hJn)
  have HWJ := Lib.hid (HWF.out J hJn)
  have HJN := Lib.hid hJn
  have HRLN := Lib.hid hrl
  have k4 : IntKind.i64.wrap ((J : Int) + 1) = (J : Int) + 1 := IntWalk.i64_in _ (by have := HRC.out; omega)
  obtain ⟨W1, hW1⟩ : ∃ W1 : World, W1 = ext (ext (ext W0 x5) x6) y1 := ⟨_, rfl⟩
  rw [← hW1]
  have HBW := Lib.hid (show Below W0.heap.size W0 W1 by rw [hW1]; exact (by (repeat (first | exact grow_refl _ | refine grow_ext _ ?_ | refine grow_alloc _ ?_ | refine grow_drew ?_))))
  have hm1 : MCells22 W1 w.heap.size q.name q.u q.t q.cover q.agg q.poker := by obtain ⟨z, ez⟩ := ext_of HBW.out; rw [ez]; exact HM0.out.ext z
  have hgl1 : W1.cell? ⟨gl, 0, none⟩ = some (.slice ad D.length cd) := by obtain ⟨z, ez⟩ := ext_of HBW.out; rw [ez]; exact cell_ext_some HGL.out z
  have HPD1 := Lib.hid (HPD.out.below HBW.out)
  have HB1 := Lib.hid (below22 HB0.out HBW.out)
  have HM1 := Lib.hid hm1
  have HGL1 := Lib.hid hgl1
  obtain ⟨m0, m1, m2, m3, m4, m5⟩ := hm1
  clear hJ h0 hW1 hrl hgl1
  go_upto_region 16 with fail
  go_cut [23, 24] (fun s23 s24 wx => s24 = .int .i64 0 ∧ ∃ D2 : List Pt, Pts wx s23 D2 ∧ (∀ p ∈ D2, p ∈ D) ∧ Below W1.heap.size W1 wx)
  case first =>
    go_region_with (first
      | (go_at_call 29; refine (cloneRn_c rs _ _ ((HR.out.below HB1.out).below (by (repeat (first | exact grow_refl _ | refine grow_ext _ ?_ | refine grow_alloc _ ?_ | refine grow_drew ?_)))) (by have := HRC.out; omega)).mono ?_; rintro e w' ⟨vc, rfl, hown, xc, rfl⟩; try (rw [ext_drew] at hown); have HOWN := Lib.hid hown; clear hown)
      | (go_at_call 28; refine (deleteRn_c rs HRS.out J HJN.out _ _ _ HOWN.out).mono ?_; rintro e w' ⟨vd, rfl, hrd, hbd⟩; have HBD := Lib.hid (Below.trans (show Below W1.heap.size W1 _ from (by (repeat (first | exact grow_refl _ | refine grow_ext _ ?_ | refine grow_alloc _ ?_ | refine grow_drew ?_)))) hbd); have HRD := Lib.hid hrd; have hm9 : MCells22 w' w.heap.size q.name q.u q.t q.cover q.agg q.poker := (by obtain ⟨z, ez⟩ := ext_of HBD.out; rw [ez]; exact HM1.out.ext z); obtain ⟨k0, k1, k2, k3, k4, k5⟩ := hm9; clear hrd hbd)
      | (go_at_call 37; refine (HDJ.out _ _ (HQ.out.below (below22 HB1.out HBD.out)) (HL.out.below (below22 HB1.out HBD.out)) HRD.out).mono ?_; rintro e w' hret; obtain ⟨a3, c3, rfl, k3, n3, hp3, x7, rfl⟩ := hret.open; have HP3 := Lib.hid hp3; clear hret hp3))
    all_goals
      go_wp2_with fail
      go_meet
      exact ⟨rfl, _, HP3.out, HWJ.out, below22 HBD.out (by (repeat (first | exact grow_refl _ | refine grow_ext _ ?_ | refine grow_alloc _ ?_ | refine grow_drew ?_)))⟩
  case rest =>
    obtain ⟨rfl, D2, hp2, hsub, hbl⟩ := hcut
    obtain ⟨W2, rfl⟩ : ∃ W : World, W = wc := ⟨_, rfl⟩
    have HB2 := Lib.hid (below22 HB1.out hbl)
    have HP2 := Lib.hid hp2
    have HPD2 := Lib.hid (HPD1.out.below hbl)
    have HGL2 := Lib.hid (show W2.cell? ⟨gl, 0, none⟩ = some (.slice ad D.length cd) by obtain ⟨z, ez⟩ := ext_of hbl; rw [ez]; exact cell_ext_some HGL1.out z)
    have HSUB := Lib.hid hsub
    obtain ⟨a4, c4, rfl, -, -, -⟩ := hp2.shape
    clear hp2 hbl hsub m0 m1 m2 m3 m4 m5
    go_wp2_with fail
    go_at_call 40; refine (within22_c D D2 _ _ gl HSUB.out _ HGL2.out HPD2.out HP2.out).mono ?_; rintro e w' ⟨rfl, x8, rfl⟩
    go_wp2
    go_ret
    exact Ret.of (below22 HB2.out (by (repeat (first | exact grow_refl _ | refine grow_ext _ ?_ | refine grow_alloc _ ?_ | refine grow_drew ?_))))

theorem dryE_cases (q : Mb) (l : List Br) (rs : List Rn) (st r : Int) : (∃ E, dryE q l rs st r = ([], E) ∧ (E != 0) = true) ∨ (okMb q = true ∧ laidB l rs = true ∧ stepB st = true ∧ reachB r = true ∧ largeB q st = false) := by
  unfold dryE
  by_cases h : okMb q = true ∧ laidB l rs = true
  · rw [if_pos h]
    cases hs : stepB st
    · left; exact ⟨2, by simp, rfl⟩
    · cases hr : reachB r
      · left; exact ⟨2, by simp, rfl⟩
      · cases hg : largeB q st
        · right; exact ⟨h.1, h.2, rfl, rfl, rfl⟩
        · left; exact ⟨6, by simp, rfl⟩
  · left; rw [if_neg h]; exact ⟨1, rfl, rfl⟩
theorem lawPokerLess_c (q : Mb) (l : List Br) (v : Value) (rs : List Rn) (u : Value) (st r mo k : Int) (_ : -9223372036854775808 ≤ st ∧ st ≤ 9223372036854775807) (_ : -9223372036854775808 ≤ r ∧ r ≤ 9223372036854775807) (hmo : 0 ≤ mo ∧ mo ≤ 255) (hk : 0 ≤ k ∧ k ≤ 255) (w : World) (hq : MbAt w q) (hl : Bars w v l) (hr : Runs w u rs) :
    Calls Tryz.prog 9 #[(.agg #[.string q.name, q.u, q.t, .int .i64 q.cover, .int .i64 q.agg, .int .i64 q.poker]), v, u, .int .i64 st, .int .i64 r, .int .u8 mo, .int .u8 k] w (Ret w (.bool true)) := by
  rcases dryE_cases q l rs st r with ⟨E, hd, he⟩ | ⟨hm, hv, hs, hrc, hlg⟩
  · cases hm : okMb q
    · exact lawPLs_ef q l rs v u st r mo k E he hm hd w hq hl hr
    · exact lawPLs_et q l rs v u st r mo k E he hm hd w hq hl hr
  · cases hbig : reachB (r + mo)
    · exact lawPLs_big q l rs v u st r mo k hmo hk hm hv hs hrc hlg hbig w hq hl hr
    · exact lawPLs_ok q l rs v u st r mo k hmo hk hm hv hs hrc hlg hbig w hq hl hr

end Go.Proofs.YtmoechhfjmemaaaGreat
