/- GapsShares: the walk of the law. Printed by mklawg7.py. -/
import Derived.Test.YtofjopdcbmaijaaGreatPlainJ
import Derived.Test.YtofjopdcbmaijaaGreatRatB
import Derived.Test.YtofjopdcbmaijaaGreatLawG2
import Derived.Test.YtofjopdcbmaijaaGreatLaidK5
import Derived.Test.YtofjopdcbmaijaaGreatSolK4
import Derived.Test.YtofjopdcbmaijaaGreatLawG6
import Derived.Test.YtofjopdcbmaijaaGreatInvK
import Derived.Deep.DeepCutAuto
import Derived.Deep.CutBlock
namespace Go.Proofs.YtofjopdcbmaijaaGreat
open Go.RowKit
set_option maxRecDepth 20000

theorem rowLen7 {w : World} {M : List Bx} {err : Int} {e : Ending} {W : World} (h : RetBxs w M err e W) :
    ∃ a c, e = .returned (.tuple #[.slice a M.length c, .int .i64 err]) ∧ M.length ≤ c ∧ c ≤ 9223372036854775807 ∧ ∃ x, W = ext w x := by
  obtain ⟨a, c, h1, h2, h3, _, h5⟩ := bxs_len h
  exact ⟨a, c, h1, h2, h3, h5⟩
theorem Runs.take {w : World} {b off cap : Nat} {rs : List Rn} (h : Runs w (.slice (some ⟨b, off, none⟩) rs.length cap) rs) (k : Nat) (hk : k ≤ rs.length) : Runs w (.slice (some ⟨b, off, none⟩) k cap) (rs.take k) := by
  obtain ⟨a, c, e, h1, h2, h3⟩ := h
  cases e
  refine ⟨_, cap, by rw [List.length_take, Nat.min_eq_left hk], by rw [List.length_take]; omega, h2, fun i hi => ?_⟩
  rw [List.length_take] at hi
  rw [List.getElem_take]
  exact h3 i (by omega)
theorem Runs.drop {w : World} {b off cap : Nat} {rs : List Rn} (h : Runs w (.slice (some ⟨b, off, none⟩) rs.length cap) rs) (k : Nat) (hk : k ≤ rs.length) : Runs w (.slice (some ⟨b, off + k * 10, none⟩) (rs.length - k) (cap - k)) (rs.drop k) := by
  obtain ⟨a, c, e, h1, h2, h3⟩ := h
  cases e
  refine ⟨_, cap - k, by rw [List.length_drop], by rw [List.length_drop]; omega, by omega, fun i hi => ?_⟩
  rw [List.length_drop] at hi
  rw [List.getElem_drop]
  obtain ⟨hm, b', off', e', hat⟩ := h3 (k + i) (by omega)
  cases e'
  refine ⟨hm, b, off + k * 10, rfl, ?_⟩
  rw [show off + k * 10 + i * 10 = off + (k + i) * 10 by omega]
  exact hat
theorem Runs.drop2 {w : World} {b off cap : Nat} {rs : List Rn} (h : Runs w (.slice (some ⟨b, off, none⟩) rs.length cap) rs) (k : Nat) (hk : k ≤ rs.length) {o2 : Nat} (ho : o2 = if cap = k then off else off + k * 10) : Runs w (.slice (some ⟨b, o2, none⟩) (rs.length - k) (cap - k)) (rs.drop k) := by
  subst ho
  by_cases hc : cap = k
  · obtain ⟨a, c, e, h1, h2, h3⟩ := h
    cases e
    rw [if_pos hc]
    exact ⟨_, cap - k, by rw [List.length_drop], by rw [List.length_drop]; omega, by omega, fun i hi => by rw [List.length_drop] at hi; omega⟩
  · rw [if_neg hc]
    exact h.drop k hk
def MAt21 (w : World) (g : Nat) (name : ByteArray) (u t : Value) (c a p : Int) : Prop := w.cell? ⟨g, 0, none⟩ = some (.string name) ∧ w.cell? ⟨g, 1, none⟩ = some u ∧ w.cell? ⟨g, 2, none⟩ = some t ∧ w.cell? ⟨g, 3, none⟩ = some (.int .i64 c) ∧ w.cell? ⟨g, 4, none⟩ = some (.int .i64 a) ∧ w.cell? ⟨g, 5, none⟩ = some (.int .i64 p)
theorem MAt21.ext {w : World} {g : Nat} {name : ByteArray} {u t : Value} {c a p : Int} (h : MAt21 w g name u t c a p) (x : World) : MAt21 (ext w x) g name u t c a p :=
  ⟨cell_ext_some h.1 x, cell_ext_some h.2.1 x, cell_ext_some h.2.2.1 x, cell_ext_some h.2.2.2.1 x, cell_ext_some h.2.2.2.2.1 x, cell_ext_some h.2.2.2.2.2 x⟩
/-- The cells of a fraction. -/
def FqAt (w : World) (g : Nat) (a b : Int) : Prop := w.cell? ⟨g, 0, none⟩ = some (.int .i64 a) ∧ w.cell? ⟨g, 1, none⟩ = some (.int .i64 b)
theorem FqAt.ext {w : World} {g : Nat} {a b : Int} (h : FqAt w g a b) (x : World) : FqAt (ext w x) g a b := ⟨cell_ext_some h.1 x, cell_ext_some h.2 x⟩

set_option maxRecDepth 100000 in
set_option maxHeartbeats 4000000 in
theorem lawShr_o (q : Mb) (l : List Br) (rs : List Rn) (v u : Value) (x qc : Int) (_ : 0 ≤ qc ∧ qc ≤ 255) (h : ¬ (laidB l rs = true ∧ -1048576 ≤ x ∧ x ≤ 1048576)) (w : World) (hq : MbAt w q) (hl : Bars w v l) (hr : Runs w u rs) :
    Calls Tryz.prog 5 #[(.agg #[.string q.name, q.u, q.t, .int .i64 q.cover, .int .i64 q.agg, .int .i64 q.poker]), v, u, .int .i64 x, .int .u8 qc] w (Ret w (.bool true)) := by
  have HL := Lib.hid hl
  have HR := Lib.hid hr
  have HQ := Lib.hid hq
  obtain ⟨ua, uc, eu, -, -, -⟩ := hq.boxes.shape
  obtain ⟨ta, tc, et, -, -, -⟩ := hq.holes.shape
  have HH := Lib.hid h
  obtain ⟨name, bl, ml, bu, bt, cover, agg, poker⟩ := q
  simp only at eu et
  subst eu et
  clear hq hl hr h
  go_enter Tryz.func5, Tryz.ntmps5
  go_wp2_with fail
  go_at_call 6; refine (awake21_c _).mono ?_; rintro e w' ⟨rfl, x0, rfl⟩
  go_wp2_with fail
  go_at_call 24; refine (right21_c _ _ _ _ x _ (HL.out.below (by (repeat (first | exact grow_refl _ | refine grow_ext _ ?_ | refine grow_alloc _ ?_ | refine grow_drew ?_)))) (HR.out.below (by (repeat (first | exact grow_refl _ | refine grow_ext _ ?_ | refine grow_alloc _ ?_ | refine grow_drew ?_))))).mono ?_; rintro e w' ⟨q0, rfl, hq0, x1, rfl⟩
  cases q0
  · clear hq0
    go_wp2
    go_ret
    exact Ret.of (by (repeat (first | exact grow_refl _ | refine grow_ext _ ?_ | refine grow_alloc _ ?_ | refine grow_drew ?_)))
  exact absurd (hq0 rfl) HH.out

set_option maxRecDepth 100000 in
set_option maxHeartbeats 4000000 in
theorem lawShr_a (q : Mb) (l : List Br) (rs : List Rn) (v u : Value) (x qc : Int) (_ : 0 ≤ qc ∧ qc ≤ 255) (h4 : smallB q.l.length q.m.length 4 = false) (w : World) (hq : MbAt w q) (hl : Bars w v l) (hr : Runs w u rs) :
    Calls Tryz.prog 5 #[(.agg #[.string q.name, q.u, q.t, .int .i64 q.cover, .int .i64 q.agg, .int .i64 q.poker]), v, u, .int .i64 x, .int .u8 qc] w (Ret w (.bool true)) := by
  have HL := Lib.hid hl
  have HR := Lib.hid hr
  have HQ := Lib.hid hq
  obtain ⟨ua, uc, eu, -, -, -⟩ := hq.boxes.shape
  obtain ⟨ta, tc, et, -, -, -⟩ := hq.holes.shape
  have HS4 := Lib.hid (fun w hl hm => refSmall_v q.l q.m q.u q.t 4 false h4 w hl hm)
  obtain ⟨name, bl, ml, bu, bt, cover, agg, poker⟩ := q
  simp only at eu et HS4
  subst eu et
  clear hq hl hr h4
  go_enter Tryz.func5, Tryz.ntmps5
  go_wp2_with fail
  go_at_call 6; refine (awake21_c _).mono ?_; rintro e w' ⟨rfl, x0, rfl⟩
  go_wp2_with fail
  go_at_call 24; refine (right21_c _ _ _ _ x _ (HL.out.below (by (repeat (first | exact grow_refl _ | refine grow_ext _ ?_ | refine grow_alloc _ ?_ | refine grow_drew ?_)))) (HR.out.below (by (repeat (first | exact grow_refl _ | refine grow_ext _ ?_ | refine grow_alloc _ ?_ | refine grow_drew ?_))))).mono ?_; rintro e w' ⟨q0, rfl, hq0, x1, rfl⟩
  cases q0
  · clear hq0
    go_wp2
    go_ret
    exact Ret.of (by (repeat (first | exact grow_refl _ | refine grow_ext _ ?_ | refine grow_alloc _ ?_ | refine grow_drew ?_)))
  clear hq0
  go_wp2_with fail
  go_at_call 14; refine (HS4.out _ (HQ.out.boxes.below (by (repeat (first | exact grow_refl _ | refine grow_ext _ ?_ | refine grow_alloc _ ?_ | refine grow_drew ?_)))) (HQ.out.holes.below (by (repeat (first | exact grow_refl _ | refine grow_ext _ ?_ | refine grow_alloc _ ?_ | refine grow_drew ?_))))).mono ?_; rintro e w' ⟨rfl, x2, rfl⟩
  go_wp2
  go_ret
  exact Ret.of (by (repeat (first | exact grow_refl _ | refine grow_ext _ ?_ | refine grow_alloc _ ?_ | refine grow_drew ?_)))

set_option maxRecDepth 100000 in
set_option maxHeartbeats 4000000 in
theorem lawShr_b (q : Mb) (l : List Br) (rs : List Rn) (v u : Value) (x qc : Int) (_ : 0 ≤ qc ∧ qc ≤ 255) (h4 : smallB q.l.length q.m.length 4 = true) (hn : 60 < q.name.size) (w : World) (hq : MbAt w q) (hl : Bars w v l) (hr : Runs w u rs) :
    Calls Tryz.prog 5 #[(.agg #[.string q.name, q.u, q.t, .int .i64 q.cover, .int .i64 q.agg, .int .i64 q.poker]), v, u, .int .i64 x, .int .u8 qc] w (Ret w (.bool true)) := by
  have HL := Lib.hid hl
  have HR := Lib.hid hr
  have HQ := Lib.hid hq
  obtain ⟨ua, uc, eu, -, -, -⟩ := hq.boxes.shape
  obtain ⟨ta, tc, et, -, -, -⟩ := hq.holes.shape
  have HS4 := Lib.hid (fun w hl hm => refSmall_v q.l q.m q.u q.t 4 true h4 w hl hm)
  have dn : decide ((60 : Int) < (q.name.size : Int)) = true := by simp; omega
  obtain ⟨name, bl, ml, bu, bt, cover, agg, poker⟩ := q
  simp only at eu et HS4 dn
  subst eu et
  clear hq hl hr h4 hn
  go_enter Tryz.func5, Tryz.ntmps5
  go_wp2_with fail
  go_at_call 6; refine (awake21_c _).mono ?_; rintro e w' ⟨rfl, x0, rfl⟩
  go_wp2_with fail
  go_at_call 24; refine (right21_c _ _ _ _ x _ (HL.out.below (by (repeat (first | exact grow_refl _ | refine grow_ext _ ?_ | refine grow_alloc _ ?_ | refine grow_drew ?_)))) (HR.out.below (by (repeat (first | exact grow_refl _ | refine grow_ext _ ?_ | refine grow_alloc _ ?_ | refine grow_drew ?_))))).mono ?_; rintro e w' ⟨q0, rfl, hq0, x1, rfl⟩
  cases q0
  · clear hq0
    go_wp2
    go_ret
    exact Ret.of (by (repeat (first | exact grow_refl _ | refine grow_ext _ ?_ | refine grow_alloc _ ?_ | refine grow_drew ?_)))
  clear hq0
  go_wp2_with fail
  go_at_call 14; refine (HS4.out _ (HQ.out.boxes.below (by (repeat (first | exact grow_refl _ | refine grow_ext _ ?_ | refine grow_alloc _ ?_ | refine grow_drew ?_)))) (HQ.out.holes.below (by (repeat (first | exact grow_refl _ | refine grow_ext _ ?_ | refine grow_alloc _ ?_ | refine grow_drew ?_))))).mono ?_; rintro e w' ⟨rfl, x2, rfl⟩
  go_wp2
  go_ret
  exact Ret.of (by (repeat (first | exact grow_refl _ | refine grow_ext _ ?_ | refine grow_alloc _ ?_ | refine grow_drew ?_)))

set_option maxRecDepth 100000 in
set_option maxHeartbeats 4000000 in
theorem lawShr_c (q : Mb) (l : List Br) (rs : List Rn) (v u : Value) (x qc : Int) (_ : 0 ≤ qc ∧ qc ≤ 255) (h4 : smallB q.l.length q.m.length 4 = true) (hn : q.name.size ≤ 60) (hb : memB q = false) (w : World) (hq : MbAt w q) (hl : Bars w v l) (hr : Runs w u rs) :
    Calls Tryz.prog 5 #[(.agg #[.string q.name, q.u, q.t, .int .i64 q.cover, .int .i64 q.agg, .int .i64 q.poker]), v, u, .int .i64 x, .int .u8 qc] w (Ret w (.bool true)) := by
  have HL := Lib.hid hl
  have HR := Lib.hid hr
  have HQ := Lib.hid hq
  obtain ⟨ua, uc, eu, -, -, -⟩ := hq.boxes.shape
  obtain ⟨ta, tc, et, -, -, -⟩ := hq.holes.shape
  have HS4 := Lib.hid (fun w hl hm => refSmall_v q.l q.m q.u q.t 4 true h4 w hl hm)
  have dn : decide ((60 : Int) < (q.name.size : Int)) = false := by simp; omega
  have HM := Lib.hid (fun w hl hm => refMember_v q.name q.l q.m q.u q.t q.cover q.agg q.poker false hb hq.name w hl hm)
  obtain ⟨name, bl, ml, bu, bt, cover, agg, poker⟩ := q
  simp only at eu et HS4 dn HM
  subst eu et
  clear hq hl hr h4 hn hb
  go_enter Tryz.func5, Tryz.ntmps5
  go_wp2_with fail
  go_at_call 6; refine (awake21_c _).mono ?_; rintro e w' ⟨rfl, x0, rfl⟩
  go_wp2_with fail
  go_at_call 24; refine (right21_c _ _ _ _ x _ (HL.out.below (by (repeat (first | exact grow_refl _ | refine grow_ext _ ?_ | refine grow_alloc _ ?_ | refine grow_drew ?_)))) (HR.out.below (by (repeat (first | exact grow_refl _ | refine grow_ext _ ?_ | refine grow_alloc _ ?_ | refine grow_drew ?_))))).mono ?_; rintro e w' ⟨q0, rfl, hq0, x1, rfl⟩
  cases q0
  · clear hq0
    go_wp2
    go_ret
    exact Ret.of (by (repeat (first | exact grow_refl _ | refine grow_ext _ ?_ | refine grow_alloc _ ?_ | refine grow_drew ?_)))
  clear hq0
  go_wp2_with fail
  go_at_call 14; refine (HS4.out _ (HQ.out.boxes.below (by (repeat (first | exact grow_refl _ | refine grow_ext _ ?_ | refine grow_alloc _ ?_ | refine grow_drew ?_)))) (HQ.out.holes.below (by (repeat (first | exact grow_refl _ | refine grow_ext _ ?_ | refine grow_alloc _ ?_ | refine grow_drew ?_))))).mono ?_; rintro e w' ⟨rfl, x2, rfl⟩
  go_wp2_with fail
  go_at_call 20; refine (HM.out _ (HQ.out.boxes.below (by (repeat (first | exact grow_refl _ | refine grow_ext _ ?_ | refine grow_alloc _ ?_ | refine grow_drew ?_)))) (HQ.out.holes.below (by (repeat (first | exact grow_refl _ | refine grow_ext _ ?_ | refine grow_alloc _ ?_ | refine grow_drew ?_))))).mono ?_; rintro e w' ⟨rfl, x3, rfl⟩
  go_wp2
  go_ret
  exact Ret.of (by (repeat (first | exact grow_refl _ | refine grow_ext _ ?_ | refine grow_alloc _ ?_ | refine grow_drew ?_)))

set_option maxRecDepth 100000 in
set_option maxHeartbeats 8000000 in
theorem lawShr_1 (q : Mb) (l : List Br) (rs : List Rn) (v u : Value) (x qc : Int) (hc : 0 ≤ qc ∧ qc ≤ 255) (h4 : smallB q.l.length q.m.length 4 = true) (hn : q.name.size ≤ 60) (hb : memB q = true) (hv : laidB l rs = true) (hx : inI x (-1048576) 1048576 = true) (he : 0 < rs.length) (h0 : sectI q.l q.m x = 0) (w : World) (hq : MbAt w q) (hl : Bars w v l) (hr : Runs w u rs) :
    Calls Tryz.prog 5 #[(.agg #[.string q.name, q.u, q.t, .int .i64 q.cover, .int .i64 q.agg, .int .i64 q.poker]), v, u, .int .i64 x, .int .u8 qc] w (Ret w (.bool true)) := by
  have HL := Lib.hid hl
  have HR := Lib.hid hr
  have HQ := Lib.hid hq
  obtain ⟨ua, uc, eu, -, -, -⟩ := hq.boxes.shape
  obtain ⟨ta, tc, et, -, -, -⟩ := hq.holes.shape
  have HS4 := Lib.hid (fun w hl hm => refSmall_v q.l q.m q.u q.t 4 true h4 w hl hm)
  have dn : decide ((60 : Int) < (q.name.size : Int)) = false := by simp; omega
  have HM := Lib.hid (fun w hl hm => refMember_v q.name q.l q.m q.u q.t q.cover q.agg q.poker true hb hq.name w hl hm)
  have hxr : -1048576 ≤ x ∧ x ≤ 1048576 := by unfold inI at hx; simpa using hx
  have hlen := (laidB_iff.1 hv).2.1
  obtain ⟨kk, hkk⟩ : ∃ kk : Nat, qc % ((rs.length : Int) + 1) = (kk : Int) := ⟨(qc % ((rs.length : Int) + 1)).toNat, by have := Int.emod_nonneg qc (show (rs.length : Int) + 1 ≠ 0 by omega); omega⟩
  have hkl : kk ≤ rs.length := by have := Int.emod_lt_of_pos qc (show 0 < (rs.length : Int) + 1 by omega); omega
  have ht : qc.tmod ((rs.length : Int) + 1) = (kk : Int) := by rw [Int.tmod_eq_emod_of_nonneg hc.1]; exact hkk
  have hwq : IntKind.i64.wrap qc = qc := IntWalk.i64_in _ (by omega)
  obtain ⟨hv1, hv2⟩ := laid_take kk hv
  have hce := ce_ok hv hx
  have hce1 := ce_ok hv1 hx
  have hce2 := ce_ok hv2 hx
  have hsol := (member_iff.1 hb).2.1
  have HSE := Lib.hid (fun w hl hm => section_c q.l q.m q.u q.t x w hl hm)
  rw [show sectR q.l q.m x = (sectI q.l q.m x, 0) by unfold sectR; rw [if_pos hsol, if_pos hxr]] at HSE
  have HSH0 := Lib.hid (fun u w hq hl hr => share_v q l rs v u x (.agg #[.int .i64 0, .int .i64 0]) 16 (by unfold shareE; rw [hb, if_pos rfl, hce, if_pos rfl, if_pos h0]; rfl) w hq hl hr)
  have HSH1 := Lib.hid (fun u w hq hl hr => share_v q l (rs.take kk) v u x (.agg #[.int .i64 0, .int .i64 0]) 16 (by unfold shareE; rw [hb, if_pos rfl, hce1, if_pos rfl, if_pos h0]; rfl) w hq hl hr)
  have HSH2 := Lib.hid (fun u w hq hl hr => share_v q l (rs.drop kk) v u x (.agg #[.int .i64 0, .int .i64 0]) 16 (by unfold shareE; rw [hb, if_pos rfl, hce2, if_pos rfl, if_pos h0]; rfl) w hq hl hr)
  rw [h0] at HSE
  obtain ⟨ra, rc, rfl, hr1, hrc, hr3⟩ := hr.shape
  obtain ⟨-, rb, ro, rfl, -⟩ := hr3 0 he
  have HR1 := Lib.hid (HR.out.take kk hkl)
  obtain ⟨o2, ho2⟩ : ∃ o2, o2 = if rc = kk then ro else ro + kk * 10 := ⟨_, rfl⟩
  have HR2 := Lib.hid (HR.out.drop2 kk hkl ho2)
  have HO2 := Lib.hid ho2
  clear ho2
  have s1 : 0 ≤ (kk : Int) := by omega
  have s2 : (kk : Int) ≤ (rs.length : Int) := by omega
  have s3 : (kk : Int) ≤ (rc : Int) := by omega
  have s4 : (kk : Int).toNat = kk := by omega
  obtain ⟨name, bl, ml, bu, bt, cover, agg, poker⟩ := q
  simp only at eu et HS4 dn HM HSE HSH0 HSH1 HSH2
  subst eu et
  clear hq hl hr h4 hn hb hv hx h0 hxr hkk hv1 hv2 hce hce1 hce2 hsol hr3 he
  go_enter Tryz.func5, Tryz.ntmps5
  go_wp2_with fail
  go_at_call 6; refine (awake21_c _).mono ?_; rintro e w' ⟨rfl, x0, rfl⟩
  go_wp2_with fail
  go_at_call 24; refine (right21_c _ _ _ _ x _ (HL.out.below (by (repeat (first | exact grow_refl _ | refine grow_ext _ ?_ | refine grow_alloc _ ?_ | refine grow_drew ?_)))) (HR.out.below (by (repeat (first | exact grow_refl _ | refine grow_ext _ ?_ | refine grow_alloc _ ?_ | refine grow_drew ?_))))).mono ?_; rintro e w' ⟨q0, rfl, hq0, x1, rfl⟩
  cases q0
  · clear hq0
    go_wp2
    go_ret
    exact Ret.of (by (repeat (first | exact grow_refl _ | refine grow_ext _ ?_ | refine grow_alloc _ ?_ | refine grow_drew ?_)))
  clear hq0
  go_wp2_with fail
  go_at_call 14; refine (HS4.out _ (HQ.out.boxes.below (by (repeat (first | exact grow_refl _ | refine grow_ext _ ?_ | refine grow_alloc _ ?_ | refine grow_drew ?_)))) (HQ.out.holes.below (by (repeat (first | exact grow_refl _ | refine grow_ext _ ?_ | refine grow_alloc _ ?_ | refine grow_drew ?_))))).mono ?_; rintro e w' ⟨rfl, x2, rfl⟩
  go_wp2_with fail
  go_at_call 20; refine (HM.out _ (HQ.out.boxes.below (by (repeat (first | exact grow_refl _ | refine grow_ext _ ?_ | refine grow_alloc _ ?_ | refine grow_drew ?_)))) (HQ.out.holes.below (by (repeat (first | exact grow_refl _ | refine grow_ext _ ?_ | refine grow_alloc _ ?_ | refine grow_drew ?_))))).mono ?_; rintro e w' ⟨rfl, x3, rfl⟩
  go_wp2_with fail
  go_at_call 16; refine (HSH0.out _ _ (HQ.out.below (by (repeat (first | exact grow_refl _ | refine grow_ext _ ?_ | refine grow_alloc _ ?_ | refine grow_drew ?_)))) (HL.out.below (by (repeat (first | exact grow_refl _ | refine grow_ext _ ?_ | refine grow_alloc _ ?_ | refine grow_drew ?_)))) (HR.out.below (by (repeat (first | exact grow_refl _ | refine grow_ext _ ?_ | refine grow_alloc _ ?_ | refine grow_drew ?_))))).mono ?_; rintro e w' ⟨rfl, x4, rfl⟩
  go_wp2_with fail
  refine world_mask (fun W => Below w.heap.size w W ∧ MAt21 W w.heap.size name (.slice ua bl.length uc) (.slice ta ml.length tc) cover agg poker ∧ FqAt W (w.heap.size + 1 + x0.heap.size + x1.heap.size + x2.heap.size + x3.heap.size + x4.heap.size) 0 0) _ ⟨by (repeat (first | exact grow_refl _ | refine grow_ext _ ?_ | refine grow_alloc _ ?_ | refine grow_drew ?_)), by simp [MAt21, go_sem], by simp [FqAt, go_sem, Nat.add_assoc]⟩ ?_
  rintro W1 ⟨hb, hm, hs⟩
  generalize w.heap.size + 1 + x0.heap.size + x1.heap.size + x2.heap.size + x3.heap.size + x4.heap.size = gs at *
  have HB1 := Lib.hid hb
  have HM1 := Lib.hid hm
  have HS1 := Lib.hid hs
  clear hb hm hs
  go_cut [14, 15] (fun s14 s15 wx => ∃ g, s14 = .pointer (some ⟨g, 0, none⟩) ∧ s15 = .int .i64 16 ∧ FqAt wx g 0 0 ∧ Below W1.heap.size W1 wx)
  case first =>
    have hok : mkOk [10, 11] [⟨10, 11, 52, #[.int .i64 0, .int .i64 0]⟩] := mkOk_one (by decide)
    refine wp_region_M [.agg #[.string name, .slice ua bl.length uc, .slice ta ml.length tc, .int .i64 cover, .int .i64 agg, .int .i64 poker], v, .slice (some ⟨rb, ro, none⟩) rs.length rc, .int .i64 (kk : Int), .slice (some ⟨rb, ro, none⟩) kk rc, .int .i64 x, .tuple #[.agg #[.int .i64 0, .int .i64 0], .int .i64 16], .tuple #[.agg #[.int .i64 0, .int .i64 0], .int .i64 16], .agg #[.int .i64 0, .int .i64 0], .int .i64 16, undef, undef, .int .i64 16] [10, 11] [⟨10, 11, 52, #[.int .i64 0, .int .i64 0]⟩] (by kernel_rfl) (by kernel_rfl) ?_ ?_ ?_
    · intro b hb
      simp only [List.mem_cons, List.not_mem_nil, or_false] at hb
      rcases hb with rfl
      all_goals exact ⟨of_decide_eq_true (by kernel_rfl), of_decide_eq_true (by kernel_rfl)⟩
    · intro L vs W i hlen hJ hi
      obtain ⟨x0, vs0, rfl, hlen0⟩ := len_cons hlen
      obtain ⟨x1, vs1, rfl, hlen1⟩ := len_cons hlen0
      obtain ⟨x2, vs2, rfl, hlen2⟩ := len_cons hlen1
      obtain ⟨x3, vs3, rfl, hlen3⟩ := len_cons hlen2
      obtain ⟨x4, vs4, rfl, hlen4⟩ := len_cons hlen3
      obtain ⟨x5, vs5, rfl, hlen5⟩ := len_cons hlen4
      obtain ⟨x6, vs6, rfl, hlen6⟩ := len_cons hlen5
      obtain ⟨x7, vs7, rfl, hlen7⟩ := len_cons hlen6
      obtain ⟨x8, vs8, rfl, hlen8⟩ := len_cons hlen7
      obtain ⟨x9, vs9, rfl, hlen9⟩ := len_cons hlen8
      obtain ⟨x10, vs10, rfl, hlen10⟩ := len_cons hlen9
      obtain ⟨x11, vs11, rfl, hlen11⟩ := len_cons hlen10
      obtain ⟨x12, vs12, rfl, hlen12⟩ := len_cons hlen11
      obtain rfl := len_nil hlen12
      clear hlen hlen0 hlen1 hlen2 hlen3 hlen4 hlen5 hlen6 hlen7 hlen8 hlen9 hlen10 hlen11 hlen12
      obtain ⟨hun, o, ho, hd⟩ := mem_ready.1 hi
      have hin : i < 13 := by have := (Array.getElem?_eq_some_iff.1 ho).1; simpa using this
      refine wpOp_free (B := fun a' W' => ∃ x0 x1 x2 x3 x4 x5 x6 x7 x8 x9 x10 x11 x12, a' = putAll _ [x0, x1, x2, x3, x4, x5, x6, x7, x8, x9, x10, x11, x12] _ ∧ InvM _ _ _ _ [x0, x1, x2, x3, x4, x5, x6, x7, x8, x9, x10, x11, x12] (L.setIfInBounds i true) W') (fun _ _ h => by obtain ⟨x0, x1, x2, x3, x4, x5, x6, x7, x8, x9, x10, x11, x12, h1, h2⟩ := h; exact ⟨[x0, x1, x2, x3, x4, x5, x6, x7, x8, x9, x10, x11, x12], rfl, h1, h2⟩) ?_
      intro K HK
      simp only [putAll_cons, putAll_nil, put_some, put_none, List.setIfInBounds_toArray, List.set_cons_succ, List.set_cons_zero] at HK ⊢
      have HOK := Lib.hid hok
      clear hok
      obtain ⟨z, ez⟩ := ext_of hJ.below
      have hm := HM1.out.ext z
      rw [← ez] at hm
      obtain ⟨m0, m1, m2, m3, m4, m5⟩ := hm
      have HBJ := Lib.hid (HB1.out.trans (hJ.below.mono HB1.out.size))
      clear ez
      rcases (show i = 0 ∨ i = 1 ∨ i = 2 ∨ i = 3 ∨ i = 4 ∨ i = 5 ∨ i = 6 ∨ i = 7 ∨ i = 8 ∨ i = 9 ∨ i = 10 ∨ i = 11 ∨ i = 12 by omega) with rfl | rfl | rfl | rfl | rfl | rfl | rfl | rfl | rfl | rfl | rfl | rfl | rfl
      · obtain rfl := Option.some.inj ho
        refine wpOp_of_list (by rfl) ?_
        go_wp2
        exact HK.out _ _ ⟨_, _, _, _, _, _, _, _, _, _, _, _, _, rfl, hJ.up HOK.out 0 (by decide) (show 0 < 13 by decide) rfl⟩
      · obtain rfl := Option.some.inj ho
        refine wpOp_of_list (by rfl) ?_
        go_wp2
        exact HK.out _ _ ⟨_, _, _, _, _, _, _, _, _, _, _, _, _, rfl, hJ.up HOK.out 1 (by decide) (show 1 < 13 by decide) rfl⟩
      · obtain rfl := Option.some.inj ho
        refine wpOp_of_list (by rfl) ?_
        go_wp2
        exact HK.out _ _ ⟨_, _, _, _, _, _, _, _, _, _, _, _, _, rfl, hJ.up HOK.out 2 (by decide) (show 2 < 13 by decide) rfl⟩
      · obtain rfl := Option.some.inj ho
        refine wpOp_of_list (by rfl) ?_
        go_wp2
        exact HK.out _ _ ⟨_, _, _, _, _, _, _, _, _, _, _, _, _, rfl, hJ.up HOK.out 3 (by decide) (show 3 < 13 by decide) rfl⟩
      · obtain rfl := Option.some.inj ho
        have d2 : x2 = .slice (some ⟨rb, ro, none⟩) rs.length rc := hJ.val 2 (show 2 < 13 by decide) (by decide) (getD_upJ (hd ⟨2, .data⟩ (by simp) (by rfl)))
        have d3 : x3 = .int .i64 (kk : Int) := hJ.val 3 (show 3 < 13 by decide) (by decide) (getD_upJ (hd ⟨3, .data⟩ (by simp) (by rfl)))
        subst d2 d3
        refine wpOp_of_list (by rfl) ?_
        go_wp2
        exact HK.out _ _ ⟨_, _, _, _, _, _, _, _, _, _, _, _, _, rfl, hJ.up HOK.out 4 (by decide) (show 4 < 13 by decide) rfl⟩
      · obtain rfl := Option.some.inj ho
        refine wpOp_of_list (by rfl) ?_
        go_wp2
        exact HK.out _ _ ⟨_, _, _, _, _, _, _, _, _, _, _, _, _, rfl, hJ.up HOK.out 5 (by decide) (show 5 < 13 by decide) rfl⟩
      · obtain rfl := Option.some.inj ho
        have d0 : x0 = .agg #[.string name, .slice ua bl.length uc, .slice ta ml.length tc, .int .i64 cover, .int .i64 agg, .int .i64 poker] := hJ.val 0 (show 0 < 13 by decide) (by decide) (getD_upJ (hd ⟨0, .data⟩ (by simp) (by rfl)))
        have d1 : x1 = v := hJ.val 1 (show 1 < 13 by decide) (by decide) (getD_upJ (hd ⟨1, .data⟩ (by simp) (by rfl)))
        have d4 : x4 = .slice (some ⟨rb, ro, none⟩) kk rc := hJ.val 4 (show 4 < 13 by decide) (by decide) (getD_upJ (hd ⟨4, .data⟩ (by simp) (by rfl)))
        have d5 : x5 = .int .i64 x := hJ.val 5 (show 5 < 13 by decide) (by decide) (getD_upJ (hd ⟨5, .data⟩ (by simp) (by rfl)))
        subst d0 d1 d4 d5
        refine wpOp_of_list (by rfl) ?_
        go_wp2_with fail
        go_at_call 16; refine (HSH1.out _ _ (HQ.out.below HBJ.out) (HL.out.below HBJ.out) (HR1.out.below HBJ.out)).mono ?_; rintro e w' ⟨rfl, xq, rfl⟩
        go_wp2
        exact HK.out _ _ ⟨_, _, _, _, _, _, _, _, _, _, _, _, _, rfl, (hJ.grow _).up HOK.out 6 (by decide) (show 6 < 13 by decide) rfl⟩
      · obtain rfl := Option.some.inj ho
        have d6 : x6 = .tuple #[.agg #[.int .i64 0, .int .i64 0], .int .i64 16] := hJ.val 6 (show 6 < 13 by decide) (by decide) (getD_upJ (hd ⟨6, .data⟩ (by simp) (by rfl)))
        subst d6
        refine wpOp_of_list (by rfl) ?_
        go_wp2
        exact HK.out _ _ ⟨_, _, _, _, _, _, _, _, _, _, _, _, _, rfl, hJ.up HOK.out 7 (by decide) (show 7 < 13 by decide) rfl⟩
      · obtain rfl := Option.some.inj ho
        have d7 : x7 = .tuple #[.agg #[.int .i64 0, .int .i64 0], .int .i64 16] := hJ.val 7 (show 7 < 13 by decide) (by decide) (getD_upJ (hd ⟨7, .data⟩ (by simp) (by rfl)))
        subst d7
        refine wpOp_of_list (by rfl) ?_
        go_wp2
        exact HK.out _ _ ⟨_, _, _, _, _, _, _, _, _, _, _, _, _, rfl, hJ.up HOK.out 8 (by decide) (show 8 < 13 by decide) rfl⟩
      · obtain rfl := Option.some.inj ho
        have d7 : x7 = .tuple #[.agg #[.int .i64 0, .int .i64 0], .int .i64 16] := hJ.val 7 (show 7 < 13 by decide) (by decide) (getD_upJ (hd ⟨7, .data⟩ (by simp) (by rfl)))
        subst d7
        refine wpOp_of_list (by rfl) ?_
        go_wp2
        exact HK.out _ _ ⟨_, _, _, _, _, _, _, _, _, _, _, _, _, rfl, hJ.up HOK.out 9 (by decide) (show 9 < 13 by decide) rfl⟩
      · obtain rfl := Option.some.inj ho
        refine wpOp_of_list (by rfl) ?_
        go_wp2
        exact HK.out _ _ ⟨_, _, _, _, _, _, _, _, _, _, _, _, _, rfl, hJ.make HOK.out ⟨10, 11, 52, #[.int .i64 0, .int .i64 0]⟩ (by simp) (show 10 < 13 by decide) hun #[.int .i64 0, .int .i64 0] rfl rfl⟩
      · obtain rfl := Option.some.inj ho
        have d8 : x8 = .agg #[.int .i64 0, .int .i64 0] := hJ.val 8 (show 8 < 13 by decide) (by decide) (getD_upJ (hd ⟨8, .data⟩ (by simp) (by rfl)))
        have hka := getD_upJ (hd ⟨10, .data⟩ (by simp) (by rfl))
        obtain ⟨gq, hs, hg, cs, hcs, hb, -⟩ := hJ.made ⟨10, 11, 52, #[.int .i64 0, .int .i64 0]⟩ (by simp) hka
        have hs2 : x10 = .pointer (some ⟨gq, 0, none⟩) := hs
        obtain ⟨qa0, qh0⟩ : ∃ a, cs[0]? = some a := ⟨_, Array.getElem?_eq_getElem (by rw [hcs]; exact (show 0 < 2 by decide))⟩
        obtain ⟨qa1, qh1⟩ : ∃ a, cs[1]? = some a := ⟨_, Array.getElem?_eq_getElem (by rw [hcs]; exact (show 1 < 2 by decide))⟩
        have qf0 : W.frozen? ⟨gq, 0, none⟩ = false := hb.frozen 0
        have qg0 : W.cell? ⟨gq, 0, none⟩ = some qa0 := (hb.cell 0).trans qh0
        have qf1 : W.frozen? ⟨gq, 1, none⟩ = false := hb.frozen 1
        have qg1 : W.cell? ⟨gq, 1, none⟩ = some qa1 := (hb.cell 1).trans qh1
        subst d8
        subst hs2
        refine wpOp_of_list (by rfl) ?_
        go_wp2
        refine HK.out _ _ ⟨_, _, _, _, _, _, _, _, _, _, _, _, _, rfl, hJ.fill HOK.out ⟨10, 11, 52, #[.int .i64 0, .int .i64 0]⟩ (by simp) hka hs hg ((hJ.below.setCell hg _).setCell hg _) (fun k hk => by rw [Below.heap_setCell _ _ _ _ hk, Below.heap_setCell _ _ _ _ hk]) ?_⟩
        show Blk _ gq #[.int .i64 0, .int .i64 0] _
        rw [← fill2 (a := .int .i64 0) (b := .int .i64 0) hcs]
        exact ((hb.set 0 _).set 1 _)
      · obtain rfl := Option.some.inj ho
        have d9 : x9 = .int .i64 16 := hJ.val 9 (show 9 < 13 by decide) (by decide) (getD_upJ (hd ⟨9, .data⟩ (by simp) (by rfl)))
        subst d9
        refine wpOp_of_list (by rfl) ?_
        go_wp2
        exact HK.out _ _ ⟨_, _, _, _, _, _, _, _, _, _, _, _, _, rfl, hJ.up HOK.out 12 (by decide) (show 12 < 13 by decide) rfl⟩
    · intro vs L W hlen hJ hall
      clear hok
      obtain ⟨x0, vs0, rfl, hlen0⟩ := len_cons hlen
      obtain ⟨x1, vs1, rfl, hlen1⟩ := len_cons hlen0
      obtain ⟨x2, vs2, rfl, hlen2⟩ := len_cons hlen1
      obtain ⟨x3, vs3, rfl, hlen3⟩ := len_cons hlen2
      obtain ⟨x4, vs4, rfl, hlen4⟩ := len_cons hlen3
      obtain ⟨x5, vs5, rfl, hlen5⟩ := len_cons hlen4
      obtain ⟨x6, vs6, rfl, hlen6⟩ := len_cons hlen5
      obtain ⟨x7, vs7, rfl, hlen7⟩ := len_cons hlen6
      obtain ⟨x8, vs8, rfl, hlen8⟩ := len_cons hlen7
      obtain ⟨x9, vs9, rfl, hlen9⟩ := len_cons hlen8
      obtain ⟨x10, vs10, rfl, hlen10⟩ := len_cons hlen9
      obtain ⟨x11, vs11, rfl, hlen11⟩ := len_cons hlen10
      obtain ⟨x12, vs12, rfl, hlen12⟩ := len_cons hlen11
      obtain rfl := len_nil hlen12
      clear hlen hlen0 hlen1 hlen2 hlen3 hlen4 hlen5 hlen6 hlen7 hlen8 hlen9 hlen10 hlen11 hlen12
      obtain ⟨g0, hs0, hg0, cs0, -, hk0, hc0⟩ := hJ.made ⟨10, 11, 52, #[.int .i64 0, .int .i64 0]⟩ (by simp) (hall 10 (of_decide_eq_true (by kernel_rfl)))
      obtain rfl : cs0 = #[.int .i64 0, .int .i64 0] := hc0 (hall 11 (of_decide_eq_true (by kernel_rfl)))
      have d0 : x0 = .agg #[.string name, .slice ua bl.length uc, .slice ta ml.length tc, .int .i64 cover, .int .i64 agg, .int .i64 poker] := hJ.val 0 (show 0 < 13 by decide) (by decide) (hall 0 (of_decide_eq_true (by kernel_rfl)))
      have d1 : x1 = v := hJ.val 1 (show 1 < 13 by decide) (by decide) (hall 1 (of_decide_eq_true (by kernel_rfl)))
      have d2 : x2 = .slice (some ⟨rb, ro, none⟩) rs.length rc := hJ.val 2 (show 2 < 13 by decide) (by decide) (hall 2 (of_decide_eq_true (by kernel_rfl)))
      have d3 : x3 = .int .i64 (kk : Int) := hJ.val 3 (show 3 < 13 by decide) (by decide) (hall 3 (of_decide_eq_true (by kernel_rfl)))
      have d4 : x4 = .slice (some ⟨rb, ro, none⟩) kk rc := hJ.val 4 (show 4 < 13 by decide) (by decide) (hall 4 (of_decide_eq_true (by kernel_rfl)))
      have d5 : x5 = .int .i64 x := hJ.val 5 (show 5 < 13 by decide) (by decide) (hall 5 (of_decide_eq_true (by kernel_rfl)))
      have d6 : x6 = .tuple #[.agg #[.int .i64 0, .int .i64 0], .int .i64 16] := hJ.val 6 (show 6 < 13 by decide) (by decide) (hall 6 (of_decide_eq_true (by kernel_rfl)))
      have d7 : x7 = .tuple #[.agg #[.int .i64 0, .int .i64 0], .int .i64 16] := hJ.val 7 (show 7 < 13 by decide) (by decide) (hall 7 (of_decide_eq_true (by kernel_rfl)))
      have d8 : x8 = .agg #[.int .i64 0, .int .i64 0] := hJ.val 8 (show 8 < 13 by decide) (by decide) (hall 8 (of_decide_eq_true (by kernel_rfl)))
      have d9 : x9 = .int .i64 16 := hJ.val 9 (show 9 < 13 by decide) (by decide) (hall 9 (of_decide_eq_true (by kernel_rfl)))
      have d12 : x12 = .int .i64 16 := hJ.val 12 (show 12 < 13 by decide) (by decide) (hall 12 (of_decide_eq_true (by kernel_rfl)))
      have e0 : x10 = .pointer (some ⟨g0, 0, none⟩) := hs0
      have hbel := hJ.below
      clear hJ hall hs0 hc0
      subst d0 d1 d2 d3 d4 d5 d6 d7 d8 d9 d12 e0
      simp only [putAll_cons, putAll_nil, put_some, put_none, List.setIfInBounds_toArray, List.set_cons_succ, List.set_cons_zero]
      have HBW := Lib.hid hbel
      have HK0 := Lib.hid hk0
      clear hbel hk0 hg0
      go_wp2_with fail
      go_meet
      exact ⟨g0, rfl, rfl, ⟨(HK0.out.cell 0).trans rfl, (HK0.out.cell 1).trans rfl⟩, HBW.out⟩
  case rest =>
    obtain ⟨ga, rfl, rfl, hfa, hbl⟩ := hcut
    obtain ⟨W2, rfl⟩ : ∃ W : World, W = wc := ⟨_, rfl⟩
    obtain ⟨z, ez⟩ := ext_of hbl
    have HB2 := Lib.hid (HB1.out.trans (hbl.mono HB1.out.size))
    have HM2 := Lib.hid (show MAt21 W2 w.heap.size name (.slice ua bl.length uc) (.slice ta ml.length tc) cover agg poker by rw [ez]; exact HM1.out.ext z)
    have HS2 := Lib.hid (show FqAt W2 gs 0 0 by rw [ez]; exact HS1.out.ext z)
    have HA2 := Lib.hid hfa
    clear hfa hbl ez HB1 HM1 HS1
    go_wp2_with fail
    go_cut [16, 17] (fun s16 s17 wx => ∃ g, s16 = .pointer (some ⟨g, 0, none⟩) ∧ s17 = .int .i64 16 ∧ FqAt wx g 0 0 ∧ Below W2.heap.size W2 wx)
    case first =>
      have hok : mkOk [10, 11] [⟨10, 11, 52, #[.int .i64 0, .int .i64 0]⟩] := mkOk_one (by decide)
      refine wp_region_M [.agg #[.string name, .slice ua bl.length uc, .slice ta ml.length tc, .int .i64 cover, .int .i64 agg, .int .i64 poker], v, .slice (some ⟨rb, ro, none⟩) rs.length rc, .int .i64 (kk : Int), .slice (some ⟨rb, o2, none⟩) (rs.length - kk) (rc - kk), .int .i64 x, .tuple #[.agg #[.int .i64 0, .int .i64 0], .int .i64 16], .tuple #[.agg #[.int .i64 0, .int .i64 0], .int .i64 16], .agg #[.int .i64 0, .int .i64 0], .int .i64 16, undef, undef, .int .i64 16] [10, 11] [⟨10, 11, 52, #[.int .i64 0, .int .i64 0]⟩] (by kernel_rfl) (by kernel_rfl) ?_ ?_ ?_
      · intro b hb
        simp only [List.mem_cons, List.not_mem_nil, or_false] at hb
        rcases hb with rfl
        all_goals exact ⟨of_decide_eq_true (by kernel_rfl), of_decide_eq_true (by kernel_rfl)⟩
      · intro L vs W i hlen hJ hi
        obtain ⟨x0, vs0, rfl, hlen0⟩ := len_cons hlen
        obtain ⟨x1, vs1, rfl, hlen1⟩ := len_cons hlen0
        obtain ⟨x2, vs2, rfl, hlen2⟩ := len_cons hlen1
        obtain ⟨x3, vs3, rfl, hlen3⟩ := len_cons hlen2
        obtain ⟨x4, vs4, rfl, hlen4⟩ := len_cons hlen3
        obtain ⟨x5, vs5, rfl, hlen5⟩ := len_cons hlen4
        obtain ⟨x6, vs6, rfl, hlen6⟩ := len_cons hlen5
        obtain ⟨x7, vs7, rfl, hlen7⟩ := len_cons hlen6
        obtain ⟨x8, vs8, rfl, hlen8⟩ := len_cons hlen7
        obtain ⟨x9, vs9, rfl, hlen9⟩ := len_cons hlen8
        obtain ⟨x10, vs10, rfl, hlen10⟩ := len_cons hlen9
        obtain ⟨x11, vs11, rfl, hlen11⟩ := len_cons hlen10
        obtain ⟨x12, vs12, rfl, hlen12⟩ := len_cons hlen11
        obtain rfl := len_nil hlen12
        clear hlen hlen0 hlen1 hlen2 hlen3 hlen4 hlen5 hlen6 hlen7 hlen8 hlen9 hlen10 hlen11 hlen12
        obtain ⟨hun, o, ho, hd⟩ := mem_ready.1 hi
        have hin : i < 13 := by have := (Array.getElem?_eq_some_iff.1 ho).1; simpa using this
        refine wpOp_free (B := fun a' W' => ∃ x0 x1 x2 x3 x4 x5 x6 x7 x8 x9 x10 x11 x12, a' = putAll _ [x0, x1, x2, x3, x4, x5, x6, x7, x8, x9, x10, x11, x12] _ ∧ InvM _ _ _ _ [x0, x1, x2, x3, x4, x5, x6, x7, x8, x9, x10, x11, x12] (L.setIfInBounds i true) W') (fun _ _ h => by obtain ⟨x0, x1, x2, x3, x4, x5, x6, x7, x8, x9, x10, x11, x12, h1, h2⟩ := h; exact ⟨[x0, x1, x2, x3, x4, x5, x6, x7, x8, x9, x10, x11, x12], rfl, h1, h2⟩) ?_
        intro K HK
        simp only [putAll_cons, putAll_nil, put_some, put_none, List.setIfInBounds_toArray, List.set_cons_succ, List.set_cons_zero] at HK ⊢
        have HOK := Lib.hid hok
        clear hok
        obtain ⟨z, ez⟩ := ext_of hJ.below
        have hm := HM2.out.ext z
        rw [← ez] at hm
        obtain ⟨m0, m1, m2, m3, m4, m5⟩ := hm
        have HBJ := Lib.hid (HB2.out.trans (hJ.below.mono HB2.out.size))
        clear ez
        rcases (show i = 0 ∨ i = 1 ∨ i = 2 ∨ i = 3 ∨ i = 4 ∨ i = 5 ∨ i = 6 ∨ i = 7 ∨ i = 8 ∨ i = 9 ∨ i = 10 ∨ i = 11 ∨ i = 12 by omega) with rfl | rfl | rfl | rfl | rfl | rfl | rfl | rfl | rfl | rfl | rfl | rfl | rfl
        · obtain rfl := Option.some.inj ho
          refine wpOp_of_list (by rfl) ?_
          go_wp2
          exact HK.out _ _ ⟨_, _, _, _, _, _, _, _, _, _, _, _, _, rfl, hJ.up HOK.out 0 (by decide) (show 0 < 13 by decide) rfl⟩
        · obtain rfl := Option.some.inj ho
          refine wpOp_of_list (by rfl) ?_
          go_wp2
          exact HK.out _ _ ⟨_, _, _, _, _, _, _, _, _, _, _, _, _, rfl, hJ.up HOK.out 1 (by decide) (show 1 < 13 by decide) rfl⟩
        · obtain rfl := Option.some.inj ho
          refine wpOp_of_list (by rfl) ?_
          go_wp2
          exact HK.out _ _ ⟨_, _, _, _, _, _, _, _, _, _, _, _, _, rfl, hJ.up HOK.out 2 (by decide) (show 2 < 13 by decide) rfl⟩
        · obtain rfl := Option.some.inj ho
          refine wpOp_of_list (by rfl) ?_
          go_wp2
          exact HK.out _ _ ⟨_, _, _, _, _, _, _, _, _, _, _, _, _, rfl, hJ.up HOK.out 3 (by decide) (show 3 < 13 by decide) rfl⟩
        · obtain rfl := Option.some.inj ho
          have d2 : x2 = .slice (some ⟨rb, ro, none⟩) rs.length rc := hJ.val 2 (show 2 < 13 by decide) (by decide) (getD_upJ (hd ⟨2, .data⟩ (by simp) (by rfl)))
          have d3 : x3 = .int .i64 (kk : Int) := hJ.val 3 (show 3 < 13 by decide) (by decide) (getD_upJ (hd ⟨3, .data⟩ (by simp) (by rfl)))
          subst d2 d3
          refine wpOp_of_list (by rfl) ?_
          by_cases hrk : rc = kk
          · have e2 : o2 = ro := by rw [HO2.out, if_pos hrk]
            subst hrk
            go_wp2
            exact HK.out _ _ ⟨_, _, _, _, _, _, _, _, _, _, _, _, _, rfl, hJ.up HOK.out 4 (by decide) (show 4 < 13 by decide) (by simp [e2] <;> omega)⟩
          · have e2 : o2 = ro + kk * 10 := by rw [HO2.out, if_neg hrk]
            go_wp2
            exact HK.out _ _ ⟨_, _, _, _, _, _, _, _, _, _, _, _, _, rfl, hJ.up HOK.out 4 (by decide) (show 4 < 13 by decide) (by simp [e2] <;> omega)⟩
        · obtain rfl := Option.some.inj ho
          refine wpOp_of_list (by rfl) ?_
          go_wp2
          exact HK.out _ _ ⟨_, _, _, _, _, _, _, _, _, _, _, _, _, rfl, hJ.up HOK.out 5 (by decide) (show 5 < 13 by decide) rfl⟩
        · obtain rfl := Option.some.inj ho
          have d0 : x0 = .agg #[.string name, .slice ua bl.length uc, .slice ta ml.length tc, .int .i64 cover, .int .i64 agg, .int .i64 poker] := hJ.val 0 (show 0 < 13 by decide) (by decide) (getD_upJ (hd ⟨0, .data⟩ (by simp) (by rfl)))
          have d1 : x1 = v := hJ.val 1 (show 1 < 13 by decide) (by decide) (getD_upJ (hd ⟨1, .data⟩ (by simp) (by rfl)))
          have d4 : x4 = .slice (some ⟨rb, o2, none⟩) (rs.length - kk) (rc - kk) := hJ.val 4 (show 4 < 13 by decide) (by decide) (getD_upJ (hd ⟨4, .data⟩ (by simp) (by rfl)))
          have d5 : x5 = .int .i64 x := hJ.val 5 (show 5 < 13 by decide) (by decide) (getD_upJ (hd ⟨5, .data⟩ (by simp) (by rfl)))
          subst d0 d1 d4 d5
          refine wpOp_of_list (by rfl) ?_
          go_wp2_with fail
          go_at_call 16; refine (HSH2.out _ _ (HQ.out.below HBJ.out) (HL.out.below HBJ.out) (HR2.out.below HBJ.out)).mono ?_; rintro e w' ⟨rfl, xq, rfl⟩
          go_wp2
          exact HK.out _ _ ⟨_, _, _, _, _, _, _, _, _, _, _, _, _, rfl, (hJ.grow _).up HOK.out 6 (by decide) (show 6 < 13 by decide) rfl⟩
        · obtain rfl := Option.some.inj ho
          have d6 : x6 = .tuple #[.agg #[.int .i64 0, .int .i64 0], .int .i64 16] := hJ.val 6 (show 6 < 13 by decide) (by decide) (getD_upJ (hd ⟨6, .data⟩ (by simp) (by rfl)))
          subst d6
          refine wpOp_of_list (by rfl) ?_
          go_wp2
          exact HK.out _ _ ⟨_, _, _, _, _, _, _, _, _, _, _, _, _, rfl, hJ.up HOK.out 7 (by decide) (show 7 < 13 by decide) rfl⟩
        · obtain rfl := Option.some.inj ho
          have d7 : x7 = .tuple #[.agg #[.int .i64 0, .int .i64 0], .int .i64 16] := hJ.val 7 (show 7 < 13 by decide) (by decide) (getD_upJ (hd ⟨7, .data⟩ (by simp) (by rfl)))
          subst d7
          refine wpOp_of_list (by rfl) ?_
          go_wp2
          exact HK.out _ _ ⟨_, _, _, _, _, _, _, _, _, _, _, _, _, rfl, hJ.up HOK.out 8 (by decide) (show 8 < 13 by decide) rfl⟩
        · obtain rfl := Option.some.inj ho
          have d7 : x7 = .tuple #[.agg #[.int .i64 0, .int .i64 0], .int .i64 16] := hJ.val 7 (show 7 < 13 by decide) (by decide) (getD_upJ (hd ⟨7, .data⟩ (by simp) (by rfl)))
          subst d7
          refine wpOp_of_list (by rfl) ?_
          go_wp2
          exact HK.out _ _ ⟨_, _, _, _, _, _, _, _, _, _, _, _, _, rfl, hJ.up HOK.out 9 (by decide) (show 9 < 13 by decide) rfl⟩
        · obtain rfl := Option.some.inj ho
          refine wpOp_of_list (by rfl) ?_
          go_wp2
          exact HK.out _ _ ⟨_, _, _, _, _, _, _, _, _, _, _, _, _, rfl, hJ.make HOK.out ⟨10, 11, 52, #[.int .i64 0, .int .i64 0]⟩ (by simp) (show 10 < 13 by decide) hun #[.int .i64 0, .int .i64 0] rfl rfl⟩
        · obtain rfl := Option.some.inj ho
          have d8 : x8 = .agg #[.int .i64 0, .int .i64 0] := hJ.val 8 (show 8 < 13 by decide) (by decide) (getD_upJ (hd ⟨8, .data⟩ (by simp) (by rfl)))
          have hka := getD_upJ (hd ⟨10, .data⟩ (by simp) (by rfl))
          obtain ⟨gq, hs, hg, cs, hcs, hb, -⟩ := hJ.made ⟨10, 11, 52, #[.int .i64 0, .int .i64 0]⟩ (by simp) hka
          have hs2 : x10 = .pointer (some ⟨gq, 0, none⟩) := hs
          obtain ⟨qa0, qh0⟩ : ∃ a, cs[0]? = some a := ⟨_, Array.getElem?_eq_getElem (by rw [hcs]; exact (show 0 < 2 by decide))⟩
          obtain ⟨qa1, qh1⟩ : ∃ a, cs[1]? = some a := ⟨_, Array.getElem?_eq_getElem (by rw [hcs]; exact (show 1 < 2 by decide))⟩
          have qf0 : W.frozen? ⟨gq, 0, none⟩ = false := hb.frozen 0
          have qg0 : W.cell? ⟨gq, 0, none⟩ = some qa0 := (hb.cell 0).trans qh0
          have qf1 : W.frozen? ⟨gq, 1, none⟩ = false := hb.frozen 1
          have qg1 : W.cell? ⟨gq, 1, none⟩ = some qa1 := (hb.cell 1).trans qh1
          subst d8
          subst hs2
          refine wpOp_of_list (by rfl) ?_
          go_wp2
          refine HK.out _ _ ⟨_, _, _, _, _, _, _, _, _, _, _, _, _, rfl, hJ.fill HOK.out ⟨10, 11, 52, #[.int .i64 0, .int .i64 0]⟩ (by simp) hka hs hg ((hJ.below.setCell hg _).setCell hg _) (fun k hk => by rw [Below.heap_setCell _ _ _ _ hk, Below.heap_setCell _ _ _ _ hk]) ?_⟩
          show Blk _ gq #[.int .i64 0, .int .i64 0] _
          rw [← fill2 (a := .int .i64 0) (b := .int .i64 0) hcs]
          exact ((hb.set 0 _).set 1 _)
        · obtain rfl := Option.some.inj ho
          have d9 : x9 = .int .i64 16 := hJ.val 9 (show 9 < 13 by decide) (by decide) (getD_upJ (hd ⟨9, .data⟩ (by simp) (by rfl)))
          subst d9
          refine wpOp_of_list (by rfl) ?_
          go_wp2
          exact HK.out _ _ ⟨_, _, _, _, _, _, _, _, _, _, _, _, _, rfl, hJ.up HOK.out 12 (by decide) (show 12 < 13 by decide) rfl⟩
      · intro vs L W hlen hJ hall
        clear hok
        obtain ⟨x0, vs0, rfl, hlen0⟩ := len_cons hlen
        obtain ⟨x1, vs1, rfl, hlen1⟩ := len_cons hlen0
        obtain ⟨x2, vs2, rfl, hlen2⟩ := len_cons hlen1
        obtain ⟨x3, vs3, rfl, hlen3⟩ := len_cons hlen2
        obtain ⟨x4, vs4, rfl, hlen4⟩ := len_cons hlen3
        obtain ⟨x5, vs5, rfl, hlen5⟩ := len_cons hlen4
        obtain ⟨x6, vs6, rfl, hlen6⟩ := len_cons hlen5
        obtain ⟨x7, vs7, rfl, hlen7⟩ := len_cons hlen6
        obtain ⟨x8, vs8, rfl, hlen8⟩ := len_cons hlen7
        obtain ⟨x9, vs9, rfl, hlen9⟩ := len_cons hlen8
        obtain ⟨x10, vs10, rfl, hlen10⟩ := len_cons hlen9
        obtain ⟨x11, vs11, rfl, hlen11⟩ := len_cons hlen10
        obtain ⟨x12, vs12, rfl, hlen12⟩ := len_cons hlen11
        obtain rfl := len_nil hlen12
        clear hlen hlen0 hlen1 hlen2 hlen3 hlen4 hlen5 hlen6 hlen7 hlen8 hlen9 hlen10 hlen11 hlen12
        obtain ⟨g0, hs0, hg0, cs0, -, hk0, hc0⟩ := hJ.made ⟨10, 11, 52, #[.int .i64 0, .int .i64 0]⟩ (by simp) (hall 10 (of_decide_eq_true (by kernel_rfl)))
        obtain rfl : cs0 = #[.int .i64 0, .int .i64 0] := hc0 (hall 11 (of_decide_eq_true (by kernel_rfl)))
        have d0 : x0 = .agg #[.string name, .slice ua bl.length uc, .slice ta ml.length tc, .int .i64 cover, .int .i64 agg, .int .i64 poker] := hJ.val 0 (show 0 < 13 by decide) (by decide) (hall 0 (of_decide_eq_true (by kernel_rfl)))
        have d1 : x1 = v := hJ.val 1 (show 1 < 13 by decide) (by decide) (hall 1 (of_decide_eq_true (by kernel_rfl)))
        have d2 : x2 = .slice (some ⟨rb, ro, none⟩) rs.length rc := hJ.val 2 (show 2 < 13 by decide) (by decide) (hall 2 (of_decide_eq_true (by kernel_rfl)))
        have d3 : x3 = .int .i64 (kk : Int) := hJ.val 3 (show 3 < 13 by decide) (by decide) (hall 3 (of_decide_eq_true (by kernel_rfl)))
        have d4 : x4 = .slice (some ⟨rb, o2, none⟩) (rs.length - kk) (rc - kk) := hJ.val 4 (show 4 < 13 by decide) (by decide) (hall 4 (of_decide_eq_true (by kernel_rfl)))
        have d5 : x5 = .int .i64 x := hJ.val 5 (show 5 < 13 by decide) (by decide) (hall 5 (of_decide_eq_true (by kernel_rfl)))
        have d6 : x6 = .tuple #[.agg #[.int .i64 0, .int .i64 0], .int .i64 16] := hJ.val 6 (show 6 < 13 by decide) (by decide) (hall 6 (of_decide_eq_true (by kernel_rfl)))
        have d7 : x7 = .tuple #[.agg #[.int .i64 0, .int .i64 0], .int .i64 16] := hJ.val 7 (show 7 < 13 by decide) (by decide) (hall 7 (of_decide_eq_true (by kernel_rfl)))
        have d8 : x8 = .agg #[.int .i64 0, .int .i64 0] := hJ.val 8 (show 8 < 13 by decide) (by decide) (hall 8 (of_decide_eq_true (by kernel_rfl)))
        have d9 : x9 = .int .i64 16 := hJ.val 9 (show 9 < 13 by decide) (by decide) (hall 9 (of_decide_eq_true (by kernel_rfl)))
        have d12 : x12 = .int .i64 16 := hJ.val 12 (show 12 < 13 by decide) (by decide) (hall 12 (of_decide_eq_true (by kernel_rfl)))
        have e0 : x10 = .pointer (some ⟨g0, 0, none⟩) := hs0
        have hbel := hJ.below
        clear hJ hall hs0 hc0
        subst d0 d1 d2 d3 d4 d5 d6 d7 d8 d9 d12 e0
        simp only [putAll_cons, putAll_nil, put_some, put_none, List.setIfInBounds_toArray, List.set_cons_succ, List.set_cons_zero]
        have HBW := Lib.hid hbel
        have HK0 := Lib.hid hk0
        clear hbel hk0 hg0
        go_wp2_with fail
        go_meet
        exact ⟨g0, rfl, rfl, ⟨(HK0.out.cell 0).trans rfl, (HK0.out.cell 1).trans rfl⟩, HBW.out⟩
    case rest =>
      obtain ⟨gb, rfl, rfl, hfb, hbl⟩ := hcut
      obtain ⟨W3, rfl⟩ : ∃ W : World, W = wc := ⟨_, rfl⟩
      obtain ⟨z, ez⟩ := ext_of hbl
      have HB3 := Lib.hid (HB2.out.trans (hbl.mono HB2.out.size))
      obtain ⟨m0, m1, m2, m3, m4, m5⟩ := (show MAt21 W3 w.heap.size name (.slice ua bl.length uc) (.slice ta ml.length tc) cover agg poker by rw [ez]; exact HM2.out.ext z)
      obtain ⟨ks0, ks1⟩ := (show FqAt W3 gs 0 0 by rw [ez]; exact HS2.out.ext z)
      obtain ⟨ka0, ka1⟩ := (show FqAt W3 ga 0 0 by rw [ez]; exact HA2.out.ext z)
      obtain ⟨kb0, kb1⟩ := hfb
      clear hbl ez HB2 HM2 HS2 HA2
      go_wp2_with fail
      go_at_call 25; refine (HSE.out _ ((HQ.out.below HB3.out).boxes.below (by (repeat (first | exact grow_refl _ | refine grow_ext _ ?_ | refine grow_alloc _ ?_ | refine grow_drew ?_)))) ((HQ.out.below HB3.out).holes.below (by (repeat (first | exact grow_refl _ | refine grow_ext _ ?_ | refine grow_alloc _ ?_ | refine grow_drew ?_))))).mono ?_; rintro e w' ⟨rfl, x5, rfl⟩
      go_wp2
      go_ret
      exact Ret.of (HB3.out.trans (Below.mono (by (repeat (first | exact grow_refl _ | refine grow_ext _ ?_ | refine grow_alloc _ ?_ | refine grow_drew ?_))) HB3.out.size))


set_option maxRecDepth 100000 in
set_option maxHeartbeats 8000000 in
theorem lawShr_2 (q : Mb) (l : List Br) (rs : List Rn) (v u : Value) (x qc : Int) (hc : 0 ≤ qc ∧ qc ≤ 255) (h4 : smallB q.l.length q.m.length 4 = true) (hn : q.name.size ≤ 60) (hb : memB q = true) (hv : laidB l rs = true) (hx : inI x (-1048576) 1048576 = true) (he : 0 < rs.length) (h0 : ¬ sectI q.l q.m x = 0) (h1 : l.length ≠ 1) (w : World) (hq : MbAt w q) (hl : Bars w v l) (hr : Runs w u rs) :
    Calls Tryz.prog 5 #[(.agg #[.string q.name, q.u, q.t, .int .i64 q.cover, .int .i64 q.agg, .int .i64 q.poker]), v, u, .int .i64 x, .int .u8 qc] w (Ret w (.bool true)) := by
  have HL := Lib.hid hl
  have HR := Lib.hid hr
  have HQ := Lib.hid hq
  obtain ⟨ua, uc, eu, -, -, -⟩ := hq.boxes.shape
  obtain ⟨ta, tc, et, -, -, -⟩ := hq.holes.shape
  have HS4 := Lib.hid (fun w hl hm => refSmall_v q.l q.m q.u q.t 4 true h4 w hl hm)
  have dn : decide ((60 : Int) < (q.name.size : Int)) = false := by simp; omega
  have HM := Lib.hid (fun w hl hm => refMember_v q.name q.l q.m q.u q.t q.cover q.agg q.poker true hb hq.name w hl hm)
  have hxr : -1048576 ≤ x ∧ x ≤ 1048576 := by unfold inI at hx; simpa using hx
  have hlen := (laidB_iff.1 hv).2.1
  obtain ⟨kk, hkk⟩ : ∃ kk : Nat, qc % ((rs.length : Int) + 1) = (kk : Int) := ⟨(qc % ((rs.length : Int) + 1)).toNat, by have := Int.emod_nonneg qc (show (rs.length : Int) + 1 ≠ 0 by omega); omega⟩
  have hkl : kk ≤ rs.length := by have := Int.emod_lt_of_pos qc (show 0 < (rs.length : Int) + 1 by omega); omega
  have ht : qc.tmod ((rs.length : Int) + 1) = (kk : Int) := by rw [Int.tmod_eq_emod_of_nonneg hc.1]; exact hkk
  have hwq : IntKind.i64.wrap qc = qc := IntWalk.i64_in _ (by omega)
  obtain ⟨hv1, hv2⟩ := laid_take kk hv
  have hce := ce_ok hv hx
  have hce1 := ce_ok hv1 hx
  have hce2 := ce_ok hv2 hx
  have hsol := (member_iff.1 hb).2.1
  have HSE := Lib.hid (fun w hl hm => section_c q.l q.m q.u q.t x w hl hm)
  rw [show sectR q.l q.m x = (sectI q.l q.m x, 0) by unfold sectR; rw [if_pos hsol, if_pos hxr]] at HSE
  have hs0 : 0 ≤ steelI (cutsI l (rs.take kk) x) ∧ steelI (cutsI l (rs.take kk) x) ≤ 1560000000 := by
    have ok := rcOk hv1 hx
    have := steelT_range ok.sz (cutsI l (rs.take kk) x).length (Nat.le_refl _)
    rw [steelT_all] at this
    have := ok.len; have := ok.most; omega
  have hs1 : 0 ≤ steelI (cutsI l (rs.drop kk) x) ∧ steelI (cutsI l (rs.drop kk) x) ≤ 1560000000 := by
    have ok := rcOk hv2 hx
    have := steelT_range ok.sz (cutsI l (rs.drop kk) x).length (Nat.le_refl _)
    rw [steelT_all] at this
    have := ok.len; have := ok.most; omega
  have hsi := solid_iff.1 hsol
  have hne : q.l ≠ [] := by intro e; rw [e] at hsi; simp at hsi
  have hsr := sect_bound (m := q.m) hsi.2.2.1 hne x
  obtain ⟨A1, hA1⟩ : ∃ A : Nat, steelI (cutsI l (rs.take kk) x) = (A : Int) := ⟨(steelI (cutsI l (rs.take kk) x)).toNat, by omega⟩
  obtain ⟨A2, hA2⟩ : ∃ A : Nat, steelI (cutsI l (rs.drop kk) x) = (A : Int) := ⟨(steelI (cutsI l (rs.drop kk) x)).toNat, by omega⟩
  have hA0 : steelI (cutsI l rs x) = ((A1 + A2 : Nat) : Int) := by rw [steel_parts kk hv, hA1, hA2]; simp
  obtain ⟨S, hS⟩ : ∃ S : Nat, sectI q.l q.m x = (S : Int) := ⟨(sectI q.l q.m x).toNat, by omega⟩
  rw [hA1] at hs0
  rw [hA2] at hs1
  have hsS : 0 < S ∧ S ≤ 4398046511104 := by rw [hS] at hsr h0; omega
  obtain ⟨f1, f2, hF0⟩ : ∃ f1 f2 : Nat, fracV (A1 + A2) (100 * S) = .agg #[.int .i64 f1, .int .i64 f2] := ⟨_, _, rfl⟩
  obtain ⟨g1, g2, hF1⟩ : ∃ f1 f2 : Nat, fracV A1 (100 * S) = .agg #[.int .i64 f1, .int .i64 f2] := ⟨_, _, rfl⟩
  obtain ⟨k1, k2, hF2⟩ : ∃ f1 f2 : Nat, fracV A2 (100 * S) = .agg #[.int .i64 f1, .int .i64 f2] := ⟨_, _, rfl⟩
  have HSH0 := Lib.hid (fun u w hq hl hr => share_v q l rs v u x (.agg #[.int .i64 f1, .int .i64 f2]) 0 (by
    unfold shareE; rw [hb, if_pos rfl, hce, if_pos rfl, if_neg h0]
    simp only [hA0, hS]
    rw [← hF0]
    congr 2) w hq hl hr)
  have HSH1 := Lib.hid (fun u w hq hl hr => share_v q l (rs.take kk) v u x (.agg #[.int .i64 g1, .int .i64 g2]) 0 (by
    unfold shareE; rw [hb, if_pos rfl, hce1, if_pos rfl, if_neg h0]
    simp only [hA1, hS]
    rw [← hF1]
    congr 2) w hq hl hr)
  have HSH2 := Lib.hid (fun u w hq hl hr => share_v q l (rs.drop kk) v u x (.agg #[.int .i64 k1, .int .i64 k2]) 0 (by
    unfold shareE; rw [hb, if_pos rfl, hce2, if_pos rfl, if_neg h0]
    simp only [hA2, hS]
    rw [← hF2]
    congr 2) w hq hl hr)
  have HAD := Lib.hid (fun w => addF_c A1 A2 (100 * S) (by omega) (by omega) (by omega) (by omega) w)
  rw [hF0, hF1, hF2] at HAD
  rw [hS] at HSE
  have d0 : ((S : Int) == 0) = false := by simp; omega
  have d1 : decide ((f1 : Int) < 0) = false := by simp
  have d2 : ((l.length : Int) != 1) = true := by simp; omega
  obtain ⟨va, vc, rfl, -, -, -⟩ := hl.shape
  obtain ⟨ra, rc, rfl, hr1, hrc, hr3⟩ := hr.shape
  obtain ⟨-, rb, ro, rfl, -⟩ := hr3 0 he
  have HR1 := Lib.hid (HR.out.take kk hkl)
  obtain ⟨o2, ho2⟩ : ∃ o2, o2 = if rc = kk then ro else ro + kk * 10 := ⟨_, rfl⟩
  have HR2 := Lib.hid (HR.out.drop2 kk hkl ho2)
  have HO2 := Lib.hid ho2
  clear ho2
  have s1 : 0 ≤ (kk : Int) := by omega
  have s2 : (kk : Int) ≤ (rs.length : Int) := by omega
  have s3 : (kk : Int) ≤ (rc : Int) := by omega
  have s4 : (kk : Int).toNat = kk := by omega
  obtain ⟨name, bl, ml, bu, bt, cover, agg, poker⟩ := q
  simp only at eu et HS4 dn HM HSE HSH0 HSH1 HSH2 hS
  subst eu et
  clear hq hl hr h4 hn hb hv hx h0 h1 hxr hkk hv1 hv2 hce hce1 hce2 hsol hs0 hs1 hsi hne hsr hA1 hA2 hA0 hS hF0 hF1 hF2 hsS hr3 he
  go_enter Tryz.func5, Tryz.ntmps5
  go_wp2_with fail
  go_at_call 6; refine (awake21_c _).mono ?_; rintro e w' ⟨rfl, x0, rfl⟩
  go_wp2_with fail
  go_at_call 24; refine (right21_c _ _ _ _ x _ (HL.out.below (by (repeat (first | exact grow_refl _ | refine grow_ext _ ?_ | refine grow_alloc _ ?_ | refine grow_drew ?_)))) (HR.out.below (by (repeat (first | exact grow_refl _ | refine grow_ext _ ?_ | refine grow_alloc _ ?_ | refine grow_drew ?_))))).mono ?_; rintro e w' ⟨q0, rfl, hq0, x1, rfl⟩
  cases q0
  · clear hq0
    go_wp2
    go_ret
    exact Ret.of (by (repeat (first | exact grow_refl _ | refine grow_ext _ ?_ | refine grow_alloc _ ?_ | refine grow_drew ?_)))
  clear hq0
  go_wp2_with fail
  go_at_call 14; refine (HS4.out _ (HQ.out.boxes.below (by (repeat (first | exact grow_refl _ | refine grow_ext _ ?_ | refine grow_alloc _ ?_ | refine grow_drew ?_)))) (HQ.out.holes.below (by (repeat (first | exact grow_refl _ | refine grow_ext _ ?_ | refine grow_alloc _ ?_ | refine grow_drew ?_))))).mono ?_; rintro e w' ⟨rfl, x2, rfl⟩
  go_wp2_with fail
  go_at_call 20; refine (HM.out _ (HQ.out.boxes.below (by (repeat (first | exact grow_refl _ | refine grow_ext _ ?_ | refine grow_alloc _ ?_ | refine grow_drew ?_)))) (HQ.out.holes.below (by (repeat (first | exact grow_refl _ | refine grow_ext _ ?_ | refine grow_alloc _ ?_ | refine grow_drew ?_))))).mono ?_; rintro e w' ⟨rfl, x3, rfl⟩
  go_wp2_with fail
  go_at_call 16; refine (HSH0.out _ _ (HQ.out.below (by (repeat (first | exact grow_refl _ | refine grow_ext _ ?_ | refine grow_alloc _ ?_ | refine grow_drew ?_)))) (HL.out.below (by (repeat (first | exact grow_refl _ | refine grow_ext _ ?_ | refine grow_alloc _ ?_ | refine grow_drew ?_)))) (HR.out.below (by (repeat (first | exact grow_refl _ | refine grow_ext _ ?_ | refine grow_alloc _ ?_ | refine grow_drew ?_))))).mono ?_; rintro e w' ⟨rfl, x4, rfl⟩
  go_wp2_with fail
  refine world_mask (fun W => Below w.heap.size w W ∧ MAt21 W w.heap.size name (.slice ua bl.length uc) (.slice ta ml.length tc) cover agg poker ∧ FqAt W (w.heap.size + 1 + x0.heap.size + x1.heap.size + x2.heap.size + x3.heap.size + x4.heap.size) (f1 : Int) (f2 : Int)) _ ⟨by (repeat (first | exact grow_refl _ | refine grow_ext _ ?_ | refine grow_alloc _ ?_ | refine grow_drew ?_)), by simp [MAt21, go_sem], by simp [FqAt, go_sem, Nat.add_assoc]⟩ ?_
  rintro W1 ⟨hb, hm, hs⟩
  generalize w.heap.size + 1 + x0.heap.size + x1.heap.size + x2.heap.size + x3.heap.size + x4.heap.size = gs at *
  have HB1 := Lib.hid hb
  have HM1 := Lib.hid hm
  have HS1 := Lib.hid hs
  clear hb hm hs
  go_cut [14, 15] (fun s14 s15 wx => ∃ g, s14 = .pointer (some ⟨g, 0, none⟩) ∧ s15 = .int .i64 0 ∧ FqAt wx g (g1 : Int) (g2 : Int) ∧ Below W1.heap.size W1 wx)
  case first =>
    have hok : mkOk [10, 11] [⟨10, 11, 52, #[.int .i64 (g1 : Int), .int .i64 (g2 : Int)]⟩] := mkOk_one (by decide)
    refine wp_region_M [.agg #[.string name, .slice ua bl.length uc, .slice ta ml.length tc, .int .i64 cover, .int .i64 agg, .int .i64 poker], .slice va l.length vc, .slice (some ⟨rb, ro, none⟩) rs.length rc, .int .i64 (kk : Int), .slice (some ⟨rb, ro, none⟩) kk rc, .int .i64 x, .tuple #[.agg #[.int .i64 (g1 : Int), .int .i64 (g2 : Int)], .int .i64 0], .tuple #[.agg #[.int .i64 (g1 : Int), .int .i64 (g2 : Int)], .int .i64 0], .agg #[.int .i64 (g1 : Int), .int .i64 (g2 : Int)], .int .i64 0, undef, undef, .int .i64 0] [10, 11] [⟨10, 11, 52, #[.int .i64 (g1 : Int), .int .i64 (g2 : Int)]⟩] (by kernel_rfl) (by kernel_rfl) ?_ ?_ ?_
    · intro b hb
      simp only [List.mem_cons, List.not_mem_nil, or_false] at hb
      rcases hb with rfl
      all_goals exact ⟨of_decide_eq_true (by kernel_rfl), of_decide_eq_true (by kernel_rfl)⟩
    · intro L vs W i hlen hJ hi
      obtain ⟨x0, vs0, rfl, hlen0⟩ := len_cons hlen
      obtain ⟨x1, vs1, rfl, hlen1⟩ := len_cons hlen0
      obtain ⟨x2, vs2, rfl, hlen2⟩ := len_cons hlen1
      obtain ⟨x3, vs3, rfl, hlen3⟩ := len_cons hlen2
      obtain ⟨x4, vs4, rfl, hlen4⟩ := len_cons hlen3
      obtain ⟨x5, vs5, rfl, hlen5⟩ := len_cons hlen4
      obtain ⟨x6, vs6, rfl, hlen6⟩ := len_cons hlen5
      obtain ⟨x7, vs7, rfl, hlen7⟩ := len_cons hlen6
      obtain ⟨x8, vs8, rfl, hlen8⟩ := len_cons hlen7
      obtain ⟨x9, vs9, rfl, hlen9⟩ := len_cons hlen8
      obtain ⟨x10, vs10, rfl, hlen10⟩ := len_cons hlen9
      obtain ⟨x11, vs11, rfl, hlen11⟩ := len_cons hlen10
      obtain ⟨x12, vs12, rfl, hlen12⟩ := len_cons hlen11
      obtain rfl := len_nil hlen12
      clear hlen hlen0 hlen1 hlen2 hlen3 hlen4 hlen5 hlen6 hlen7 hlen8 hlen9 hlen10 hlen11 hlen12
      obtain ⟨hun, o, ho, hd⟩ := mem_ready.1 hi
      have hin : i < 13 := by have := (Array.getElem?_eq_some_iff.1 ho).1; simpa using this
      refine wpOp_free (B := fun a' W' => ∃ x0 x1 x2 x3 x4 x5 x6 x7 x8 x9 x10 x11 x12, a' = putAll _ [x0, x1, x2, x3, x4, x5, x6, x7, x8, x9, x10, x11, x12] _ ∧ InvM _ _ _ _ [x0, x1, x2, x3, x4, x5, x6, x7, x8, x9, x10, x11, x12] (L.setIfInBounds i true) W') (fun _ _ h => by obtain ⟨x0, x1, x2, x3, x4, x5, x6, x7, x8, x9, x10, x11, x12, h1, h2⟩ := h; exact ⟨[x0, x1, x2, x3, x4, x5, x6, x7, x8, x9, x10, x11, x12], rfl, h1, h2⟩) ?_
      intro K HK
      simp only [putAll_cons, putAll_nil, put_some, put_none, List.setIfInBounds_toArray, List.set_cons_succ, List.set_cons_zero] at HK ⊢
      have HOK := Lib.hid hok
      clear hok
      obtain ⟨z, ez⟩ := ext_of hJ.below
      have hm := HM1.out.ext z
      rw [← ez] at hm
      obtain ⟨m0, m1, m2, m3, m4, m5⟩ := hm
      have HBJ := Lib.hid (HB1.out.trans (hJ.below.mono HB1.out.size))
      clear ez
      rcases (show i = 0 ∨ i = 1 ∨ i = 2 ∨ i = 3 ∨ i = 4 ∨ i = 5 ∨ i = 6 ∨ i = 7 ∨ i = 8 ∨ i = 9 ∨ i = 10 ∨ i = 11 ∨ i = 12 by omega) with rfl | rfl | rfl | rfl | rfl | rfl | rfl | rfl | rfl | rfl | rfl | rfl | rfl
      · obtain rfl := Option.some.inj ho
        refine wpOp_of_list (by rfl) ?_
        go_wp2
        exact HK.out _ _ ⟨_, _, _, _, _, _, _, _, _, _, _, _, _, rfl, hJ.up HOK.out 0 (by decide) (show 0 < 13 by decide) rfl⟩
      · obtain rfl := Option.some.inj ho
        refine wpOp_of_list (by rfl) ?_
        go_wp2
        exact HK.out _ _ ⟨_, _, _, _, _, _, _, _, _, _, _, _, _, rfl, hJ.up HOK.out 1 (by decide) (show 1 < 13 by decide) rfl⟩
      · obtain rfl := Option.some.inj ho
        refine wpOp_of_list (by rfl) ?_
        go_wp2
        exact HK.out _ _ ⟨_, _, _, _, _, _, _, _, _, _, _, _, _, rfl, hJ.up HOK.out 2 (by decide) (show 2 < 13 by decide) rfl⟩
      · obtain rfl := Option.some.inj ho
        refine wpOp_of_list (by rfl) ?_
        go_wp2
        exact HK.out _ _ ⟨_, _, _, _, _, _, _, _, _, _, _, _, _, rfl, hJ.up HOK.out 3 (by decide) (show 3 < 13 by decide) rfl⟩
      · obtain rfl := Option.some.inj ho
        have d2 : x2 = .slice (some ⟨rb, ro, none⟩) rs.length rc := hJ.val 2 (show 2 < 13 by decide) (by decide) (getD_upJ (hd ⟨2, .data⟩ (by simp) (by rfl)))
        have d3 : x3 = .int .i64 (kk : Int) := hJ.val 3 (show 3 < 13 by decide) (by decide) (getD_upJ (hd ⟨3, .data⟩ (by simp) (by rfl)))
        subst d2 d3
        refine wpOp_of_list (by rfl) ?_
        go_wp2
        exact HK.out _ _ ⟨_, _, _, _, _, _, _, _, _, _, _, _, _, rfl, hJ.up HOK.out 4 (by decide) (show 4 < 13 by decide) rfl⟩
      · obtain rfl := Option.some.inj ho
        refine wpOp_of_list (by rfl) ?_
        go_wp2
        exact HK.out _ _ ⟨_, _, _, _, _, _, _, _, _, _, _, _, _, rfl, hJ.up HOK.out 5 (by decide) (show 5 < 13 by decide) rfl⟩
      · obtain rfl := Option.some.inj ho
        have d0 : x0 = .agg #[.string name, .slice ua bl.length uc, .slice ta ml.length tc, .int .i64 cover, .int .i64 agg, .int .i64 poker] := hJ.val 0 (show 0 < 13 by decide) (by decide) (getD_upJ (hd ⟨0, .data⟩ (by simp) (by rfl)))
        have d1 : x1 = .slice va l.length vc := hJ.val 1 (show 1 < 13 by decide) (by decide) (getD_upJ (hd ⟨1, .data⟩ (by simp) (by rfl)))
        have d4 : x4 = .slice (some ⟨rb, ro, none⟩) kk rc := hJ.val 4 (show 4 < 13 by decide) (by decide) (getD_upJ (hd ⟨4, .data⟩ (by simp) (by rfl)))
        have d5 : x5 = .int .i64 x := hJ.val 5 (show 5 < 13 by decide) (by decide) (getD_upJ (hd ⟨5, .data⟩ (by simp) (by rfl)))
        subst d0 d1 d4 d5
        refine wpOp_of_list (by rfl) ?_
        go_wp2_with fail
        go_at_call 16; refine (HSH1.out _ _ (HQ.out.below HBJ.out) (HL.out.below HBJ.out) (HR1.out.below HBJ.out)).mono ?_; rintro e w' ⟨rfl, xq, rfl⟩
        go_wp2
        exact HK.out _ _ ⟨_, _, _, _, _, _, _, _, _, _, _, _, _, rfl, (hJ.grow _).up HOK.out 6 (by decide) (show 6 < 13 by decide) rfl⟩
      · obtain rfl := Option.some.inj ho
        have d6 : x6 = .tuple #[.agg #[.int .i64 (g1 : Int), .int .i64 (g2 : Int)], .int .i64 0] := hJ.val 6 (show 6 < 13 by decide) (by decide) (getD_upJ (hd ⟨6, .data⟩ (by simp) (by rfl)))
        subst d6
        refine wpOp_of_list (by rfl) ?_
        go_wp2
        exact HK.out _ _ ⟨_, _, _, _, _, _, _, _, _, _, _, _, _, rfl, hJ.up HOK.out 7 (by decide) (show 7 < 13 by decide) rfl⟩
      · obtain rfl := Option.some.inj ho
        have d7 : x7 = .tuple #[.agg #[.int .i64 (g1 : Int), .int .i64 (g2 : Int)], .int .i64 0] := hJ.val 7 (show 7 < 13 by decide) (by decide) (getD_upJ (hd ⟨7, .data⟩ (by simp) (by rfl)))
        subst d7
        refine wpOp_of_list (by rfl) ?_
        go_wp2
        exact HK.out _ _ ⟨_, _, _, _, _, _, _, _, _, _, _, _, _, rfl, hJ.up HOK.out 8 (by decide) (show 8 < 13 by decide) rfl⟩
      · obtain rfl := Option.some.inj ho
        have d7 : x7 = .tuple #[.agg #[.int .i64 (g1 : Int), .int .i64 (g2 : Int)], .int .i64 0] := hJ.val 7 (show 7 < 13 by decide) (by decide) (getD_upJ (hd ⟨7, .data⟩ (by simp) (by rfl)))
        subst d7
        refine wpOp_of_list (by rfl) ?_
        go_wp2
        exact HK.out _ _ ⟨_, _, _, _, _, _, _, _, _, _, _, _, _, rfl, hJ.up HOK.out 9 (by decide) (show 9 < 13 by decide) rfl⟩
      · obtain rfl := Option.some.inj ho
        refine wpOp_of_list (by rfl) ?_
        go_wp2
        exact HK.out _ _ ⟨_, _, _, _, _, _, _, _, _, _, _, _, _, rfl, hJ.make HOK.out ⟨10, 11, 52, #[.int .i64 (g1 : Int), .int .i64 (g2 : Int)]⟩ (by simp) (show 10 < 13 by decide) hun #[.int .i64 0, .int .i64 0] rfl rfl⟩
      · obtain rfl := Option.some.inj ho
        have d8 : x8 = .agg #[.int .i64 (g1 : Int), .int .i64 (g2 : Int)] := hJ.val 8 (show 8 < 13 by decide) (by decide) (getD_upJ (hd ⟨8, .data⟩ (by simp) (by rfl)))
        have hka := getD_upJ (hd ⟨10, .data⟩ (by simp) (by rfl))
        obtain ⟨gq, hs, hg, cs, hcs, hb, -⟩ := hJ.made ⟨10, 11, 52, #[.int .i64 (g1 : Int), .int .i64 (g2 : Int)]⟩ (by simp) hka
        have hs2 : x10 = .pointer (some ⟨gq, 0, none⟩) := hs
        obtain ⟨qa0, qh0⟩ : ∃ a, cs[0]? = some a := ⟨_, Array.getElem?_eq_getElem (by rw [hcs]; exact (show 0 < 2 by decide))⟩
        obtain ⟨qa1, qh1⟩ : ∃ a, cs[1]? = some a := ⟨_, Array.getElem?_eq_getElem (by rw [hcs]; exact (show 1 < 2 by decide))⟩
        have qf0 : W.frozen? ⟨gq, 0, none⟩ = false := hb.frozen 0
        have qg0 : W.cell? ⟨gq, 0, none⟩ = some qa0 := (hb.cell 0).trans qh0
        have qf1 : W.frozen? ⟨gq, 1, none⟩ = false := hb.frozen 1
        have qg1 : W.cell? ⟨gq, 1, none⟩ = some qa1 := (hb.cell 1).trans qh1
        subst d8
        subst hs2
        refine wpOp_of_list (by rfl) ?_
        go_wp2
        refine HK.out _ _ ⟨_, _, _, _, _, _, _, _, _, _, _, _, _, rfl, hJ.fill HOK.out ⟨10, 11, 52, #[.int .i64 (g1 : Int), .int .i64 (g2 : Int)]⟩ (by simp) hka hs hg ((hJ.below.setCell hg _).setCell hg _) (fun k hk => by rw [Below.heap_setCell _ _ _ _ hk, Below.heap_setCell _ _ _ _ hk]) ?_⟩
        show Blk _ gq #[.int .i64 (g1 : Int), .int .i64 (g2 : Int)] _
        rw [← fill2 (a := .int .i64 (g1 : Int)) (b := .int .i64 (g2 : Int)) hcs]
        exact ((hb.set 0 _).set 1 _)
      · obtain rfl := Option.some.inj ho
        have d9 : x9 = .int .i64 0 := hJ.val 9 (show 9 < 13 by decide) (by decide) (getD_upJ (hd ⟨9, .data⟩ (by simp) (by rfl)))
        subst d9
        refine wpOp_of_list (by rfl) ?_
        go_wp2
        exact HK.out _ _ ⟨_, _, _, _, _, _, _, _, _, _, _, _, _, rfl, hJ.up HOK.out 12 (by decide) (show 12 < 13 by decide) rfl⟩
    · intro vs L W hlen hJ hall
      clear hok
      obtain ⟨x0, vs0, rfl, hlen0⟩ := len_cons hlen
      obtain ⟨x1, vs1, rfl, hlen1⟩ := len_cons hlen0
      obtain ⟨x2, vs2, rfl, hlen2⟩ := len_cons hlen1
      obtain ⟨x3, vs3, rfl, hlen3⟩ := len_cons hlen2
      obtain ⟨x4, vs4, rfl, hlen4⟩ := len_cons hlen3
      obtain ⟨x5, vs5, rfl, hlen5⟩ := len_cons hlen4
      obtain ⟨x6, vs6, rfl, hlen6⟩ := len_cons hlen5
      obtain ⟨x7, vs7, rfl, hlen7⟩ := len_cons hlen6
      obtain ⟨x8, vs8, rfl, hlen8⟩ := len_cons hlen7
      obtain ⟨x9, vs9, rfl, hlen9⟩ := len_cons hlen8
      obtain ⟨x10, vs10, rfl, hlen10⟩ := len_cons hlen9
      obtain ⟨x11, vs11, rfl, hlen11⟩ := len_cons hlen10
      obtain ⟨x12, vs12, rfl, hlen12⟩ := len_cons hlen11
      obtain rfl := len_nil hlen12
      clear hlen hlen0 hlen1 hlen2 hlen3 hlen4 hlen5 hlen6 hlen7 hlen8 hlen9 hlen10 hlen11 hlen12
      obtain ⟨g0, hs0, hg0, cs0, -, hk0, hc0⟩ := hJ.made ⟨10, 11, 52, #[.int .i64 (g1 : Int), .int .i64 (g2 : Int)]⟩ (by simp) (hall 10 (of_decide_eq_true (by kernel_rfl)))
      obtain rfl : cs0 = #[.int .i64 (g1 : Int), .int .i64 (g2 : Int)] := hc0 (hall 11 (of_decide_eq_true (by kernel_rfl)))
      have d0 : x0 = .agg #[.string name, .slice ua bl.length uc, .slice ta ml.length tc, .int .i64 cover, .int .i64 agg, .int .i64 poker] := hJ.val 0 (show 0 < 13 by decide) (by decide) (hall 0 (of_decide_eq_true (by kernel_rfl)))
      have d1 : x1 = .slice va l.length vc := hJ.val 1 (show 1 < 13 by decide) (by decide) (hall 1 (of_decide_eq_true (by kernel_rfl)))
      have d2 : x2 = .slice (some ⟨rb, ro, none⟩) rs.length rc := hJ.val 2 (show 2 < 13 by decide) (by decide) (hall 2 (of_decide_eq_true (by kernel_rfl)))
      have d3 : x3 = .int .i64 (kk : Int) := hJ.val 3 (show 3 < 13 by decide) (by decide) (hall 3 (of_decide_eq_true (by kernel_rfl)))
      have d4 : x4 = .slice (some ⟨rb, ro, none⟩) kk rc := hJ.val 4 (show 4 < 13 by decide) (by decide) (hall 4 (of_decide_eq_true (by kernel_rfl)))
      have d5 : x5 = .int .i64 x := hJ.val 5 (show 5 < 13 by decide) (by decide) (hall 5 (of_decide_eq_true (by kernel_rfl)))
      have d6 : x6 = .tuple #[.agg #[.int .i64 (g1 : Int), .int .i64 (g2 : Int)], .int .i64 0] := hJ.val 6 (show 6 < 13 by decide) (by decide) (hall 6 (of_decide_eq_true (by kernel_rfl)))
      have d7 : x7 = .tuple #[.agg #[.int .i64 (g1 : Int), .int .i64 (g2 : Int)], .int .i64 0] := hJ.val 7 (show 7 < 13 by decide) (by decide) (hall 7 (of_decide_eq_true (by kernel_rfl)))
      have d8 : x8 = .agg #[.int .i64 (g1 : Int), .int .i64 (g2 : Int)] := hJ.val 8 (show 8 < 13 by decide) (by decide) (hall 8 (of_decide_eq_true (by kernel_rfl)))
      have d9 : x9 = .int .i64 0 := hJ.val 9 (show 9 < 13 by decide) (by decide) (hall 9 (of_decide_eq_true (by kernel_rfl)))
      have d12 : x12 = .int .i64 0 := hJ.val 12 (show 12 < 13 by decide) (by decide) (hall 12 (of_decide_eq_true (by kernel_rfl)))
      have e0 : x10 = .pointer (some ⟨g0, 0, none⟩) := hs0
      have hbel := hJ.below
      clear hJ hall hs0 hc0
      subst d0 d1 d2 d3 d4 d5 d6 d7 d8 d9 d12 e0
      simp only [putAll_cons, putAll_nil, put_some, put_none, List.setIfInBounds_toArray, List.set_cons_succ, List.set_cons_zero]
      have HBW := Lib.hid hbel
      have HK0 := Lib.hid hk0
      clear hbel hk0 hg0
      go_wp2_with fail
      go_meet
      exact ⟨g0, rfl, rfl, ⟨(HK0.out.cell 0).trans rfl, (HK0.out.cell 1).trans rfl⟩, HBW.out⟩
  case rest =>
    obtain ⟨ga, rfl, rfl, hfa, hbl⟩ := hcut
    obtain ⟨W2, rfl⟩ : ∃ W : World, W = wc := ⟨_, rfl⟩
    obtain ⟨z, ez⟩ := ext_of hbl
    have HB2 := Lib.hid (HB1.out.trans (hbl.mono HB1.out.size))
    have HM2 := Lib.hid (show MAt21 W2 w.heap.size name (.slice ua bl.length uc) (.slice ta ml.length tc) cover agg poker by rw [ez]; exact HM1.out.ext z)
    have HS2 := Lib.hid (show FqAt W2 gs (f1 : Int) (f2 : Int) by rw [ez]; exact HS1.out.ext z)
    have HA2 := Lib.hid hfa
    clear hfa hbl ez HB1 HM1 HS1
    go_wp2_with fail
    go_cut [16, 17] (fun s16 s17 wx => ∃ g, s16 = .pointer (some ⟨g, 0, none⟩) ∧ s17 = .int .i64 0 ∧ FqAt wx g (k1 : Int) (k2 : Int) ∧ Below W2.heap.size W2 wx)
    case first =>
      have hok : mkOk [10, 11] [⟨10, 11, 52, #[.int .i64 (k1 : Int), .int .i64 (k2 : Int)]⟩] := mkOk_one (by decide)
      refine wp_region_M [.agg #[.string name, .slice ua bl.length uc, .slice ta ml.length tc, .int .i64 cover, .int .i64 agg, .int .i64 poker], .slice va l.length vc, .slice (some ⟨rb, ro, none⟩) rs.length rc, .int .i64 (kk : Int), .slice (some ⟨rb, o2, none⟩) (rs.length - kk) (rc - kk), .int .i64 x, .tuple #[.agg #[.int .i64 (k1 : Int), .int .i64 (k2 : Int)], .int .i64 0], .tuple #[.agg #[.int .i64 (k1 : Int), .int .i64 (k2 : Int)], .int .i64 0], .agg #[.int .i64 (k1 : Int), .int .i64 (k2 : Int)], .int .i64 0, undef, undef, .int .i64 0] [10, 11] [⟨10, 11, 52, #[.int .i64 (k1 : Int), .int .i64 (k2 : Int)]⟩] (by kernel_rfl) (by kernel_rfl) ?_ ?_ ?_
      · intro b hb
        simp only [List.mem_cons, List.not_mem_nil, or_false] at hb
        rcases hb with rfl
        all_goals exact ⟨of_decide_eq_true (by kernel_rfl), of_decide_eq_true (by kernel_rfl)⟩
      · intro L vs W i hlen hJ hi
        obtain ⟨x0, vs0, rfl, hlen0⟩ := len_cons hlen
        obtain ⟨x1, vs1, rfl, hlen1⟩ := len_cons hlen0
        obtain ⟨x2, vs2, rfl, hlen2⟩ := len_cons hlen1
        obtain ⟨x3, vs3, rfl, hlen3⟩ := len_cons hlen2
        obtain ⟨x4, vs4, rfl, hlen4⟩ := len_cons hlen3
        obtain ⟨x5, vs5, rfl, hlen5⟩ := len_cons hlen4
        obtain ⟨x6, vs6, rfl, hlen6⟩ := len_cons hlen5
        obtain ⟨x7, vs7, rfl, hlen7⟩ := len_cons hlen6
        obtain ⟨x8, vs8, rfl, hlen8⟩ := len_cons hlen7
        obtain ⟨x9, vs9, rfl, hlen9⟩ := len_cons hlen8
        obtain ⟨x10, vs10, rfl, hlen10⟩ := len_cons hlen9
        obtain ⟨x11, vs11, rfl, hlen11⟩ := len_cons hlen10
        obtain ⟨x12, vs12, rfl, hlen12⟩ := len_cons hlen11
        obtain rfl := len_nil hlen12
        clear hlen hlen0 hlen1 hlen2 hlen3 hlen4 hlen5 hlen6 hlen7 hlen8 hlen9 hlen10 hlen11 hlen12
        obtain ⟨hun, o, ho, hd⟩ := mem_ready.1 hi
        have hin : i < 13 := by have := (Array.getElem?_eq_some_iff.1 ho).1; simpa using this
        refine wpOp_free (B := fun a' W' => ∃ x0 x1 x2 x3 x4 x5 x6 x7 x8 x9 x10 x11 x12, a' = putAll _ [x0, x1, x2, x3, x4, x5, x6, x7, x8, x9, x10, x11, x12] _ ∧ InvM _ _ _ _ [x0, x1, x2, x3, x4, x5, x6, x7, x8, x9, x10, x11, x12] (L.setIfInBounds i true) W') (fun _ _ h => by obtain ⟨x0, x1, x2, x3, x4, x5, x6, x7, x8, x9, x10, x11, x12, h1, h2⟩ := h; exact ⟨[x0, x1, x2, x3, x4, x5, x6, x7, x8, x9, x10, x11, x12], rfl, h1, h2⟩) ?_
        intro K HK
        simp only [putAll_cons, putAll_nil, put_some, put_none, List.setIfInBounds_toArray, List.set_cons_succ, List.set_cons_zero] at HK ⊢
        have HOK := Lib.hid hok
        clear hok
        obtain ⟨z, ez⟩ := ext_of hJ.below
        have hm := HM2.out.ext z
        rw [← ez] at hm
        obtain ⟨m0, m1, m2, m3, m4, m5⟩ := hm
        have HBJ := Lib.hid (HB2.out.trans (hJ.below.mono HB2.out.size))
        clear ez
        rcases (show i = 0 ∨ i = 1 ∨ i = 2 ∨ i = 3 ∨ i = 4 ∨ i = 5 ∨ i = 6 ∨ i = 7 ∨ i = 8 ∨ i = 9 ∨ i = 10 ∨ i = 11 ∨ i = 12 by omega) with rfl | rfl | rfl | rfl | rfl | rfl | rfl | rfl | rfl | rfl | rfl | rfl | rfl
        · obtain rfl := Option.some.inj ho
          refine wpOp_of_list (by rfl) ?_
          go_wp2
          exact HK.out _ _ ⟨_, _, _, _, _, _, _, _, _, _, _, _, _, rfl, hJ.up HOK.out 0 (by decide) (show 0 < 13 by decide) rfl⟩
        · obtain rfl := Option.some.inj ho
          refine wpOp_of_list (by rfl) ?_
          go_wp2
          exact HK.out _ _ ⟨_, _, _, _, _, _, _, _, _, _, _, _, _, rfl, hJ.up HOK.out 1 (by decide) (show 1 < 13 by decide) rfl⟩
        · obtain rfl := Option.some.inj ho
          refine wpOp_of_list (by rfl) ?_
          go_wp2
          exact HK.out _ _ ⟨_, _, _, _, _, _, _, _, _, _, _, _, _, rfl, hJ.up HOK.out 2 (by decide) (show 2 < 13 by decide) rfl⟩
        · obtain rfl := Option.some.inj ho
          refine wpOp_of_list (by rfl) ?_
          go_wp2
          exact HK.out _ _ ⟨_, _, _, _, _, _, _, _, _, _, _, _, _, rfl, hJ.up HOK.out 3 (by decide) (show 3 < 13 by decide) rfl⟩
        · obtain rfl := Option.some.inj ho
          have d2 : x2 = .slice (some ⟨rb, ro, none⟩) rs.length rc := hJ.val 2 (show 2 < 13 by decide) (by decide) (getD_upJ (hd ⟨2, .data⟩ (by simp) (by rfl)))
          have d3 : x3 = .int .i64 (kk : Int) := hJ.val 3 (show 3 < 13 by decide) (by decide) (getD_upJ (hd ⟨3, .data⟩ (by simp) (by rfl)))
          subst d2 d3
          refine wpOp_of_list (by rfl) ?_
          by_cases hrk : rc = kk
          · have e2 : o2 = ro := by rw [HO2.out, if_pos hrk]
            subst hrk
            go_wp2
            exact HK.out _ _ ⟨_, _, _, _, _, _, _, _, _, _, _, _, _, rfl, hJ.up HOK.out 4 (by decide) (show 4 < 13 by decide) (by simp [e2] <;> omega)⟩
          · have e2 : o2 = ro + kk * 10 := by rw [HO2.out, if_neg hrk]
            go_wp2
            exact HK.out _ _ ⟨_, _, _, _, _, _, _, _, _, _, _, _, _, rfl, hJ.up HOK.out 4 (by decide) (show 4 < 13 by decide) (by simp [e2] <;> omega)⟩
        · obtain rfl := Option.some.inj ho
          refine wpOp_of_list (by rfl) ?_
          go_wp2
          exact HK.out _ _ ⟨_, _, _, _, _, _, _, _, _, _, _, _, _, rfl, hJ.up HOK.out 5 (by decide) (show 5 < 13 by decide) rfl⟩
        · obtain rfl := Option.some.inj ho
          have d0 : x0 = .agg #[.string name, .slice ua bl.length uc, .slice ta ml.length tc, .int .i64 cover, .int .i64 agg, .int .i64 poker] := hJ.val 0 (show 0 < 13 by decide) (by decide) (getD_upJ (hd ⟨0, .data⟩ (by simp) (by rfl)))
          have d1 : x1 = .slice va l.length vc := hJ.val 1 (show 1 < 13 by decide) (by decide) (getD_upJ (hd ⟨1, .data⟩ (by simp) (by rfl)))
          have d4 : x4 = .slice (some ⟨rb, o2, none⟩) (rs.length - kk) (rc - kk) := hJ.val 4 (show 4 < 13 by decide) (by decide) (getD_upJ (hd ⟨4, .data⟩ (by simp) (by rfl)))
          have d5 : x5 = .int .i64 x := hJ.val 5 (show 5 < 13 by decide) (by decide) (getD_upJ (hd ⟨5, .data⟩ (by simp) (by rfl)))
          subst d0 d1 d4 d5
          refine wpOp_of_list (by rfl) ?_
          go_wp2_with fail
          go_at_call 16; refine (HSH2.out _ _ (HQ.out.below HBJ.out) (HL.out.below HBJ.out) (HR2.out.below HBJ.out)).mono ?_; rintro e w' ⟨rfl, xq, rfl⟩
          go_wp2
          exact HK.out _ _ ⟨_, _, _, _, _, _, _, _, _, _, _, _, _, rfl, (hJ.grow _).up HOK.out 6 (by decide) (show 6 < 13 by decide) rfl⟩
        · obtain rfl := Option.some.inj ho
          have d6 : x6 = .tuple #[.agg #[.int .i64 (k1 : Int), .int .i64 (k2 : Int)], .int .i64 0] := hJ.val 6 (show 6 < 13 by decide) (by decide) (getD_upJ (hd ⟨6, .data⟩ (by simp) (by rfl)))
          subst d6
          refine wpOp_of_list (by rfl) ?_
          go_wp2
          exact HK.out _ _ ⟨_, _, _, _, _, _, _, _, _, _, _, _, _, rfl, hJ.up HOK.out 7 (by decide) (show 7 < 13 by decide) rfl⟩
        · obtain rfl := Option.some.inj ho
          have d7 : x7 = .tuple #[.agg #[.int .i64 (k1 : Int), .int .i64 (k2 : Int)], .int .i64 0] := hJ.val 7 (show 7 < 13 by decide) (by decide) (getD_upJ (hd ⟨7, .data⟩ (by simp) (by rfl)))
          subst d7
          refine wpOp_of_list (by rfl) ?_
          go_wp2
          exact HK.out _ _ ⟨_, _, _, _, _, _, _, _, _, _, _, _, _, rfl, hJ.up HOK.out 8 (by decide) (show 8 < 13 by decide) rfl⟩
        · obtain rfl := Option.some.inj ho
          have d7 : x7 = .tuple #[.agg #[.int .i64 (k1 : Int), .int .i64 (k2 : Int)], .int .i64 0] := hJ.val 7 (show 7 < 13 by decide) (by decide) (getD_upJ (hd ⟨7, .data⟩ (by simp) (by rfl)))
          subst d7
          refine wpOp_of_list (by rfl) ?_
          go_wp2
          exact HK.out _ _ ⟨_, _, _, _, _, _, _, _, _, _, _, _, _, rfl, hJ.up HOK.out 9 (by decide) (show 9 < 13 by decide) rfl⟩
        · obtain rfl := Option.some.inj ho
          refine wpOp_of_list (by rfl) ?_
          go_wp2
          exact HK.out _ _ ⟨_, _, _, _, _, _, _, _, _, _, _, _, _, rfl, hJ.make HOK.out ⟨10, 11, 52, #[.int .i64 (k1 : Int), .int .i64 (k2 : Int)]⟩ (by simp) (show 10 < 13 by decide) hun #[.int .i64 0, .int .i64 0] rfl rfl⟩
        · obtain rfl := Option.some.inj ho
          have d8 : x8 = .agg #[.int .i64 (k1 : Int), .int .i64 (k2 : Int)] := hJ.val 8 (show 8 < 13 by decide) (by decide) (getD_upJ (hd ⟨8, .data⟩ (by simp) (by rfl)))
          have hka := getD_upJ (hd ⟨10, .data⟩ (by simp) (by rfl))
          obtain ⟨gq, hs, hg, cs, hcs, hb, -⟩ := hJ.made ⟨10, 11, 52, #[.int .i64 (k1 : Int), .int .i64 (k2 : Int)]⟩ (by simp) hka
          have hs2 : x10 = .pointer (some ⟨gq, 0, none⟩) := hs
          obtain ⟨qa0, qh0⟩ : ∃ a, cs[0]? = some a := ⟨_, Array.getElem?_eq_getElem (by rw [hcs]; exact (show 0 < 2 by decide))⟩
          obtain ⟨qa1, qh1⟩ : ∃ a, cs[1]? = some a := ⟨_, Array.getElem?_eq_getElem (by rw [hcs]; exact (show 1 < 2 by decide))⟩
          have qf0 : W.frozen? ⟨gq, 0, none⟩ = false := hb.frozen 0
          have qg0 : W.cell? ⟨gq, 0, none⟩ = some qa0 := (hb.cell 0).trans qh0
          have qf1 : W.frozen? ⟨gq, 1, none⟩ = false := hb.frozen 1
          have qg1 : W.cell? ⟨gq, 1, none⟩ = some qa1 := (hb.cell 1).trans qh1
          subst d8
          subst hs2
          refine wpOp_of_list (by rfl) ?_
          go_wp2
          refine HK.out _ _ ⟨_, _, _, _, _, _, _, _, _, _, _, _, _, rfl, hJ.fill HOK.out ⟨10, 11, 52, #[.int .i64 (k1 : Int), .int .i64 (k2 : Int)]⟩ (by simp) hka hs hg ((hJ.below.setCell hg _).setCell hg _) (fun k hk => by rw [Below.heap_setCell _ _ _ _ hk, Below.heap_setCell _ _ _ _ hk]) ?_⟩
          show Blk _ gq #[.int .i64 (k1 : Int), .int .i64 (k2 : Int)] _
          rw [← fill2 (a := .int .i64 (k1 : Int)) (b := .int .i64 (k2 : Int)) hcs]
          exact ((hb.set 0 _).set 1 _)
        · obtain rfl := Option.some.inj ho
          have d9 : x9 = .int .i64 0 := hJ.val 9 (show 9 < 13 by decide) (by decide) (getD_upJ (hd ⟨9, .data⟩ (by simp) (by rfl)))
          subst d9
          refine wpOp_of_list (by rfl) ?_
          go_wp2
          exact HK.out _ _ ⟨_, _, _, _, _, _, _, _, _, _, _, _, _, rfl, hJ.up HOK.out 12 (by decide) (show 12 < 13 by decide) rfl⟩
      · intro vs L W hlen hJ hall
        clear hok
        obtain ⟨x0, vs0, rfl, hlen0⟩ := len_cons hlen
        obtain ⟨x1, vs1, rfl, hlen1⟩ := len_cons hlen0
        obtain ⟨x2, vs2, rfl, hlen2⟩ := len_cons hlen1
        obtain ⟨x3, vs3, rfl, hlen3⟩ := len_cons hlen2
        obtain ⟨x4, vs4, rfl, hlen4⟩ := len_cons hlen3
        obtain ⟨x5, vs5, rfl, hlen5⟩ := len_cons hlen4
        obtain ⟨x6, vs6, rfl, hlen6⟩ := len_cons hlen5
        obtain ⟨x7, vs7, rfl, hlen7⟩ := len_cons hlen6
        obtain ⟨x8, vs8, rfl, hlen8⟩ := len_cons hlen7
        obtain ⟨x9, vs9, rfl, hlen9⟩ := len_cons hlen8
        obtain ⟨x10, vs10, rfl, hlen10⟩ := len_cons hlen9
        obtain ⟨x11, vs11, rfl, hlen11⟩ := len_cons hlen10
        obtain ⟨x12, vs12, rfl, hlen12⟩ := len_cons hlen11
        obtain rfl := len_nil hlen12
        clear hlen hlen0 hlen1 hlen2 hlen3 hlen4 hlen5 hlen6 hlen7 hlen8 hlen9 hlen10 hlen11 hlen12
        obtain ⟨g0, hs0, hg0, cs0, -, hk0, hc0⟩ := hJ.made ⟨10, 11, 52, #[.int .i64 (k1 : Int), .int .i64 (k2 : Int)]⟩ (by simp) (hall 10 (of_decide_eq_true (by kernel_rfl)))
        obtain rfl : cs0 = #[.int .i64 (k1 : Int), .int .i64 (k2 : Int)] := hc0 (hall 11 (of_decide_eq_true (by kernel_rfl)))
        have d0 : x0 = .agg #[.string name, .slice ua bl.length uc, .slice ta ml.length tc, .int .i64 cover, .int .i64 agg, .int .i64 poker] := hJ.val 0 (show 0 < 13 by decide) (by decide) (hall 0 (of_decide_eq_true (by kernel_rfl)))
        have d1 : x1 = .slice va l.length vc := hJ.val 1 (show 1 < 13 by decide) (by decide) (hall 1 (of_decide_eq_true (by kernel_rfl)))
        have d2 : x2 = .slice (some ⟨rb, ro, none⟩) rs.length rc := hJ.val 2 (show 2 < 13 by decide) (by decide) (hall 2 (of_decide_eq_true (by kernel_rfl)))
        have d3 : x3 = .int .i64 (kk : Int) := hJ.val 3 (show 3 < 13 by decide) (by decide) (hall 3 (of_decide_eq_true (by kernel_rfl)))
        have d4 : x4 = .slice (some ⟨rb, o2, none⟩) (rs.length - kk) (rc - kk) := hJ.val 4 (show 4 < 13 by decide) (by decide) (hall 4 (of_decide_eq_true (by kernel_rfl)))
        have d5 : x5 = .int .i64 x := hJ.val 5 (show 5 < 13 by decide) (by decide) (hall 5 (of_decide_eq_true (by kernel_rfl)))
        have d6 : x6 = .tuple #[.agg #[.int .i64 (k1 : Int), .int .i64 (k2 : Int)], .int .i64 0] := hJ.val 6 (show 6 < 13 by decide) (by decide) (hall 6 (of_decide_eq_true (by kernel_rfl)))
        have d7 : x7 = .tuple #[.agg #[.int .i64 (k1 : Int), .int .i64 (k2 : Int)], .int .i64 0] := hJ.val 7 (show 7 < 13 by decide) (by decide) (hall 7 (of_decide_eq_true (by kernel_rfl)))
        have d8 : x8 = .agg #[.int .i64 (k1 : Int), .int .i64 (k2 : Int)] := hJ.val 8 (show 8 < 13 by decide) (by decide) (hall 8 (of_decide_eq_true (by kernel_rfl)))
        have d9 : x9 = .int .i64 0 := hJ.val 9 (show 9 < 13 by decide) (by decide) (hall 9 (of_decide_eq_true (by kernel_rfl)))
        have d12 : x12 = .int .i64 0 := hJ.val 12 (show 12 < 13 by decide) (by decide) (hall 12 (of_decide_eq_true (by kernel_rfl)))
        have e0 : x10 = .pointer (some ⟨g0, 0, none⟩) := hs0
        have hbel := hJ.below
        clear hJ hall hs0 hc0
        subst d0 d1 d2 d3 d4 d5 d6 d7 d8 d9 d12 e0
        simp only [putAll_cons, putAll_nil, put_some, put_none, List.setIfInBounds_toArray, List.set_cons_succ, List.set_cons_zero]
        have HBW := Lib.hid hbel
        have HK0 := Lib.hid hk0
        clear hbel hk0 hg0
        go_wp2_with fail
        go_meet
        exact ⟨g0, rfl, rfl, ⟨(HK0.out.cell 0).trans rfl, (HK0.out.cell 1).trans rfl⟩, HBW.out⟩
    case rest =>
      obtain ⟨gb, rfl, rfl, hfb, hbl⟩ := hcut
      obtain ⟨W3, rfl⟩ : ∃ W : World, W = wc := ⟨_, rfl⟩
      obtain ⟨z, ez⟩ := ext_of hbl
      have HB3 := Lib.hid (HB2.out.trans (hbl.mono HB2.out.size))
      obtain ⟨m0, m1, m2, m3, m4, m5⟩ := (show MAt21 W3 w.heap.size name (.slice ua bl.length uc) (.slice ta ml.length tc) cover agg poker by rw [ez]; exact HM2.out.ext z)
      obtain ⟨ks0, ks1⟩ := (show FqAt W3 gs (f1 : Int) (f2 : Int) by rw [ez]; exact HS2.out.ext z)
      obtain ⟨ka0, ka1⟩ := (show FqAt W3 ga (g1 : Int) (g2 : Int) by rw [ez]; exact HA2.out.ext z)
      obtain ⟨kb0, kb1⟩ := hfb
      clear hbl ez HB2 HM2 HS2 HA2
      go_wp2_with fail
      go_at_call 25; refine (HSE.out _ ((HQ.out.below HB3.out).boxes.below (by (repeat (first | exact grow_refl _ | refine grow_ext _ ?_ | refine grow_alloc _ ?_ | refine grow_drew ?_)))) ((HQ.out.below HB3.out).holes.below (by (repeat (first | exact grow_refl _ | refine grow_ext _ ?_ | refine grow_alloc _ ?_ | refine grow_drew ?_))))).mono ?_; rintro e w' ⟨rfl, x5, rfl⟩
      go_wp2_with fail
      go_at_call 26; refine (HAD.out _).mono ?_; rintro e w' ⟨rfl, x6, rfl⟩
      go_wp2
      go_ret
      exact Ret.of (HB3.out.trans (Below.mono (by (repeat (first | exact grow_refl _ | refine grow_ext _ ?_ | refine grow_alloc _ ?_ | refine grow_drew ?_))) HB3.out.size))


set_option maxRecDepth 100000 in
set_option maxHeartbeats 8000000 in
theorem lawShr_3 (q : Mb) (l : List Br) (rs : List Rn) (v u : Value) (x qc : Int) (hc : 0 ≤ qc ∧ qc ≤ 255) (h4 : smallB q.l.length q.m.length 4 = true) (hn : q.name.size ≤ 60) (hb : memB q = true) (hv : laidB l rs = true) (hx : inI x (-1048576) 1048576 = true) (he : 0 < rs.length) (h0 : ¬ sectI q.l q.m x = 0) (h1 : l.length = 1) (w : World) (hq : MbAt w q) (hl : Bars w v l) (hr : Runs w u rs) :
    Calls Tryz.prog 5 #[(.agg #[.string q.name, q.u, q.t, .int .i64 q.cover, .int .i64 q.agg, .int .i64 q.poker]), v, u, .int .i64 x, .int .u8 qc] w (Ret w (.bool true)) := by
  have HL := Lib.hid hl
  have HR := Lib.hid hr
  have HQ := Lib.hid hq
  obtain ⟨ua, uc, eu, -, -, -⟩ := hq.boxes.shape
  obtain ⟨ta, tc, et, -, -, -⟩ := hq.holes.shape
  have HS4 := Lib.hid (fun w hl hm => refSmall_v q.l q.m q.u q.t 4 true h4 w hl hm)
  have dn : decide ((60 : Int) < (q.name.size : Int)) = false := by simp; omega
  have HM := Lib.hid (fun w hl hm => refMember_v q.name q.l q.m q.u q.t q.cover q.agg q.poker true hb hq.name w hl hm)
  have hxr : -1048576 ≤ x ∧ x ≤ 1048576 := by unfold inI at hx; simpa using hx
  have hlen := (laidB_iff.1 hv).2.1
  obtain ⟨kk, hkk⟩ : ∃ kk : Nat, qc % ((rs.length : Int) + 1) = (kk : Int) := ⟨(qc % ((rs.length : Int) + 1)).toNat, by have := Int.emod_nonneg qc (show (rs.length : Int) + 1 ≠ 0 by omega); omega⟩
  have hkl : kk ≤ rs.length := by have := Int.emod_lt_of_pos qc (show 0 < (rs.length : Int) + 1 by omega); omega
  have ht : qc.tmod ((rs.length : Int) + 1) = (kk : Int) := by rw [Int.tmod_eq_emod_of_nonneg hc.1]; exact hkk
  have hwq : IntKind.i64.wrap qc = qc := IntWalk.i64_in _ (by omega)
  obtain ⟨hv1, hv2⟩ := laid_take kk hv
  have hce := ce_ok hv hx
  have hce1 := ce_ok hv1 hx
  have hce2 := ce_ok hv2 hx
  have hsol := (member_iff.1 hb).2.1
  have HSE := Lib.hid (fun w hl hm => section_c q.l q.m q.u q.t x w hl hm)
  rw [show sectR q.l q.m x = (sectI q.l q.m x, 0) by unfold sectR; rw [if_pos hsol, if_pos hxr]] at HSE
  have hs0 : 0 ≤ steelI (cutsI l (rs.take kk) x) ∧ steelI (cutsI l (rs.take kk) x) ≤ 1560000000 := by
    have ok := rcOk hv1 hx
    have := steelT_range ok.sz (cutsI l (rs.take kk) x).length (Nat.le_refl _)
    rw [steelT_all] at this
    have := ok.len; have := ok.most; omega
  have hs1 : 0 ≤ steelI (cutsI l (rs.drop kk) x) ∧ steelI (cutsI l (rs.drop kk) x) ≤ 1560000000 := by
    have ok := rcOk hv2 hx
    have := steelT_range ok.sz (cutsI l (rs.drop kk) x).length (Nat.le_refl _)
    rw [steelT_all] at this
    have := ok.len; have := ok.most; omega
  have hsi := solid_iff.1 hsol
  have hne : q.l ≠ [] := by intro e; rw [e] at hsi; simp at hsi
  have hsr := sect_bound (m := q.m) hsi.2.2.1 hne x
  obtain ⟨A1, hA1⟩ : ∃ A : Nat, steelI (cutsI l (rs.take kk) x) = (A : Int) := ⟨(steelI (cutsI l (rs.take kk) x)).toNat, by omega⟩
  obtain ⟨A2, hA2⟩ : ∃ A : Nat, steelI (cutsI l (rs.drop kk) x) = (A : Int) := ⟨(steelI (cutsI l (rs.drop kk) x)).toNat, by omega⟩
  have hA0 : steelI (cutsI l rs x) = ((A1 + A2 : Nat) : Int) := by rw [steel_parts kk hv, hA1, hA2]; simp
  obtain ⟨S, hS⟩ : ∃ S : Nat, sectI q.l q.m x = (S : Int) := ⟨(sectI q.l q.m x).toNat, by omega⟩
  rw [hA1] at hs0
  rw [hA2] at hs1
  have hsS : 0 < S ∧ S ≤ 4398046511104 := by rw [hS] at hsr h0; omega
  obtain ⟨f1, f2, hF0⟩ : ∃ f1 f2 : Nat, fracV (A1 + A2) (100 * S) = .agg #[.int .i64 f1, .int .i64 f2] := ⟨_, _, rfl⟩
  obtain ⟨g1, g2, hF1⟩ : ∃ f1 f2 : Nat, fracV A1 (100 * S) = .agg #[.int .i64 f1, .int .i64 f2] := ⟨_, _, rfl⟩
  obtain ⟨k1, k2, hF2⟩ : ∃ f1 f2 : Nat, fracV A2 (100 * S) = .agg #[.int .i64 f1, .int .i64 f2] := ⟨_, _, rfl⟩
  have HSH0 := Lib.hid (fun u w hq hl hr => share_v q l rs v u x (.agg #[.int .i64 f1, .int .i64 f2]) 0 (by
    unfold shareE; rw [hb, if_pos rfl, hce, if_pos rfl, if_neg h0]
    simp only [hA0, hS]
    rw [← hF0]
    congr 2) w hq hl hr)
  have HSH1 := Lib.hid (fun u w hq hl hr => share_v q l (rs.take kk) v u x (.agg #[.int .i64 g1, .int .i64 g2]) 0 (by
    unfold shareE; rw [hb, if_pos rfl, hce1, if_pos rfl, if_neg h0]
    simp only [hA1, hS]
    rw [← hF1]
    congr 2) w hq hl hr)
  have HSH2 := Lib.hid (fun u w hq hl hr => share_v q l (rs.drop kk) v u x (.agg #[.int .i64 k1, .int .i64 k2]) 0 (by
    unfold shareE; rw [hb, if_pos rfl, hce2, if_pos rfl, if_neg h0]
    simp only [hA2, hS]
    rw [← hF2]
    congr 2) w hq hl hr)
  have HAD := Lib.hid (fun w => addF_c A1 A2 (100 * S) (by omega) (by omega) (by omega) (by omega) w)
  rw [hF0, hF1, hF2] at HAD
  rw [hS] at HSE
  have d0 : ((S : Int) == 0) = false := by simp; omega
  have d1 : decide ((f1 : Int) < 0) = false := by simp
  obtain ⟨b, rfl⟩ := List.length_eq_one_iff.1 h1
  have hsame := steel_same (one_size hv (x := x))
  have hszb : sizeB b.size = true := (shape_facts (schedB_shape (laidB_iff.1 hv).1 b (by simp))).2.2.1
  have har := areaI_range hszb
  obtain ⟨AR, hAR⟩ : ∃ A : Nat, areaI b.size = (A : Int) := ⟨(areaI b.size).toNat, by omega⟩
  have HAE := Lib.hid (fun w => AreaSt_v b.size AR hszb hAR w)
  have HRW := Lib.hid (fun w hl hr => (gRow_c [b] rs v u x w hl hr).mono fun e W h => rowLen7 h)
  rw [hce] at HRW
  simp only [List.length_map] at HRW
  rw [hA0, hAR] at hsame
  have hmx := (rcOk hv hx).most
  rw [(rcOk hv hx).len] at hmx
  obtain ⟨NC, hNC⟩ : ∃ n, (cutsI [b] rs x).length = n := ⟨_, rfl⟩
  rw [hNC] at HRW hsame hmx
  have hprod : A1 + A2 = NC * AR := by
    have : ((A1 + A2 : Nat) : Int) = ((NC * AR : Nat) : Int) := by rw [hsame]; simp
    exact Int.ofNat.inj this
  have HMK := Lib.hid (fun w => make_c (A1 + A2) (100 * S) (by omega) (by omega) (by omega) w)
  rw [hF0] at HMK
  have hw1 : wrap64 (100 * (S : Int)) = ((100 * S : Nat) : Int) := by rw [show ((100 * S : Nat) : Int) = 100 * (S : Int) by simp]; exact IntWalk.wrap64_in _ (by omega)
  have hw2 : wrap64 ((NC : Int) * (AR : Int)) = ((A1 + A2 : Nat) : Int) := by rw [hprod, show ((NC * AR : Nat) : Int) = (NC : Int) * (AR : Int) by simp]; rw [← hsame]; exact IntWalk.wrap64_in _ (by omega)
  obtain ⟨va, vc, rfl, -, -, hb4⟩ := hl.shape
  obtain ⟨_, b9, off9, rfl, hbr⟩ := hb4 0 (by simp)
  simp only [List.getElem_cons_zero, Nat.zero_mul, Nat.add_zero] at hbr
  have kb := hbr.2.1
  have hl1 : ([b].length : Int) = 1 := rfl
  obtain ⟨ra, rc, rfl, hr1, hrc, hr3⟩ := hr.shape
  obtain ⟨-, rb, ro, rfl, -⟩ := hr3 0 he
  have HR1 := Lib.hid (HR.out.take kk hkl)
  obtain ⟨o2, ho2⟩ : ∃ o2, o2 = if rc = kk then ro else ro + kk * 10 := ⟨_, rfl⟩
  have HR2 := Lib.hid (HR.out.drop2 kk hkl ho2)
  have HO2 := Lib.hid ho2
  clear ho2
  have s1 : 0 ≤ (kk : Int) := by omega
  have s2 : (kk : Int) ≤ (rs.length : Int) := by omega
  have s3 : (kk : Int) ≤ (rc : Int) := by omega
  have s4 : (kk : Int).toNat = kk := by omega
  obtain ⟨name, bl, ml, bu, bt, cover, agg, poker⟩ := q
  simp only at eu et HS4 dn HM HSE HSH0 HSH1 HSH2 hS
  subst eu et
  clear hq hl hr h4 hn hb hv hx h0 hxr hkk hv1 hv2 hce hce1 hce2 hsol hs0 hs1 hsi hne hsr hA1 hA2 hA0 hS hF0 hF1 hF2 hsS hsame hszb har hAR hmx hNC hprod hb4 hbr hr3 he
  go_enter Tryz.func5, Tryz.ntmps5
  go_wp2_with fail
  go_at_call 6; refine (awake21_c _).mono ?_; rintro e w' ⟨rfl, x0, rfl⟩
  go_wp2_with fail
  go_at_call 24; refine (right21_c _ _ _ _ x _ (HL.out.below (by (repeat (first | exact grow_refl _ | refine grow_ext _ ?_ | refine grow_alloc _ ?_ | refine grow_drew ?_)))) (HR.out.below (by (repeat (first | exact grow_refl _ | refine grow_ext _ ?_ | refine grow_alloc _ ?_ | refine grow_drew ?_))))).mono ?_; rintro e w' ⟨q0, rfl, hq0, x1, rfl⟩
  cases q0
  · clear hq0
    go_wp2
    go_ret
    exact Ret.of (by (repeat (first | exact grow_refl _ | refine grow_ext _ ?_ | refine grow_alloc _ ?_ | refine grow_drew ?_)))
  clear hq0
  go_wp2_with fail
  go_at_call 14; refine (HS4.out _ (HQ.out.boxes.below (by (repeat (first | exact grow_refl _ | refine grow_ext _ ?_ | refine grow_alloc _ ?_ | refine grow_drew ?_)))) (HQ.out.holes.below (by (repeat (first | exact grow_refl _ | refine grow_ext _ ?_ | refine grow_alloc _ ?_ | refine grow_drew ?_))))).mono ?_; rintro e w' ⟨rfl, x2, rfl⟩
  go_wp2_with fail
  go_at_call 20; refine (HM.out _ (HQ.out.boxes.below (by (repeat (first | exact grow_refl _ | refine grow_ext _ ?_ | refine grow_alloc _ ?_ | refine grow_drew ?_)))) (HQ.out.holes.below (by (repeat (first | exact grow_refl _ | refine grow_ext _ ?_ | refine grow_alloc _ ?_ | refine grow_drew ?_))))).mono ?_; rintro e w' ⟨rfl, x3, rfl⟩
  go_wp2_with fail
  go_at_call 16; refine (HSH0.out _ _ (HQ.out.below (by (repeat (first | exact grow_refl _ | refine grow_ext _ ?_ | refine grow_alloc _ ?_ | refine grow_drew ?_)))) (HL.out.below (by (repeat (first | exact grow_refl _ | refine grow_ext _ ?_ | refine grow_alloc _ ?_ | refine grow_drew ?_)))) (HR.out.below (by (repeat (first | exact grow_refl _ | refine grow_ext _ ?_ | refine grow_alloc _ ?_ | refine grow_drew ?_))))).mono ?_; rintro e w' ⟨rfl, x4, rfl⟩
  go_wp2_with fail
  refine world_mask (fun W => Below w.heap.size w W ∧ MAt21 W w.heap.size name (.slice ua bl.length uc) (.slice ta ml.length tc) cover agg poker ∧ FqAt W (w.heap.size + 1 + x0.heap.size + x1.heap.size + x2.heap.size + x3.heap.size + x4.heap.size) (f1 : Int) (f2 : Int)) _ ⟨by (repeat (first | exact grow_refl _ | refine grow_ext _ ?_ | refine grow_alloc _ ?_ | refine grow_drew ?_)), by simp [MAt21, go_sem], by simp [FqAt, go_sem, Nat.add_assoc]⟩ ?_
  rintro W1 ⟨hb, hm, hs⟩
  generalize w.heap.size + 1 + x0.heap.size + x1.heap.size + x2.heap.size + x3.heap.size + x4.heap.size = gs at *
  have HB1 := Lib.hid hb
  have HM1 := Lib.hid hm
  have HS1 := Lib.hid hs
  clear hb hm hs
  go_cut [14, 15] (fun s14 s15 wx => ∃ g, s14 = .pointer (some ⟨g, 0, none⟩) ∧ s15 = .int .i64 0 ∧ FqAt wx g (g1 : Int) (g2 : Int) ∧ Below W1.heap.size W1 wx)
  case first =>
    have hok : mkOk [10, 11] [⟨10, 11, 52, #[.int .i64 (g1 : Int), .int .i64 (g2 : Int)]⟩] := mkOk_one (by decide)
    refine wp_region_M [.agg #[.string name, .slice ua bl.length uc, .slice ta ml.length tc, .int .i64 cover, .int .i64 agg, .int .i64 poker], .slice (some ⟨b9, off9, none⟩) [b].length vc, .slice (some ⟨rb, ro, none⟩) rs.length rc, .int .i64 (kk : Int), .slice (some ⟨rb, ro, none⟩) kk rc, .int .i64 x, .tuple #[.agg #[.int .i64 (g1 : Int), .int .i64 (g2 : Int)], .int .i64 0], .tuple #[.agg #[.int .i64 (g1 : Int), .int .i64 (g2 : Int)], .int .i64 0], .agg #[.int .i64 (g1 : Int), .int .i64 (g2 : Int)], .int .i64 0, undef, undef, .int .i64 0] [10, 11] [⟨10, 11, 52, #[.int .i64 (g1 : Int), .int .i64 (g2 : Int)]⟩] (by kernel_rfl) (by kernel_rfl) ?_ ?_ ?_
    · intro b hb
      simp only [List.mem_cons, List.not_mem_nil, or_false] at hb
      rcases hb with rfl
      all_goals exact ⟨of_decide_eq_true (by kernel_rfl), of_decide_eq_true (by kernel_rfl)⟩
    · intro L vs W i hlen hJ hi
      obtain ⟨x0, vs0, rfl, hlen0⟩ := len_cons hlen
      obtain ⟨x1, vs1, rfl, hlen1⟩ := len_cons hlen0
      obtain ⟨x2, vs2, rfl, hlen2⟩ := len_cons hlen1
      obtain ⟨x3, vs3, rfl, hlen3⟩ := len_cons hlen2
      obtain ⟨x4, vs4, rfl, hlen4⟩ := len_cons hlen3
      obtain ⟨x5, vs5, rfl, hlen5⟩ := len_cons hlen4
      obtain ⟨x6, vs6, rfl, hlen6⟩ := len_cons hlen5
      obtain ⟨x7, vs7, rfl, hlen7⟩ := len_cons hlen6
      obtain ⟨x8, vs8, rfl, hlen8⟩ := len_cons hlen7
      obtain ⟨x9, vs9, rfl, hlen9⟩ := len_cons hlen8
      obtain ⟨x10, vs10, rfl, hlen10⟩ := len_cons hlen9
      obtain ⟨x11, vs11, rfl, hlen11⟩ := len_cons hlen10
      obtain ⟨x12, vs12, rfl, hlen12⟩ := len_cons hlen11
      obtain rfl := len_nil hlen12
      clear hlen hlen0 hlen1 hlen2 hlen3 hlen4 hlen5 hlen6 hlen7 hlen8 hlen9 hlen10 hlen11 hlen12
      obtain ⟨hun, o, ho, hd⟩ := mem_ready.1 hi
      have hin : i < 13 := by have := (Array.getElem?_eq_some_iff.1 ho).1; simpa using this
      refine wpOp_free (B := fun a' W' => ∃ x0 x1 x2 x3 x4 x5 x6 x7 x8 x9 x10 x11 x12, a' = putAll _ [x0, x1, x2, x3, x4, x5, x6, x7, x8, x9, x10, x11, x12] _ ∧ InvM _ _ _ _ [x0, x1, x2, x3, x4, x5, x6, x7, x8, x9, x10, x11, x12] (L.setIfInBounds i true) W') (fun _ _ h => by obtain ⟨x0, x1, x2, x3, x4, x5, x6, x7, x8, x9, x10, x11, x12, h1, h2⟩ := h; exact ⟨[x0, x1, x2, x3, x4, x5, x6, x7, x8, x9, x10, x11, x12], rfl, h1, h2⟩) ?_
      intro K HK
      simp only [putAll_cons, putAll_nil, put_some, put_none, List.setIfInBounds_toArray, List.set_cons_succ, List.set_cons_zero] at HK ⊢
      have HOK := Lib.hid hok
      clear hok
      obtain ⟨z, ez⟩ := ext_of hJ.below
      have hm := HM1.out.ext z
      rw [← ez] at hm
      obtain ⟨m0, m1, m2, m3, m4, m5⟩ := hm
      have HBJ := Lib.hid (HB1.out.trans (hJ.below.mono HB1.out.size))
      clear ez
      rcases (show i = 0 ∨ i = 1 ∨ i = 2 ∨ i = 3 ∨ i = 4 ∨ i = 5 ∨ i = 6 ∨ i = 7 ∨ i = 8 ∨ i = 9 ∨ i = 10 ∨ i = 11 ∨ i = 12 by omega) with rfl | rfl | rfl | rfl | rfl | rfl | rfl | rfl | rfl | rfl | rfl | rfl | rfl
      · obtain rfl := Option.some.inj ho
        refine wpOp_of_list (by rfl) ?_
        go_wp2
        exact HK.out _ _ ⟨_, _, _, _, _, _, _, _, _, _, _, _, _, rfl, hJ.up HOK.out 0 (by decide) (show 0 < 13 by decide) rfl⟩
      · obtain rfl := Option.some.inj ho
        refine wpOp_of_list (by rfl) ?_
        go_wp2
        exact HK.out _ _ ⟨_, _, _, _, _, _, _, _, _, _, _, _, _, rfl, hJ.up HOK.out 1 (by decide) (show 1 < 13 by decide) rfl⟩
      · obtain rfl := Option.some.inj ho
        refine wpOp_of_list (by rfl) ?_
        go_wp2
        exact HK.out _ _ ⟨_, _, _, _, _, _, _, _, _, _, _, _, _, rfl, hJ.up HOK.out 2 (by decide) (show 2 < 13 by decide) rfl⟩
      · obtain rfl := Option.some.inj ho
        refine wpOp_of_list (by rfl) ?_
        go_wp2
        exact HK.out _ _ ⟨_, _, _, _, _, _, _, _, _, _, _, _, _, rfl, hJ.up HOK.out 3 (by decide) (show 3 < 13 by decide) rfl⟩
      · obtain rfl := Option.some.inj ho
        have d2 : x2 = .slice (some ⟨rb, ro, none⟩) rs.length rc := hJ.val 2 (show 2 < 13 by decide) (by decide) (getD_upJ (hd ⟨2, .data⟩ (by simp) (by rfl)))
        have d3 : x3 = .int .i64 (kk : Int) := hJ.val 3 (show 3 < 13 by decide) (by decide) (getD_upJ (hd ⟨3, .data⟩ (by simp) (by rfl)))
        subst d2 d3
        refine wpOp_of_list (by rfl) ?_
        go_wp2
        exact HK.out _ _ ⟨_, _, _, _, _, _, _, _, _, _, _, _, _, rfl, hJ.up HOK.out 4 (by decide) (show 4 < 13 by decide) rfl⟩
      · obtain rfl := Option.some.inj ho
        refine wpOp_of_list (by rfl) ?_
        go_wp2
        exact HK.out _ _ ⟨_, _, _, _, _, _, _, _, _, _, _, _, _, rfl, hJ.up HOK.out 5 (by decide) (show 5 < 13 by decide) rfl⟩
      · obtain rfl := Option.some.inj ho
        have d0 : x0 = .agg #[.string name, .slice ua bl.length uc, .slice ta ml.length tc, .int .i64 cover, .int .i64 agg, .int .i64 poker] := hJ.val 0 (show 0 < 13 by decide) (by decide) (getD_upJ (hd ⟨0, .data⟩ (by simp) (by rfl)))
        have d1 : x1 = .slice (some ⟨b9, off9, none⟩) [b].length vc := hJ.val 1 (show 1 < 13 by decide) (by decide) (getD_upJ (hd ⟨1, .data⟩ (by simp) (by rfl)))
        have d4 : x4 = .slice (some ⟨rb, ro, none⟩) kk rc := hJ.val 4 (show 4 < 13 by decide) (by decide) (getD_upJ (hd ⟨4, .data⟩ (by simp) (by rfl)))
        have d5 : x5 = .int .i64 x := hJ.val 5 (show 5 < 13 by decide) (by decide) (getD_upJ (hd ⟨5, .data⟩ (by simp) (by rfl)))
        subst d0 d1 d4 d5
        refine wpOp_of_list (by rfl) ?_
        go_wp2_with fail
        go_at_call 16; refine (HSH1.out _ _ (HQ.out.below HBJ.out) (HL.out.below HBJ.out) (HR1.out.below HBJ.out)).mono ?_; rintro e w' ⟨rfl, xq, rfl⟩
        go_wp2
        exact HK.out _ _ ⟨_, _, _, _, _, _, _, _, _, _, _, _, _, rfl, (hJ.grow _).up HOK.out 6 (by decide) (show 6 < 13 by decide) rfl⟩
      · obtain rfl := Option.some.inj ho
        have d6 : x6 = .tuple #[.agg #[.int .i64 (g1 : Int), .int .i64 (g2 : Int)], .int .i64 0] := hJ.val 6 (show 6 < 13 by decide) (by decide) (getD_upJ (hd ⟨6, .data⟩ (by simp) (by rfl)))
        subst d6
        refine wpOp_of_list (by rfl) ?_
        go_wp2
        exact HK.out _ _ ⟨_, _, _, _, _, _, _, _, _, _, _, _, _, rfl, hJ.up HOK.out 7 (by decide) (show 7 < 13 by decide) rfl⟩
      · obtain rfl := Option.some.inj ho
        have d7 : x7 = .tuple #[.agg #[.int .i64 (g1 : Int), .int .i64 (g2 : Int)], .int .i64 0] := hJ.val 7 (show 7 < 13 by decide) (by decide) (getD_upJ (hd ⟨7, .data⟩ (by simp) (by rfl)))
        subst d7
        refine wpOp_of_list (by rfl) ?_
        go_wp2
        exact HK.out _ _ ⟨_, _, _, _, _, _, _, _, _, _, _, _, _, rfl, hJ.up HOK.out 8 (by decide) (show 8 < 13 by decide) rfl⟩
      · obtain rfl := Option.some.inj ho
        have d7 : x7 = .tuple #[.agg #[.int .i64 (g1 : Int), .int .i64 (g2 : Int)], .int .i64 0] := hJ.val 7 (show 7 < 13 by decide) (by decide) (getD_upJ (hd ⟨7, .data⟩ (by simp) (by rfl)))
        subst d7
        refine wpOp_of_list (by rfl) ?_
        go_wp2
        exact HK.out _ _ ⟨_, _, _, _, _, _, _, _, _, _, _, _, _, rfl, hJ.up HOK.out 9 (by decide) (show 9 < 13 by decide) rfl⟩
      · obtain rfl := Option.some.inj ho
        refine wpOp_of_list (by rfl) ?_
        go_wp2
        exact HK.out _ _ ⟨_, _, _, _, _, _, _, _, _, _, _, _, _, rfl, hJ.make HOK.out ⟨10, 11, 52, #[.int .i64 (g1 : Int), .int .i64 (g2 : Int)]⟩ (by simp) (show 10 < 13 by decide) hun #[.int .i64 0, .int .i64 0] rfl rfl⟩
      · obtain rfl := Option.some.inj ho
        have d8 : x8 = .agg #[.int .i64 (g1 : Int), .int .i64 (g2 : Int)] := hJ.val 8 (show 8 < 13 by decide) (by decide) (getD_upJ (hd ⟨8, .data⟩ (by simp) (by rfl)))
        have hka := getD_upJ (hd ⟨10, .data⟩ (by simp) (by rfl))
        obtain ⟨gq, hs, hg, cs, hcs, hb, -⟩ := hJ.made ⟨10, 11, 52, #[.int .i64 (g1 : Int), .int .i64 (g2 : Int)]⟩ (by simp) hka
        have hs2 : x10 = .pointer (some ⟨gq, 0, none⟩) := hs
        obtain ⟨qa0, qh0⟩ : ∃ a, cs[0]? = some a := ⟨_, Array.getElem?_eq_getElem (by rw [hcs]; exact (show 0 < 2 by decide))⟩
        obtain ⟨qa1, qh1⟩ : ∃ a, cs[1]? = some a := ⟨_, Array.getElem?_eq_getElem (by rw [hcs]; exact (show 1 < 2 by decide))⟩
        have qf0 : W.frozen? ⟨gq, 0, none⟩ = false := hb.frozen 0
        have qg0 : W.cell? ⟨gq, 0, none⟩ = some qa0 := (hb.cell 0).trans qh0
        have qf1 : W.frozen? ⟨gq, 1, none⟩ = false := hb.frozen 1
        have qg1 : W.cell? ⟨gq, 1, none⟩ = some qa1 := (hb.cell 1).trans qh1
        subst d8
        subst hs2
        refine wpOp_of_list (by rfl) ?_
        go_wp2
        refine HK.out _ _ ⟨_, _, _, _, _, _, _, _, _, _, _, _, _, rfl, hJ.fill HOK.out ⟨10, 11, 52, #[.int .i64 (g1 : Int), .int .i64 (g2 : Int)]⟩ (by simp) hka hs hg ((hJ.below.setCell hg _).setCell hg _) (fun k hk => by rw [Below.heap_setCell _ _ _ _ hk, Below.heap_setCell _ _ _ _ hk]) ?_⟩
        show Blk _ gq #[.int .i64 (g1 : Int), .int .i64 (g2 : Int)] _
        rw [← fill2 (a := .int .i64 (g1 : Int)) (b := .int .i64 (g2 : Int)) hcs]
        exact ((hb.set 0 _).set 1 _)
      · obtain rfl := Option.some.inj ho
        have d9 : x9 = .int .i64 0 := hJ.val 9 (show 9 < 13 by decide) (by decide) (getD_upJ (hd ⟨9, .data⟩ (by simp) (by rfl)))
        subst d9
        refine wpOp_of_list (by rfl) ?_
        go_wp2
        exact HK.out _ _ ⟨_, _, _, _, _, _, _, _, _, _, _, _, _, rfl, hJ.up HOK.out 12 (by decide) (show 12 < 13 by decide) rfl⟩
    · intro vs L W hlen hJ hall
      clear hok
      obtain ⟨x0, vs0, rfl, hlen0⟩ := len_cons hlen
      obtain ⟨x1, vs1, rfl, hlen1⟩ := len_cons hlen0
      obtain ⟨x2, vs2, rfl, hlen2⟩ := len_cons hlen1
      obtain ⟨x3, vs3, rfl, hlen3⟩ := len_cons hlen2
      obtain ⟨x4, vs4, rfl, hlen4⟩ := len_cons hlen3
      obtain ⟨x5, vs5, rfl, hlen5⟩ := len_cons hlen4
      obtain ⟨x6, vs6, rfl, hlen6⟩ := len_cons hlen5
      obtain ⟨x7, vs7, rfl, hlen7⟩ := len_cons hlen6
      obtain ⟨x8, vs8, rfl, hlen8⟩ := len_cons hlen7
      obtain ⟨x9, vs9, rfl, hlen9⟩ := len_cons hlen8
      obtain ⟨x10, vs10, rfl, hlen10⟩ := len_cons hlen9
      obtain ⟨x11, vs11, rfl, hlen11⟩ := len_cons hlen10
      obtain ⟨x12, vs12, rfl, hlen12⟩ := len_cons hlen11
      obtain rfl := len_nil hlen12
      clear hlen hlen0 hlen1 hlen2 hlen3 hlen4 hlen5 hlen6 hlen7 hlen8 hlen9 hlen10 hlen11 hlen12
      obtain ⟨g0, hs0, hg0, cs0, -, hk0, hc0⟩ := hJ.made ⟨10, 11, 52, #[.int .i64 (g1 : Int), .int .i64 (g2 : Int)]⟩ (by simp) (hall 10 (of_decide_eq_true (by kernel_rfl)))
      obtain rfl : cs0 = #[.int .i64 (g1 : Int), .int .i64 (g2 : Int)] := hc0 (hall 11 (of_decide_eq_true (by kernel_rfl)))
      have d0 : x0 = .agg #[.string name, .slice ua bl.length uc, .slice ta ml.length tc, .int .i64 cover, .int .i64 agg, .int .i64 poker] := hJ.val 0 (show 0 < 13 by decide) (by decide) (hall 0 (of_decide_eq_true (by kernel_rfl)))
      have d1 : x1 = .slice (some ⟨b9, off9, none⟩) [b].length vc := hJ.val 1 (show 1 < 13 by decide) (by decide) (hall 1 (of_decide_eq_true (by kernel_rfl)))
      have d2 : x2 = .slice (some ⟨rb, ro, none⟩) rs.length rc := hJ.val 2 (show 2 < 13 by decide) (by decide) (hall 2 (of_decide_eq_true (by kernel_rfl)))
      have d3 : x3 = .int .i64 (kk : Int) := hJ.val 3 (show 3 < 13 by decide) (by decide) (hall 3 (of_decide_eq_true (by kernel_rfl)))
      have d4 : x4 = .slice (some ⟨rb, ro, none⟩) kk rc := hJ.val 4 (show 4 < 13 by decide) (by decide) (hall 4 (of_decide_eq_true (by kernel_rfl)))
      have d5 : x5 = .int .i64 x := hJ.val 5 (show 5 < 13 by decide) (by decide) (hall 5 (of_decide_eq_true (by kernel_rfl)))
      have d6 : x6 = .tuple #[.agg #[.int .i64 (g1 : Int), .int .i64 (g2 : Int)], .int .i64 0] := hJ.val 6 (show 6 < 13 by decide) (by decide) (hall 6 (of_decide_eq_true (by kernel_rfl)))
      have d7 : x7 = .tuple #[.agg #[.int .i64 (g1 : Int), .int .i64 (g2 : Int)], .int .i64 0] := hJ.val 7 (show 7 < 13 by decide) (by decide) (hall 7 (of_decide_eq_true (by kernel_rfl)))
      have d8 : x8 = .agg #[.int .i64 (g1 : Int), .int .i64 (g2 : Int)] := hJ.val 8 (show 8 < 13 by decide) (by decide) (hall 8 (of_decide_eq_true (by kernel_rfl)))
      have d9 : x9 = .int .i64 0 := hJ.val 9 (show 9 < 13 by decide) (by decide) (hall 9 (of_decide_eq_true (by kernel_rfl)))
      have d12 : x12 = .int .i64 0 := hJ.val 12 (show 12 < 13 by decide) (by decide) (hall 12 (of_decide_eq_true (by kernel_rfl)))
      have e0 : x10 = .pointer (some ⟨g0, 0, none⟩) := hs0
      have hbel := hJ.below
      clear hJ hall hs0 hc0
      subst d0 d1 d2 d3 d4 d5 d6 d7 d8 d9 d12 e0
      simp only [putAll_cons, putAll_nil, put_some, put_none, List.setIfInBounds_toArray, List.set_cons_succ, List.set_cons_zero]
      have HBW := Lib.hid hbel
      have HK0 := Lib.hid hk0
      clear hbel hk0 hg0
      go_wp2_with fail
      go_meet
      exact ⟨g0, rfl, rfl, ⟨(HK0.out.cell 0).trans rfl, (HK0.out.cell 1).trans rfl⟩, HBW.out⟩
  case rest =>
    obtain ⟨ga, rfl, rfl, hfa, hbl⟩ := hcut
    obtain ⟨W2, rfl⟩ : ∃ W : World, W = wc := ⟨_, rfl⟩
    obtain ⟨z, ez⟩ := ext_of hbl
    have HB2 := Lib.hid (HB1.out.trans (hbl.mono HB1.out.size))
    have HM2 := Lib.hid (show MAt21 W2 w.heap.size name (.slice ua bl.length uc) (.slice ta ml.length tc) cover agg poker by rw [ez]; exact HM1.out.ext z)
    have HS2 := Lib.hid (show FqAt W2 gs (f1 : Int) (f2 : Int) by rw [ez]; exact HS1.out.ext z)
    have HA2 := Lib.hid hfa
    clear hfa hbl ez HB1 HM1 HS1
    go_wp2_with fail
    go_cut [16, 17] (fun s16 s17 wx => ∃ g, s16 = .pointer (some ⟨g, 0, none⟩) ∧ s17 = .int .i64 0 ∧ FqAt wx g (k1 : Int) (k2 : Int) ∧ Below W2.heap.size W2 wx)
    case first =>
      have hok : mkOk [10, 11] [⟨10, 11, 52, #[.int .i64 (k1 : Int), .int .i64 (k2 : Int)]⟩] := mkOk_one (by decide)
      refine wp_region_M [.agg #[.string name, .slice ua bl.length uc, .slice ta ml.length tc, .int .i64 cover, .int .i64 agg, .int .i64 poker], .slice (some ⟨b9, off9, none⟩) [b].length vc, .slice (some ⟨rb, ro, none⟩) rs.length rc, .int .i64 (kk : Int), .slice (some ⟨rb, o2, none⟩) (rs.length - kk) (rc - kk), .int .i64 x, .tuple #[.agg #[.int .i64 (k1 : Int), .int .i64 (k2 : Int)], .int .i64 0], .tuple #[.agg #[.int .i64 (k1 : Int), .int .i64 (k2 : Int)], .int .i64 0], .agg #[.int .i64 (k1 : Int), .int .i64 (k2 : Int)], .int .i64 0, undef, undef, .int .i64 0] [10, 11] [⟨10, 11, 52, #[.int .i64 (k1 : Int), .int .i64 (k2 : Int)]⟩] (by kernel_rfl) (by kernel_rfl) ?_ ?_ ?_
      · intro b hb
        simp only [List.mem_cons, List.not_mem_nil, or_false] at hb
        rcases hb with rfl
        all_goals exact ⟨of_decide_eq_true (by kernel_rfl), of_decide_eq_true (by kernel_rfl)⟩
      · intro L vs W i hlen hJ hi
        obtain ⟨x0, vs0, rfl, hlen0⟩ := len_cons hlen
        obtain ⟨x1, vs1, rfl, hlen1⟩ := len_cons hlen0
        obtain ⟨x2, vs2, rfl, hlen2⟩ := len_cons hlen1
        obtain ⟨x3, vs3, rfl, hlen3⟩ := len_cons hlen2
        obtain ⟨x4, vs4, rfl, hlen4⟩ := len_cons hlen3
        obtain ⟨x5, vs5, rfl, hlen5⟩ := len_cons hlen4
        obtain ⟨x6, vs6, rfl, hlen6⟩ := len_cons hlen5
        obtain ⟨x7, vs7, rfl, hlen7⟩ := len_cons hlen6
        obtain ⟨x8, vs8, rfl, hlen8⟩ := len_cons hlen7
        obtain ⟨x9, vs9, rfl, hlen9⟩ := len_cons hlen8
        obtain ⟨x10, vs10, rfl, hlen10⟩ := len_cons hlen9
        obtain ⟨x11, vs11, rfl, hlen11⟩ := len_cons hlen10
        obtain ⟨x12, vs12, rfl, hlen12⟩ := len_cons hlen11
        obtain rfl := len_nil hlen12
        clear hlen hlen0 hlen1 hlen2 hlen3 hlen4 hlen5 hlen6 hlen7 hlen8 hlen9 hlen10 hlen11 hlen12
        obtain ⟨hun, o, ho, hd⟩ := mem_ready.1 hi
        have hin : i < 13 := by have := (Array.getElem?_eq_some_iff.1 ho).1; simpa using this
        refine wpOp_free (B := fun a' W' => ∃ x0 x1 x2 x3 x4 x5 x6 x7 x8 x9 x10 x11 x12, a' = putAll _ [x0, x1, x2, x3, x4, x5, x6, x7, x8, x9, x10, x11, x12] _ ∧ InvM _ _ _ _ [x0, x1, x2, x3, x4, x5, x6, x7, x8, x9, x10, x11, x12] (L.setIfInBounds i true) W') (fun _ _ h => by obtain ⟨x0, x1, x2, x3, x4, x5, x6, x7, x8, x9, x10, x11, x12, h1, h2⟩ := h; exact ⟨[x0, x1, x2, x3, x4, x5, x6, x7, x8, x9, x10, x11, x12], rfl, h1, h2⟩) ?_
        intro K HK
        simp only [putAll_cons, putAll_nil, put_some, put_none, List.setIfInBounds_toArray, List.set_cons_succ, List.set_cons_zero] at HK ⊢
        have HOK := Lib.hid hok
        clear hok
        obtain ⟨z, ez⟩ := ext_of hJ.below
        have hm := HM2.out.ext z
        rw [← ez] at hm
        obtain ⟨m0, m1, m2, m3, m4, m5⟩ := hm
        have HBJ := Lib.hid (HB2.out.trans (hJ.below.mono HB2.out.size))
        clear ez
        rcases (show i = 0 ∨ i = 1 ∨ i = 2 ∨ i = 3 ∨ i = 4 ∨ i = 5 ∨ i = 6 ∨ i = 7 ∨ i = 8 ∨ i = 9 ∨ i = 10 ∨ i = 11 ∨ i = 12 by omega) with rfl | rfl | rfl | rfl | rfl | rfl | rfl | rfl | rfl | rfl | rfl | rfl | rfl
        · obtain rfl := Option.some.inj ho
          refine wpOp_of_list (by rfl) ?_
          go_wp2
          exact HK.out _ _ ⟨_, _, _, _, _, _, _, _, _, _, _, _, _, rfl, hJ.up HOK.out 0 (by decide) (show 0 < 13 by decide) rfl⟩
        · obtain rfl := Option.some.inj ho
          refine wpOp_of_list (by rfl) ?_
          go_wp2
          exact HK.out _ _ ⟨_, _, _, _, _, _, _, _, _, _, _, _, _, rfl, hJ.up HOK.out 1 (by decide) (show 1 < 13 by decide) rfl⟩
        · obtain rfl := Option.some.inj ho
          refine wpOp_of_list (by rfl) ?_
          go_wp2
          exact HK.out _ _ ⟨_, _, _, _, _, _, _, _, _, _, _, _, _, rfl, hJ.up HOK.out 2 (by decide) (show 2 < 13 by decide) rfl⟩
        · obtain rfl := Option.some.inj ho
          refine wpOp_of_list (by rfl) ?_
          go_wp2
          exact HK.out _ _ ⟨_, _, _, _, _, _, _, _, _, _, _, _, _, rfl, hJ.up HOK.out 3 (by decide) (show 3 < 13 by decide) rfl⟩
        · obtain rfl := Option.some.inj ho
          have d2 : x2 = .slice (some ⟨rb, ro, none⟩) rs.length rc := hJ.val 2 (show 2 < 13 by decide) (by decide) (getD_upJ (hd ⟨2, .data⟩ (by simp) (by rfl)))
          have d3 : x3 = .int .i64 (kk : Int) := hJ.val 3 (show 3 < 13 by decide) (by decide) (getD_upJ (hd ⟨3, .data⟩ (by simp) (by rfl)))
          subst d2 d3
          refine wpOp_of_list (by rfl) ?_
          by_cases hrk : rc = kk
          · have e2 : o2 = ro := by rw [HO2.out, if_pos hrk]
            subst hrk
            go_wp2
            exact HK.out _ _ ⟨_, _, _, _, _, _, _, _, _, _, _, _, _, rfl, hJ.up HOK.out 4 (by decide) (show 4 < 13 by decide) (by simp [e2] <;> omega)⟩
          · have e2 : o2 = ro + kk * 10 := by rw [HO2.out, if_neg hrk]
            go_wp2
            exact HK.out _ _ ⟨_, _, _, _, _, _, _, _, _, _, _, _, _, rfl, hJ.up HOK.out 4 (by decide) (show 4 < 13 by decide) (by simp [e2] <;> omega)⟩
        · obtain rfl := Option.some.inj ho
          refine wpOp_of_list (by rfl) ?_
          go_wp2
          exact HK.out _ _ ⟨_, _, _, _, _, _, _, _, _, _, _, _, _, rfl, hJ.up HOK.out 5 (by decide) (show 5 < 13 by decide) rfl⟩
        · obtain rfl := Option.some.inj ho
          have d0 : x0 = .agg #[.string name, .slice ua bl.length uc, .slice ta ml.length tc, .int .i64 cover, .int .i64 agg, .int .i64 poker] := hJ.val 0 (show 0 < 13 by decide) (by decide) (getD_upJ (hd ⟨0, .data⟩ (by simp) (by rfl)))
          have d1 : x1 = .slice (some ⟨b9, off9, none⟩) [b].length vc := hJ.val 1 (show 1 < 13 by decide) (by decide) (getD_upJ (hd ⟨1, .data⟩ (by simp) (by rfl)))
          have d4 : x4 = .slice (some ⟨rb, o2, none⟩) (rs.length - kk) (rc - kk) := hJ.val 4 (show 4 < 13 by decide) (by decide) (getD_upJ (hd ⟨4, .data⟩ (by simp) (by rfl)))
          have d5 : x5 = .int .i64 x := hJ.val 5 (show 5 < 13 by decide) (by decide) (getD_upJ (hd ⟨5, .data⟩ (by simp) (by rfl)))
          subst d0 d1 d4 d5
          refine wpOp_of_list (by rfl) ?_
          go_wp2_with fail
          go_at_call 16; refine (HSH2.out _ _ (HQ.out.below HBJ.out) (HL.out.below HBJ.out) (HR2.out.below HBJ.out)).mono ?_; rintro e w' ⟨rfl, xq, rfl⟩
          go_wp2
          exact HK.out _ _ ⟨_, _, _, _, _, _, _, _, _, _, _, _, _, rfl, (hJ.grow _).up HOK.out 6 (by decide) (show 6 < 13 by decide) rfl⟩
        · obtain rfl := Option.some.inj ho
          have d6 : x6 = .tuple #[.agg #[.int .i64 (k1 : Int), .int .i64 (k2 : Int)], .int .i64 0] := hJ.val 6 (show 6 < 13 by decide) (by decide) (getD_upJ (hd ⟨6, .data⟩ (by simp) (by rfl)))
          subst d6
          refine wpOp_of_list (by rfl) ?_
          go_wp2
          exact HK.out _ _ ⟨_, _, _, _, _, _, _, _, _, _, _, _, _, rfl, hJ.up HOK.out 7 (by decide) (show 7 < 13 by decide) rfl⟩
        · obtain rfl := Option.some.inj ho
          have d7 : x7 = .tuple #[.agg #[.int .i64 (k1 : Int), .int .i64 (k2 : Int)], .int .i64 0] := hJ.val 7 (show 7 < 13 by decide) (by decide) (getD_upJ (hd ⟨7, .data⟩ (by simp) (by rfl)))
          subst d7
          refine wpOp_of_list (by rfl) ?_
          go_wp2
          exact HK.out _ _ ⟨_, _, _, _, _, _, _, _, _, _, _, _, _, rfl, hJ.up HOK.out 8 (by decide) (show 8 < 13 by decide) rfl⟩
        · obtain rfl := Option.some.inj ho
          have d7 : x7 = .tuple #[.agg #[.int .i64 (k1 : Int), .int .i64 (k2 : Int)], .int .i64 0] := hJ.val 7 (show 7 < 13 by decide) (by decide) (getD_upJ (hd ⟨7, .data⟩ (by simp) (by rfl)))
          subst d7
          refine wpOp_of_list (by rfl) ?_
          go_wp2
          exact HK.out _ _ ⟨_, _, _, _, _, _, _, _, _, _, _, _, _, rfl, hJ.up HOK.out 9 (by decide) (show 9 < 13 by decide) rfl⟩
        · obtain rfl := Option.some.inj ho
          refine wpOp_of_list (by rfl) ?_
          go_wp2
          exact HK.out _ _ ⟨_, _, _, _, _, _, _, _, _, _, _, _, _, rfl, hJ.make HOK.out ⟨10, 11, 52, #[.int .i64 (k1 : Int), .int .i64 (k2 : Int)]⟩ (by simp) (show 10 < 13 by decide) hun #[.int .i64 0, .int .i64 0] rfl rfl⟩
        · obtain rfl := Option.some.inj ho
          have d8 : x8 = .agg #[.int .i64 (k1 : Int), .int .i64 (k2 : Int)] := hJ.val 8 (show 8 < 13 by decide) (by decide) (getD_upJ (hd ⟨8, .data⟩ (by simp) (by rfl)))
          have hka := getD_upJ (hd ⟨10, .data⟩ (by simp) (by rfl))
          obtain ⟨gq, hs, hg, cs, hcs, hb, -⟩ := hJ.made ⟨10, 11, 52, #[.int .i64 (k1 : Int), .int .i64 (k2 : Int)]⟩ (by simp) hka
          have hs2 : x10 = .pointer (some ⟨gq, 0, none⟩) := hs
          obtain ⟨qa0, qh0⟩ : ∃ a, cs[0]? = some a := ⟨_, Array.getElem?_eq_getElem (by rw [hcs]; exact (show 0 < 2 by decide))⟩
          obtain ⟨qa1, qh1⟩ : ∃ a, cs[1]? = some a := ⟨_, Array.getElem?_eq_getElem (by rw [hcs]; exact (show 1 < 2 by decide))⟩
          have qf0 : W.frozen? ⟨gq, 0, none⟩ = false := hb.frozen 0
          have qg0 : W.cell? ⟨gq, 0, none⟩ = some qa0 := (hb.cell 0).trans qh0
          have qf1 : W.frozen? ⟨gq, 1, none⟩ = false := hb.frozen 1
          have qg1 : W.cell? ⟨gq, 1, none⟩ = some qa1 := (hb.cell 1).trans qh1
          subst d8
          subst hs2
          refine wpOp_of_list (by rfl) ?_
          go_wp2
          refine HK.out _ _ ⟨_, _, _, _, _, _, _, _, _, _, _, _, _, rfl, hJ.fill HOK.out ⟨10, 11, 52, #[.int .i64 (k1 : Int), .int .i64 (k2 : Int)]⟩ (by simp) hka hs hg ((hJ.below.setCell hg _).setCell hg _) (fun k hk => by rw [Below.heap_setCell _ _ _ _ hk, Below.heap_setCell _ _ _ _ hk]) ?_⟩
          show Blk _ gq #[.int .i64 (k1 : Int), .int .i64 (k2 : Int)] _
          rw [← fill2 (a := .int .i64 (k1 : Int)) (b := .int .i64 (k2 : Int)) hcs]
          exact ((hb.set 0 _).set 1 _)
        · obtain rfl := Option.some.inj ho
          have d9 : x9 = .int .i64 0 := hJ.val 9 (show 9 < 13 by decide) (by decide) (getD_upJ (hd ⟨9, .data⟩ (by simp) (by rfl)))
          subst d9
          refine wpOp_of_list (by rfl) ?_
          go_wp2
          exact HK.out _ _ ⟨_, _, _, _, _, _, _, _, _, _, _, _, _, rfl, hJ.up HOK.out 12 (by decide) (show 12 < 13 by decide) rfl⟩
      · intro vs L W hlen hJ hall
        clear hok
        obtain ⟨x0, vs0, rfl, hlen0⟩ := len_cons hlen
        obtain ⟨x1, vs1, rfl, hlen1⟩ := len_cons hlen0
        obtain ⟨x2, vs2, rfl, hlen2⟩ := len_cons hlen1
        obtain ⟨x3, vs3, rfl, hlen3⟩ := len_cons hlen2
        obtain ⟨x4, vs4, rfl, hlen4⟩ := len_cons hlen3
        obtain ⟨x5, vs5, rfl, hlen5⟩ := len_cons hlen4
        obtain ⟨x6, vs6, rfl, hlen6⟩ := len_cons hlen5
        obtain ⟨x7, vs7, rfl, hlen7⟩ := len_cons hlen6
        obtain ⟨x8, vs8, rfl, hlen8⟩ := len_cons hlen7
        obtain ⟨x9, vs9, rfl, hlen9⟩ := len_cons hlen8
        obtain ⟨x10, vs10, rfl, hlen10⟩ := len_cons hlen9
        obtain ⟨x11, vs11, rfl, hlen11⟩ := len_cons hlen10
        obtain ⟨x12, vs12, rfl, hlen12⟩ := len_cons hlen11
        obtain rfl := len_nil hlen12
        clear hlen hlen0 hlen1 hlen2 hlen3 hlen4 hlen5 hlen6 hlen7 hlen8 hlen9 hlen10 hlen11 hlen12
        obtain ⟨g0, hs0, hg0, cs0, -, hk0, hc0⟩ := hJ.made ⟨10, 11, 52, #[.int .i64 (k1 : Int), .int .i64 (k2 : Int)]⟩ (by simp) (hall 10 (of_decide_eq_true (by kernel_rfl)))
        obtain rfl : cs0 = #[.int .i64 (k1 : Int), .int .i64 (k2 : Int)] := hc0 (hall 11 (of_decide_eq_true (by kernel_rfl)))
        have d0 : x0 = .agg #[.string name, .slice ua bl.length uc, .slice ta ml.length tc, .int .i64 cover, .int .i64 agg, .int .i64 poker] := hJ.val 0 (show 0 < 13 by decide) (by decide) (hall 0 (of_decide_eq_true (by kernel_rfl)))
        have d1 : x1 = .slice (some ⟨b9, off9, none⟩) [b].length vc := hJ.val 1 (show 1 < 13 by decide) (by decide) (hall 1 (of_decide_eq_true (by kernel_rfl)))
        have d2 : x2 = .slice (some ⟨rb, ro, none⟩) rs.length rc := hJ.val 2 (show 2 < 13 by decide) (by decide) (hall 2 (of_decide_eq_true (by kernel_rfl)))
        have d3 : x3 = .int .i64 (kk : Int) := hJ.val 3 (show 3 < 13 by decide) (by decide) (hall 3 (of_decide_eq_true (by kernel_rfl)))
        have d4 : x4 = .slice (some ⟨rb, o2, none⟩) (rs.length - kk) (rc - kk) := hJ.val 4 (show 4 < 13 by decide) (by decide) (hall 4 (of_decide_eq_true (by kernel_rfl)))
        have d5 : x5 = .int .i64 x := hJ.val 5 (show 5 < 13 by decide) (by decide) (hall 5 (of_decide_eq_true (by kernel_rfl)))
        have d6 : x6 = .tuple #[.agg #[.int .i64 (k1 : Int), .int .i64 (k2 : Int)], .int .i64 0] := hJ.val 6 (show 6 < 13 by decide) (by decide) (hall 6 (of_decide_eq_true (by kernel_rfl)))
        have d7 : x7 = .tuple #[.agg #[.int .i64 (k1 : Int), .int .i64 (k2 : Int)], .int .i64 0] := hJ.val 7 (show 7 < 13 by decide) (by decide) (hall 7 (of_decide_eq_true (by kernel_rfl)))
        have d8 : x8 = .agg #[.int .i64 (k1 : Int), .int .i64 (k2 : Int)] := hJ.val 8 (show 8 < 13 by decide) (by decide) (hall 8 (of_decide_eq_true (by kernel_rfl)))
        have d9 : x9 = .int .i64 0 := hJ.val 9 (show 9 < 13 by decide) (by decide) (hall 9 (of_decide_eq_true (by kernel_rfl)))
        have d12 : x12 = .int .i64 0 := hJ.val 12 (show 12 < 13 by decide) (by decide) (hall 12 (of_decide_eq_true (by kernel_rfl)))
        have e0 : x10 = .pointer (some ⟨g0, 0, none⟩) := hs0
        have hbel := hJ.below
        clear hJ hall hs0 hc0
        subst d0 d1 d2 d3 d4 d5 d6 d7 d8 d9 d12 e0
        simp only [putAll_cons, putAll_nil, put_some, put_none, List.setIfInBounds_toArray, List.set_cons_succ, List.set_cons_zero]
        have HBW := Lib.hid hbel
        have HK0 := Lib.hid hk0
        clear hbel hk0 hg0
        go_wp2_with fail
        go_meet
        exact ⟨g0, rfl, rfl, ⟨(HK0.out.cell 0).trans rfl, (HK0.out.cell 1).trans rfl⟩, HBW.out⟩
    case rest =>
      obtain ⟨gb, rfl, rfl, hfb, hbl⟩ := hcut
      obtain ⟨W3, rfl⟩ : ∃ W : World, W = wc := ⟨_, rfl⟩
      obtain ⟨z, ez⟩ := ext_of hbl
      have HB3 := Lib.hid (HB2.out.trans (hbl.mono HB2.out.size))
      obtain ⟨m0, m1, m2, m3, m4, m5⟩ := (show MAt21 W3 w.heap.size name (.slice ua bl.length uc) (.slice ta ml.length tc) cover agg poker by rw [ez]; exact HM2.out.ext z)
      obtain ⟨ks0, ks1⟩ := (show FqAt W3 gs (f1 : Int) (f2 : Int) by rw [ez]; exact HS2.out.ext z)
      obtain ⟨ka0, ka1⟩ := (show FqAt W3 ga (g1 : Int) (g2 : Int) by rw [ez]; exact HA2.out.ext z)
      obtain ⟨kb0, kb1⟩ := hfb
      clear hbl ez HB2 HM2 HS2 HA2
      obtain ⟨z0, ez0⟩ := ext_of HB3.out
      have kb3 := cell_ext_some kb z0
      rw [← ez0] at kb3
      clear ez0 kb
      go_wp2_with fail
      go_at_call 25; refine (HSE.out _ ((HQ.out.below HB3.out).boxes.below (by (repeat (first | exact grow_refl _ | refine grow_ext _ ?_ | refine grow_alloc _ ?_ | refine grow_drew ?_)))) ((HQ.out.below HB3.out).holes.below (by (repeat (first | exact grow_refl _ | refine grow_ext _ ?_ | refine grow_alloc _ ?_ | refine grow_drew ?_))))).mono ?_; rintro e w' ⟨rfl, x5, rfl⟩
      go_wp2_with fail
      go_at_call 26; refine (HAD.out _).mono ?_; rintro e w' ⟨rfl, x6, rfl⟩
      go_wp2_with fail
      go_at_call 8; refine (HRW.out _ ((HL.out.below HB3.out).below (by (repeat (first | exact grow_refl _ | refine grow_ext _ ?_ | refine grow_alloc _ ?_ | refine grow_drew ?_)))) ((HR.out.below HB3.out).below (by (repeat (first | exact grow_refl _ | refine grow_ext _ ?_ | refine grow_alloc _ ?_ | refine grow_drew ?_))))).mono ?_; rintro e w' ⟨a7, c7, rfl, j1, j2, x7, rfl⟩
      go_wp2_with fail
      go_at_call 27; refine (HAE.out _).mono ?_; rintro e w' ⟨rfl, x8, rfl⟩
      go_wp2_with fail
      go_at_call 28; refine (HMK.out _).mono ?_; rintro e w' ⟨rfl, x9, rfl⟩
      go_wp2
      go_ret
      exact Ret.of (HB3.out.trans (Below.mono (by (repeat (first | exact grow_refl _ | refine grow_ext _ ?_ | refine grow_alloc _ ?_ | refine grow_drew ?_))) HB3.out.size))


set_option maxRecDepth 100000 in
set_option maxHeartbeats 8000000 in
theorem lawShr_4 (q : Mb) (l : List Br) (rs : List Rn) (v u : Value) (x qc : Int) (hc : 0 ≤ qc ∧ qc ≤ 255) (h4 : smallB q.l.length q.m.length 4 = true) (hn : q.name.size ≤ 60) (hb : memB q = true) (hv : laidB l rs = true) (hx : inI x (-1048576) 1048576 = true) (he : rs = []) (h0 : sectI q.l q.m x = 0) (w : World) (hq : MbAt w q) (hl : Bars w v l) (hr : Runs w u rs) :
    Calls Tryz.prog 5 #[(.agg #[.string q.name, q.u, q.t, .int .i64 q.cover, .int .i64 q.agg, .int .i64 q.poker]), v, u, .int .i64 x, .int .u8 qc] w (Ret w (.bool true)) := by
  have HL := Lib.hid hl
  have HR := Lib.hid hr
  have HQ := Lib.hid hq
  obtain ⟨ua, uc, eu, -, -, -⟩ := hq.boxes.shape
  obtain ⟨ta, tc, et, -, -, -⟩ := hq.holes.shape
  have HS4 := Lib.hid (fun w hl hm => refSmall_v q.l q.m q.u q.t 4 true h4 w hl hm)
  have dn : decide ((60 : Int) < (q.name.size : Int)) = false := by simp; omega
  have HM := Lib.hid (fun w hl hm => refMember_v q.name q.l q.m q.u q.t q.cover q.agg q.poker true hb hq.name w hl hm)
  have hxr : -1048576 ≤ x ∧ x ≤ 1048576 := by unfold inI at hx; simpa using hx
  have hlen := (laidB_iff.1 hv).2.1
  obtain ⟨kk, hkk⟩ : ∃ kk : Nat, qc % ((rs.length : Int) + 1) = (kk : Int) := ⟨(qc % ((rs.length : Int) + 1)).toNat, by have := Int.emod_nonneg qc (show (rs.length : Int) + 1 ≠ 0 by omega); omega⟩
  have hkl : kk ≤ rs.length := by have := Int.emod_lt_of_pos qc (show 0 < (rs.length : Int) + 1 by omega); omega
  have ht : qc.tmod ((rs.length : Int) + 1) = (kk : Int) := by rw [Int.tmod_eq_emod_of_nonneg hc.1]; exact hkk
  have hwq : IntKind.i64.wrap qc = qc := IntWalk.i64_in _ (by omega)
  obtain ⟨hv1, hv2⟩ := laid_take kk hv
  have hce := ce_ok hv hx
  have hce1 := ce_ok hv1 hx
  have hce2 := ce_ok hv2 hx
  have hsol := (member_iff.1 hb).2.1
  have HSE := Lib.hid (fun w hl hm => section_c q.l q.m q.u q.t x w hl hm)
  rw [show sectR q.l q.m x = (sectI q.l q.m x, 0) by unfold sectR; rw [if_pos hsol, if_pos hxr]] at HSE
  have HSH0 := Lib.hid (fun u w hq hl hr => share_v q l rs v u x (.agg #[.int .i64 0, .int .i64 0]) 16 (by unfold shareE; rw [hb, if_pos rfl, hce, if_pos rfl, if_pos h0]; rfl) w hq hl hr)
  have HSH1 := Lib.hid (fun u w hq hl hr => share_v q l (rs.take kk) v u x (.agg #[.int .i64 0, .int .i64 0]) 16 (by unfold shareE; rw [hb, if_pos rfl, hce1, if_pos rfl, if_pos h0]; rfl) w hq hl hr)
  have HSH2 := Lib.hid (fun u w hq hl hr => share_v q l (rs.drop kk) v u x (.agg #[.int .i64 0, .int .i64 0]) 16 (by unfold shareE; rw [hb, if_pos rfl, hce2, if_pos rfl, if_pos h0]; rfl) w hq hl hr)
  rw [h0] at HSE
  subst he
  obtain ⟨ra, rc, rfl, -, hrc, -⟩ := hr.shape
  obtain rfl : kk = 0 := by simpa using hkl
  obtain ⟨name, bl, ml, bu, bt, cover, agg, poker⟩ := q
  simp only at eu et HS4 dn HM HSE HSH0 HSH1 HSH2
  subst eu et
  clear hq hl hr h4 hn hb hv hx h0 hxr hkk hv1 hv2 hce hce1 hce2 hsol
  go_enter Tryz.func5, Tryz.ntmps5
  go_wp2_with fail
  go_at_call 6; refine (awake21_c _).mono ?_; rintro e w' ⟨rfl, x0, rfl⟩
  go_wp2_with fail
  go_at_call 24; refine (right21_c _ _ _ _ x _ (HL.out.below (by (repeat (first | exact grow_refl _ | refine grow_ext _ ?_ | refine grow_alloc _ ?_ | refine grow_drew ?_)))) (HR.out.below (by (repeat (first | exact grow_refl _ | refine grow_ext _ ?_ | refine grow_alloc _ ?_ | refine grow_drew ?_))))).mono ?_; rintro e w' ⟨q0, rfl, hq0, x1, rfl⟩
  cases q0
  · clear hq0
    go_wp2
    go_ret
    exact Ret.of (by (repeat (first | exact grow_refl _ | refine grow_ext _ ?_ | refine grow_alloc _ ?_ | refine grow_drew ?_)))
  clear hq0
  go_wp2_with fail
  go_at_call 14; refine (HS4.out _ (HQ.out.boxes.below (by (repeat (first | exact grow_refl _ | refine grow_ext _ ?_ | refine grow_alloc _ ?_ | refine grow_drew ?_)))) (HQ.out.holes.below (by (repeat (first | exact grow_refl _ | refine grow_ext _ ?_ | refine grow_alloc _ ?_ | refine grow_drew ?_))))).mono ?_; rintro e w' ⟨rfl, x2, rfl⟩
  go_wp2_with fail
  go_at_call 20; refine (HM.out _ (HQ.out.boxes.below (by (repeat (first | exact grow_refl _ | refine grow_ext _ ?_ | refine grow_alloc _ ?_ | refine grow_drew ?_)))) (HQ.out.holes.below (by (repeat (first | exact grow_refl _ | refine grow_ext _ ?_ | refine grow_alloc _ ?_ | refine grow_drew ?_))))).mono ?_; rintro e w' ⟨rfl, x3, rfl⟩
  go_wp2_with fail
  go_at_call 16; refine (HSH0.out _ _ (HQ.out.below (by (repeat (first | exact grow_refl _ | refine grow_ext _ ?_ | refine grow_alloc _ ?_ | refine grow_drew ?_)))) (HL.out.below (by (repeat (first | exact grow_refl _ | refine grow_ext _ ?_ | refine grow_alloc _ ?_ | refine grow_drew ?_)))) (HR.out.below (by (repeat (first | exact grow_refl _ | refine grow_ext _ ?_ | refine grow_alloc _ ?_ | refine grow_drew ?_))))).mono ?_; rintro e w' ⟨rfl, x4, rfl⟩
  go_wp2_with fail
  refine world_mask (fun W => Below w.heap.size w W ∧ MAt21 W w.heap.size name (.slice ua bl.length uc) (.slice ta ml.length tc) cover agg poker ∧ FqAt W (w.heap.size + 1 + x0.heap.size + x1.heap.size + x2.heap.size + x3.heap.size + x4.heap.size) 0 0) _ ⟨by (repeat (first | exact grow_refl _ | refine grow_ext _ ?_ | refine grow_alloc _ ?_ | refine grow_drew ?_)), by simp [MAt21, go_sem], by simp [FqAt, go_sem, Nat.add_assoc]⟩ ?_
  rintro W1 ⟨hb, hm, hs⟩
  generalize w.heap.size + 1 + x0.heap.size + x1.heap.size + x2.heap.size + x3.heap.size + x4.heap.size = gs at *
  have HB1 := Lib.hid hb
  have HM1 := Lib.hid hm
  have HS1 := Lib.hid hs
  clear hb hm hs
  go_cut [14, 15] (fun s14 s15 wx => ∃ g, s14 = .pointer (some ⟨g, 0, none⟩) ∧ s15 = .int .i64 16 ∧ FqAt wx g 0 0 ∧ Below W1.heap.size W1 wx)
  case first =>
    have hok : mkOk [10, 11] [⟨10, 11, 52, #[.int .i64 0, .int .i64 0]⟩] := mkOk_one (by decide)
    refine wp_region_M [.agg #[.string name, .slice ua bl.length uc, .slice ta ml.length tc, .int .i64 cover, .int .i64 agg, .int .i64 poker], v, .slice ra ([] : List Rn).length rc, .int .i64 0, .slice ra 0 rc, .int .i64 x, .tuple #[.agg #[.int .i64 0, .int .i64 0], .int .i64 16], .tuple #[.agg #[.int .i64 0, .int .i64 0], .int .i64 16], .agg #[.int .i64 0, .int .i64 0], .int .i64 16, undef, undef, .int .i64 16] [10, 11] [⟨10, 11, 52, #[.int .i64 0, .int .i64 0]⟩] (by kernel_rfl) (by kernel_rfl) ?_ ?_ ?_
    · intro b hb
      simp only [List.mem_cons, List.not_mem_nil, or_false] at hb
      rcases hb with rfl
      all_goals exact ⟨of_decide_eq_true (by kernel_rfl), of_decide_eq_true (by kernel_rfl)⟩
    · intro L vs W i hlen hJ hi
      obtain ⟨x0, vs0, rfl, hlen0⟩ := len_cons hlen
      obtain ⟨x1, vs1, rfl, hlen1⟩ := len_cons hlen0
      obtain ⟨x2, vs2, rfl, hlen2⟩ := len_cons hlen1
      obtain ⟨x3, vs3, rfl, hlen3⟩ := len_cons hlen2
      obtain ⟨x4, vs4, rfl, hlen4⟩ := len_cons hlen3
      obtain ⟨x5, vs5, rfl, hlen5⟩ := len_cons hlen4
      obtain ⟨x6, vs6, rfl, hlen6⟩ := len_cons hlen5
      obtain ⟨x7, vs7, rfl, hlen7⟩ := len_cons hlen6
      obtain ⟨x8, vs8, rfl, hlen8⟩ := len_cons hlen7
      obtain ⟨x9, vs9, rfl, hlen9⟩ := len_cons hlen8
      obtain ⟨x10, vs10, rfl, hlen10⟩ := len_cons hlen9
      obtain ⟨x11, vs11, rfl, hlen11⟩ := len_cons hlen10
      obtain ⟨x12, vs12, rfl, hlen12⟩ := len_cons hlen11
      obtain rfl := len_nil hlen12
      clear hlen hlen0 hlen1 hlen2 hlen3 hlen4 hlen5 hlen6 hlen7 hlen8 hlen9 hlen10 hlen11 hlen12
      obtain ⟨hun, o, ho, hd⟩ := mem_ready.1 hi
      have hin : i < 13 := by have := (Array.getElem?_eq_some_iff.1 ho).1; simpa using this
      refine wpOp_free (B := fun a' W' => ∃ x0 x1 x2 x3 x4 x5 x6 x7 x8 x9 x10 x11 x12, a' = putAll _ [x0, x1, x2, x3, x4, x5, x6, x7, x8, x9, x10, x11, x12] _ ∧ InvM _ _ _ _ [x0, x1, x2, x3, x4, x5, x6, x7, x8, x9, x10, x11, x12] (L.setIfInBounds i true) W') (fun _ _ h => by obtain ⟨x0, x1, x2, x3, x4, x5, x6, x7, x8, x9, x10, x11, x12, h1, h2⟩ := h; exact ⟨[x0, x1, x2, x3, x4, x5, x6, x7, x8, x9, x10, x11, x12], rfl, h1, h2⟩) ?_
      intro K HK
      simp only [putAll_cons, putAll_nil, put_some, put_none, List.setIfInBounds_toArray, List.set_cons_succ, List.set_cons_zero] at HK ⊢
      have HOK := Lib.hid hok
      clear hok
      obtain ⟨z, ez⟩ := ext_of hJ.below
      have hm := HM1.out.ext z
      rw [← ez] at hm
      obtain ⟨m0, m1, m2, m3, m4, m5⟩ := hm
      have HBJ := Lib.hid (HB1.out.trans (hJ.below.mono HB1.out.size))
      clear ez
      rcases (show i = 0 ∨ i = 1 ∨ i = 2 ∨ i = 3 ∨ i = 4 ∨ i = 5 ∨ i = 6 ∨ i = 7 ∨ i = 8 ∨ i = 9 ∨ i = 10 ∨ i = 11 ∨ i = 12 by omega) with rfl | rfl | rfl | rfl | rfl | rfl | rfl | rfl | rfl | rfl | rfl | rfl | rfl
      · obtain rfl := Option.some.inj ho
        refine wpOp_of_list (by rfl) ?_
        go_wp2
        exact HK.out _ _ ⟨_, _, _, _, _, _, _, _, _, _, _, _, _, rfl, hJ.up HOK.out 0 (by decide) (show 0 < 13 by decide) rfl⟩
      · obtain rfl := Option.some.inj ho
        refine wpOp_of_list (by rfl) ?_
        go_wp2
        exact HK.out _ _ ⟨_, _, _, _, _, _, _, _, _, _, _, _, _, rfl, hJ.up HOK.out 1 (by decide) (show 1 < 13 by decide) rfl⟩
      · obtain rfl := Option.some.inj ho
        refine wpOp_of_list (by rfl) ?_
        go_wp2
        exact HK.out _ _ ⟨_, _, _, _, _, _, _, _, _, _, _, _, _, rfl, hJ.up HOK.out 2 (by decide) (show 2 < 13 by decide) rfl⟩
      · obtain rfl := Option.some.inj ho
        refine wpOp_of_list (by rfl) ?_
        go_wp2
        exact HK.out _ _ ⟨_, _, _, _, _, _, _, _, _, _, _, _, _, rfl, hJ.up HOK.out 3 (by decide) (show 3 < 13 by decide) rfl⟩
      · obtain rfl := Option.some.inj ho
        have d2 : x2 = .slice ra ([] : List Rn).length rc := hJ.val 2 (show 2 < 13 by decide) (by decide) (getD_upJ (hd ⟨2, .data⟩ (by simp) (by rfl)))
        have d3 : x3 = .int .i64 0 := hJ.val 3 (show 3 < 13 by decide) (by decide) (getD_upJ (hd ⟨3, .data⟩ (by simp) (by rfl)))
        subst d2 d3
        refine wpOp_of_list (by rfl) ?_
        go_wp2
        exact HK.out _ _ ⟨_, _, _, _, _, _, _, _, _, _, _, _, _, rfl, hJ.up HOK.out 4 (by decide) (show 4 < 13 by decide) rfl⟩
      · obtain rfl := Option.some.inj ho
        refine wpOp_of_list (by rfl) ?_
        go_wp2
        exact HK.out _ _ ⟨_, _, _, _, _, _, _, _, _, _, _, _, _, rfl, hJ.up HOK.out 5 (by decide) (show 5 < 13 by decide) rfl⟩
      · obtain rfl := Option.some.inj ho
        have d0 : x0 = .agg #[.string name, .slice ua bl.length uc, .slice ta ml.length tc, .int .i64 cover, .int .i64 agg, .int .i64 poker] := hJ.val 0 (show 0 < 13 by decide) (by decide) (getD_upJ (hd ⟨0, .data⟩ (by simp) (by rfl)))
        have d1 : x1 = v := hJ.val 1 (show 1 < 13 by decide) (by decide) (getD_upJ (hd ⟨1, .data⟩ (by simp) (by rfl)))
        have d4 : x4 = .slice ra 0 rc := hJ.val 4 (show 4 < 13 by decide) (by decide) (getD_upJ (hd ⟨4, .data⟩ (by simp) (by rfl)))
        have d5 : x5 = .int .i64 x := hJ.val 5 (show 5 < 13 by decide) (by decide) (getD_upJ (hd ⟨5, .data⟩ (by simp) (by rfl)))
        subst d0 d1 d4 d5
        refine wpOp_of_list (by rfl) ?_
        go_wp2_with fail
        go_at_call 16; refine (HSH1.out _ _ (HQ.out.below HBJ.out) (HL.out.below HBJ.out) (HR.out.below HBJ.out)).mono ?_; rintro e w' ⟨rfl, xq, rfl⟩
        go_wp2
        exact HK.out _ _ ⟨_, _, _, _, _, _, _, _, _, _, _, _, _, rfl, (hJ.grow _).up HOK.out 6 (by decide) (show 6 < 13 by decide) rfl⟩
      · obtain rfl := Option.some.inj ho
        have d6 : x6 = .tuple #[.agg #[.int .i64 0, .int .i64 0], .int .i64 16] := hJ.val 6 (show 6 < 13 by decide) (by decide) (getD_upJ (hd ⟨6, .data⟩ (by simp) (by rfl)))
        subst d6
        refine wpOp_of_list (by rfl) ?_
        go_wp2
        exact HK.out _ _ ⟨_, _, _, _, _, _, _, _, _, _, _, _, _, rfl, hJ.up HOK.out 7 (by decide) (show 7 < 13 by decide) rfl⟩
      · obtain rfl := Option.some.inj ho
        have d7 : x7 = .tuple #[.agg #[.int .i64 0, .int .i64 0], .int .i64 16] := hJ.val 7 (show 7 < 13 by decide) (by decide) (getD_upJ (hd ⟨7, .data⟩ (by simp) (by rfl)))
        subst d7
        refine wpOp_of_list (by rfl) ?_
        go_wp2
        exact HK.out _ _ ⟨_, _, _, _, _, _, _, _, _, _, _, _, _, rfl, hJ.up HOK.out 8 (by decide) (show 8 < 13 by decide) rfl⟩
      · obtain rfl := Option.some.inj ho
        have d7 : x7 = .tuple #[.agg #[.int .i64 0, .int .i64 0], .int .i64 16] := hJ.val 7 (show 7 < 13 by decide) (by decide) (getD_upJ (hd ⟨7, .data⟩ (by simp) (by rfl)))
        subst d7
        refine wpOp_of_list (by rfl) ?_
        go_wp2
        exact HK.out _ _ ⟨_, _, _, _, _, _, _, _, _, _, _, _, _, rfl, hJ.up HOK.out 9 (by decide) (show 9 < 13 by decide) rfl⟩
      · obtain rfl := Option.some.inj ho
        refine wpOp_of_list (by rfl) ?_
        go_wp2
        exact HK.out _ _ ⟨_, _, _, _, _, _, _, _, _, _, _, _, _, rfl, hJ.make HOK.out ⟨10, 11, 52, #[.int .i64 0, .int .i64 0]⟩ (by simp) (show 10 < 13 by decide) hun #[.int .i64 0, .int .i64 0] rfl rfl⟩
      · obtain rfl := Option.some.inj ho
        have d8 : x8 = .agg #[.int .i64 0, .int .i64 0] := hJ.val 8 (show 8 < 13 by decide) (by decide) (getD_upJ (hd ⟨8, .data⟩ (by simp) (by rfl)))
        have hka := getD_upJ (hd ⟨10, .data⟩ (by simp) (by rfl))
        obtain ⟨gq, hs, hg, cs, hcs, hb, -⟩ := hJ.made ⟨10, 11, 52, #[.int .i64 0, .int .i64 0]⟩ (by simp) hka
        have hs2 : x10 = .pointer (some ⟨gq, 0, none⟩) := hs
        obtain ⟨qa0, qh0⟩ : ∃ a, cs[0]? = some a := ⟨_, Array.getElem?_eq_getElem (by rw [hcs]; exact (show 0 < 2 by decide))⟩
        obtain ⟨qa1, qh1⟩ : ∃ a, cs[1]? = some a := ⟨_, Array.getElem?_eq_getElem (by rw [hcs]; exact (show 1 < 2 by decide))⟩
        have qf0 : W.frozen? ⟨gq, 0, none⟩ = false := hb.frozen 0
        have qg0 : W.cell? ⟨gq, 0, none⟩ = some qa0 := (hb.cell 0).trans qh0
        have qf1 : W.frozen? ⟨gq, 1, none⟩ = false := hb.frozen 1
        have qg1 : W.cell? ⟨gq, 1, none⟩ = some qa1 := (hb.cell 1).trans qh1
        subst d8
        subst hs2
        refine wpOp_of_list (by rfl) ?_
        go_wp2
        refine HK.out _ _ ⟨_, _, _, _, _, _, _, _, _, _, _, _, _, rfl, hJ.fill HOK.out ⟨10, 11, 52, #[.int .i64 0, .int .i64 0]⟩ (by simp) hka hs hg ((hJ.below.setCell hg _).setCell hg _) (fun k hk => by rw [Below.heap_setCell _ _ _ _ hk, Below.heap_setCell _ _ _ _ hk]) ?_⟩
        show Blk _ gq #[.int .i64 0, .int .i64 0] _
        rw [← fill2 (a := .int .i64 0) (b := .int .i64 0) hcs]
        exact ((hb.set 0 _).set 1 _)
      · obtain rfl := Option.some.inj ho
        have d9 : x9 = .int .i64 16 := hJ.val 9 (show 9 < 13 by decide) (by decide) (getD_upJ (hd ⟨9, .data⟩ (by simp) (by rfl)))
        subst d9
        refine wpOp_of_list (by rfl) ?_
        go_wp2
        exact HK.out _ _ ⟨_, _, _, _, _, _, _, _, _, _, _, _, _, rfl, hJ.up HOK.out 12 (by decide) (show 12 < 13 by decide) rfl⟩
    · intro vs L W hlen hJ hall
      clear hok
      obtain ⟨x0, vs0, rfl, hlen0⟩ := len_cons hlen
      obtain ⟨x1, vs1, rfl, hlen1⟩ := len_cons hlen0
      obtain ⟨x2, vs2, rfl, hlen2⟩ := len_cons hlen1
      obtain ⟨x3, vs3, rfl, hlen3⟩ := len_cons hlen2
      obtain ⟨x4, vs4, rfl, hlen4⟩ := len_cons hlen3
      obtain ⟨x5, vs5, rfl, hlen5⟩ := len_cons hlen4
      obtain ⟨x6, vs6, rfl, hlen6⟩ := len_cons hlen5
      obtain ⟨x7, vs7, rfl, hlen7⟩ := len_cons hlen6
      obtain ⟨x8, vs8, rfl, hlen8⟩ := len_cons hlen7
      obtain ⟨x9, vs9, rfl, hlen9⟩ := len_cons hlen8
      obtain ⟨x10, vs10, rfl, hlen10⟩ := len_cons hlen9
      obtain ⟨x11, vs11, rfl, hlen11⟩ := len_cons hlen10
      obtain ⟨x12, vs12, rfl, hlen12⟩ := len_cons hlen11
      obtain rfl := len_nil hlen12
      clear hlen hlen0 hlen1 hlen2 hlen3 hlen4 hlen5 hlen6 hlen7 hlen8 hlen9 hlen10 hlen11 hlen12
      obtain ⟨g0, hs0, hg0, cs0, -, hk0, hc0⟩ := hJ.made ⟨10, 11, 52, #[.int .i64 0, .int .i64 0]⟩ (by simp) (hall 10 (of_decide_eq_true (by kernel_rfl)))
      obtain rfl : cs0 = #[.int .i64 0, .int .i64 0] := hc0 (hall 11 (of_decide_eq_true (by kernel_rfl)))
      have d0 : x0 = .agg #[.string name, .slice ua bl.length uc, .slice ta ml.length tc, .int .i64 cover, .int .i64 agg, .int .i64 poker] := hJ.val 0 (show 0 < 13 by decide) (by decide) (hall 0 (of_decide_eq_true (by kernel_rfl)))
      have d1 : x1 = v := hJ.val 1 (show 1 < 13 by decide) (by decide) (hall 1 (of_decide_eq_true (by kernel_rfl)))
      have d2 : x2 = .slice ra ([] : List Rn).length rc := hJ.val 2 (show 2 < 13 by decide) (by decide) (hall 2 (of_decide_eq_true (by kernel_rfl)))
      have d3 : x3 = .int .i64 0 := hJ.val 3 (show 3 < 13 by decide) (by decide) (hall 3 (of_decide_eq_true (by kernel_rfl)))
      have d4 : x4 = .slice ra 0 rc := hJ.val 4 (show 4 < 13 by decide) (by decide) (hall 4 (of_decide_eq_true (by kernel_rfl)))
      have d5 : x5 = .int .i64 x := hJ.val 5 (show 5 < 13 by decide) (by decide) (hall 5 (of_decide_eq_true (by kernel_rfl)))
      have d6 : x6 = .tuple #[.agg #[.int .i64 0, .int .i64 0], .int .i64 16] := hJ.val 6 (show 6 < 13 by decide) (by decide) (hall 6 (of_decide_eq_true (by kernel_rfl)))
      have d7 : x7 = .tuple #[.agg #[.int .i64 0, .int .i64 0], .int .i64 16] := hJ.val 7 (show 7 < 13 by decide) (by decide) (hall 7 (of_decide_eq_true (by kernel_rfl)))
      have d8 : x8 = .agg #[.int .i64 0, .int .i64 0] := hJ.val 8 (show 8 < 13 by decide) (by decide) (hall 8 (of_decide_eq_true (by kernel_rfl)))
      have d9 : x9 = .int .i64 16 := hJ.val 9 (show 9 < 13 by decide) (by decide) (hall 9 (of_decide_eq_true (by kernel_rfl)))
      have d12 : x12 = .int .i64 16 := hJ.val 12 (show 12 < 13 by decide) (by decide) (hall 12 (of_decide_eq_true (by kernel_rfl)))
      have e0 : x10 = .pointer (some ⟨g0, 0, none⟩) := hs0
      have hbel := hJ.below
      clear hJ hall hs0 hc0
      subst d0 d1 d2 d3 d4 d5 d6 d7 d8 d9 d12 e0
      simp only [putAll_cons, putAll_nil, put_some, put_none, List.setIfInBounds_toArray, List.set_cons_succ, List.set_cons_zero]
      have HBW := Lib.hid hbel
      have HK0 := Lib.hid hk0
      clear hbel hk0 hg0
      go_wp2_with fail
      go_meet
      exact ⟨g0, rfl, rfl, ⟨(HK0.out.cell 0).trans rfl, (HK0.out.cell 1).trans rfl⟩, HBW.out⟩
  case rest =>
    obtain ⟨ga, rfl, rfl, hfa, hbl⟩ := hcut
    obtain ⟨W2, rfl⟩ : ∃ W : World, W = wc := ⟨_, rfl⟩
    obtain ⟨z, ez⟩ := ext_of hbl
    have HB2 := Lib.hid (HB1.out.trans (hbl.mono HB1.out.size))
    have HM2 := Lib.hid (show MAt21 W2 w.heap.size name (.slice ua bl.length uc) (.slice ta ml.length tc) cover agg poker by rw [ez]; exact HM1.out.ext z)
    have HS2 := Lib.hid (show FqAt W2 gs 0 0 by rw [ez]; exact HS1.out.ext z)
    have HA2 := Lib.hid hfa
    clear hfa hbl ez HB1 HM1 HS1
    go_wp2_with fail
    go_cut [16, 17] (fun s16 s17 wx => ∃ g, s16 = .pointer (some ⟨g, 0, none⟩) ∧ s17 = .int .i64 16 ∧ FqAt wx g 0 0 ∧ Below W2.heap.size W2 wx)
    case first =>
      have hok : mkOk [10, 11] [⟨10, 11, 52, #[.int .i64 0, .int .i64 0]⟩] := mkOk_one (by decide)
      refine wp_region_M [.agg #[.string name, .slice ua bl.length uc, .slice ta ml.length tc, .int .i64 cover, .int .i64 agg, .int .i64 poker], v, .slice ra ([] : List Rn).length rc, .int .i64 0, .slice ra 0 rc, .int .i64 x, .tuple #[.agg #[.int .i64 0, .int .i64 0], .int .i64 16], .tuple #[.agg #[.int .i64 0, .int .i64 0], .int .i64 16], .agg #[.int .i64 0, .int .i64 0], .int .i64 16, undef, undef, .int .i64 16] [10, 11] [⟨10, 11, 52, #[.int .i64 0, .int .i64 0]⟩] (by kernel_rfl) (by kernel_rfl) ?_ ?_ ?_
      · intro b hb
        simp only [List.mem_cons, List.not_mem_nil, or_false] at hb
        rcases hb with rfl
        all_goals exact ⟨of_decide_eq_true (by kernel_rfl), of_decide_eq_true (by kernel_rfl)⟩
      · intro L vs W i hlen hJ hi
        obtain ⟨x0, vs0, rfl, hlen0⟩ := len_cons hlen
        obtain ⟨x1, vs1, rfl, hlen1⟩ := len_cons hlen0
        obtain ⟨x2, vs2, rfl, hlen2⟩ := len_cons hlen1
        obtain ⟨x3, vs3, rfl, hlen3⟩ := len_cons hlen2
        obtain ⟨x4, vs4, rfl, hlen4⟩ := len_cons hlen3
        obtain ⟨x5, vs5, rfl, hlen5⟩ := len_cons hlen4
        obtain ⟨x6, vs6, rfl, hlen6⟩ := len_cons hlen5
        obtain ⟨x7, vs7, rfl, hlen7⟩ := len_cons hlen6
        obtain ⟨x8, vs8, rfl, hlen8⟩ := len_cons hlen7
        obtain ⟨x9, vs9, rfl, hlen9⟩ := len_cons hlen8
        obtain ⟨x10, vs10, rfl, hlen10⟩ := len_cons hlen9
        obtain ⟨x11, vs11, rfl, hlen11⟩ := len_cons hlen10
        obtain ⟨x12, vs12, rfl, hlen12⟩ := len_cons hlen11
        obtain rfl := len_nil hlen12
        clear hlen hlen0 hlen1 hlen2 hlen3 hlen4 hlen5 hlen6 hlen7 hlen8 hlen9 hlen10 hlen11 hlen12
        obtain ⟨hun, o, ho, hd⟩ := mem_ready.1 hi
        have hin : i < 13 := by have := (Array.getElem?_eq_some_iff.1 ho).1; simpa using this
        refine wpOp_free (B := fun a' W' => ∃ x0 x1 x2 x3 x4 x5 x6 x7 x8 x9 x10 x11 x12, a' = putAll _ [x0, x1, x2, x3, x4, x5, x6, x7, x8, x9, x10, x11, x12] _ ∧ InvM _ _ _ _ [x0, x1, x2, x3, x4, x5, x6, x7, x8, x9, x10, x11, x12] (L.setIfInBounds i true) W') (fun _ _ h => by obtain ⟨x0, x1, x2, x3, x4, x5, x6, x7, x8, x9, x10, x11, x12, h1, h2⟩ := h; exact ⟨[x0, x1, x2, x3, x4, x5, x6, x7, x8, x9, x10, x11, x12], rfl, h1, h2⟩) ?_
        intro K HK
        simp only [putAll_cons, putAll_nil, put_some, put_none, List.setIfInBounds_toArray, List.set_cons_succ, List.set_cons_zero] at HK ⊢
        have HOK := Lib.hid hok
        clear hok
        obtain ⟨z, ez⟩ := ext_of hJ.below
        have hm := HM2.out.ext z
        rw [← ez] at hm
        obtain ⟨m0, m1, m2, m3, m4, m5⟩ := hm
        have HBJ := Lib.hid (HB2.out.trans (hJ.below.mono HB2.out.size))
        clear ez
        rcases (show i = 0 ∨ i = 1 ∨ i = 2 ∨ i = 3 ∨ i = 4 ∨ i = 5 ∨ i = 6 ∨ i = 7 ∨ i = 8 ∨ i = 9 ∨ i = 10 ∨ i = 11 ∨ i = 12 by omega) with rfl | rfl | rfl | rfl | rfl | rfl | rfl | rfl | rfl | rfl | rfl | rfl | rfl
        · obtain rfl := Option.some.inj ho
          refine wpOp_of_list (by rfl) ?_
          go_wp2
          exact HK.out _ _ ⟨_, _, _, _, _, _, _, _, _, _, _, _, _, rfl, hJ.up HOK.out 0 (by decide) (show 0 < 13 by decide) rfl⟩
        · obtain rfl := Option.some.inj ho
          refine wpOp_of_list (by rfl) ?_
          go_wp2
          exact HK.out _ _ ⟨_, _, _, _, _, _, _, _, _, _, _, _, _, rfl, hJ.up HOK.out 1 (by decide) (show 1 < 13 by decide) rfl⟩
        · obtain rfl := Option.some.inj ho
          refine wpOp_of_list (by rfl) ?_
          go_wp2
          exact HK.out _ _ ⟨_, _, _, _, _, _, _, _, _, _, _, _, _, rfl, hJ.up HOK.out 2 (by decide) (show 2 < 13 by decide) rfl⟩
        · obtain rfl := Option.some.inj ho
          refine wpOp_of_list (by rfl) ?_
          go_wp2
          exact HK.out _ _ ⟨_, _, _, _, _, _, _, _, _, _, _, _, _, rfl, hJ.up HOK.out 3 (by decide) (show 3 < 13 by decide) rfl⟩
        · obtain rfl := Option.some.inj ho
          have d2 : x2 = .slice ra ([] : List Rn).length rc := hJ.val 2 (show 2 < 13 by decide) (by decide) (getD_upJ (hd ⟨2, .data⟩ (by simp) (by rfl)))
          have d3 : x3 = .int .i64 0 := hJ.val 3 (show 3 < 13 by decide) (by decide) (getD_upJ (hd ⟨3, .data⟩ (by simp) (by rfl)))
          subst d2 d3
          refine wpOp_of_list (by rfl) ?_
          go_wp2
          exact HK.out _ _ ⟨_, _, _, _, _, _, _, _, _, _, _, _, _, rfl, hJ.up HOK.out 4 (by decide) (show 4 < 13 by decide) rfl⟩
        · obtain rfl := Option.some.inj ho
          refine wpOp_of_list (by rfl) ?_
          go_wp2
          exact HK.out _ _ ⟨_, _, _, _, _, _, _, _, _, _, _, _, _, rfl, hJ.up HOK.out 5 (by decide) (show 5 < 13 by decide) rfl⟩
        · obtain rfl := Option.some.inj ho
          have d0 : x0 = .agg #[.string name, .slice ua bl.length uc, .slice ta ml.length tc, .int .i64 cover, .int .i64 agg, .int .i64 poker] := hJ.val 0 (show 0 < 13 by decide) (by decide) (getD_upJ (hd ⟨0, .data⟩ (by simp) (by rfl)))
          have d1 : x1 = v := hJ.val 1 (show 1 < 13 by decide) (by decide) (getD_upJ (hd ⟨1, .data⟩ (by simp) (by rfl)))
          have d4 : x4 = .slice ra 0 rc := hJ.val 4 (show 4 < 13 by decide) (by decide) (getD_upJ (hd ⟨4, .data⟩ (by simp) (by rfl)))
          have d5 : x5 = .int .i64 x := hJ.val 5 (show 5 < 13 by decide) (by decide) (getD_upJ (hd ⟨5, .data⟩ (by simp) (by rfl)))
          subst d0 d1 d4 d5
          refine wpOp_of_list (by rfl) ?_
          go_wp2_with fail
          go_at_call 16; refine (HSH2.out _ _ (HQ.out.below HBJ.out) (HL.out.below HBJ.out) (HR.out.below HBJ.out)).mono ?_; rintro e w' ⟨rfl, xq, rfl⟩
          go_wp2
          exact HK.out _ _ ⟨_, _, _, _, _, _, _, _, _, _, _, _, _, rfl, (hJ.grow _).up HOK.out 6 (by decide) (show 6 < 13 by decide) rfl⟩
        · obtain rfl := Option.some.inj ho
          have d6 : x6 = .tuple #[.agg #[.int .i64 0, .int .i64 0], .int .i64 16] := hJ.val 6 (show 6 < 13 by decide) (by decide) (getD_upJ (hd ⟨6, .data⟩ (by simp) (by rfl)))
          subst d6
          refine wpOp_of_list (by rfl) ?_
          go_wp2
          exact HK.out _ _ ⟨_, _, _, _, _, _, _, _, _, _, _, _, _, rfl, hJ.up HOK.out 7 (by decide) (show 7 < 13 by decide) rfl⟩
        · obtain rfl := Option.some.inj ho
          have d7 : x7 = .tuple #[.agg #[.int .i64 0, .int .i64 0], .int .i64 16] := hJ.val 7 (show 7 < 13 by decide) (by decide) (getD_upJ (hd ⟨7, .data⟩ (by simp) (by rfl)))
          subst d7
          refine wpOp_of_list (by rfl) ?_
          go_wp2
          exact HK.out _ _ ⟨_, _, _, _, _, _, _, _, _, _, _, _, _, rfl, hJ.up HOK.out 8 (by decide) (show 8 < 13 by decide) rfl⟩
        · obtain rfl := Option.some.inj ho
          have d7 : x7 = .tuple #[.agg #[.int .i64 0, .int .i64 0], .int .i64 16] := hJ.val 7 (show 7 < 13 by decide) (by decide) (getD_upJ (hd ⟨7, .data⟩ (by simp) (by rfl)))
          subst d7
          refine wpOp_of_list (by rfl) ?_
          go_wp2
          exact HK.out _ _ ⟨_, _, _, _, _, _, _, _, _, _, _, _, _, rfl, hJ.up HOK.out 9 (by decide) (show 9 < 13 by decide) rfl⟩
        · obtain rfl := Option.some.inj ho
          refine wpOp_of_list (by rfl) ?_
          go_wp2
          exact HK.out _ _ ⟨_, _, _, _, _, _, _, _, _, _, _, _, _, rfl, hJ.make HOK.out ⟨10, 11, 52, #[.int .i64 0, .int .i64 0]⟩ (by simp) (show 10 < 13 by decide) hun #[.int .i64 0, .int .i64 0] rfl rfl⟩
        · obtain rfl := Option.some.inj ho
          have d8 : x8 = .agg #[.int .i64 0, .int .i64 0] := hJ.val 8 (show 8 < 13 by decide) (by decide) (getD_upJ (hd ⟨8, .data⟩ (by simp) (by rfl)))
          have hka := getD_upJ (hd ⟨10, .data⟩ (by simp) (by rfl))
          obtain ⟨gq, hs, hg, cs, hcs, hb, -⟩ := hJ.made ⟨10, 11, 52, #[.int .i64 0, .int .i64 0]⟩ (by simp) hka
          have hs2 : x10 = .pointer (some ⟨gq, 0, none⟩) := hs
          obtain ⟨qa0, qh0⟩ : ∃ a, cs[0]? = some a := ⟨_, Array.getElem?_eq_getElem (by rw [hcs]; exact (show 0 < 2 by decide))⟩
          obtain ⟨qa1, qh1⟩ : ∃ a, cs[1]? = some a := ⟨_, Array.getElem?_eq_getElem (by rw [hcs]; exact (show 1 < 2 by decide))⟩
          have qf0 : W.frozen? ⟨gq, 0, none⟩ = false := hb.frozen 0
          have qg0 : W.cell? ⟨gq, 0, none⟩ = some qa0 := (hb.cell 0).trans qh0
          have qf1 : W.frozen? ⟨gq, 1, none⟩ = false := hb.frozen 1
          have qg1 : W.cell? ⟨gq, 1, none⟩ = some qa1 := (hb.cell 1).trans qh1
          subst d8
          subst hs2
          refine wpOp_of_list (by rfl) ?_
          go_wp2
          refine HK.out _ _ ⟨_, _, _, _, _, _, _, _, _, _, _, _, _, rfl, hJ.fill HOK.out ⟨10, 11, 52, #[.int .i64 0, .int .i64 0]⟩ (by simp) hka hs hg ((hJ.below.setCell hg _).setCell hg _) (fun k hk => by rw [Below.heap_setCell _ _ _ _ hk, Below.heap_setCell _ _ _ _ hk]) ?_⟩
          show Blk _ gq #[.int .i64 0, .int .i64 0] _
          rw [← fill2 (a := .int .i64 0) (b := .int .i64 0) hcs]
          exact ((hb.set 0 _).set 1 _)
        · obtain rfl := Option.some.inj ho
          have d9 : x9 = .int .i64 16 := hJ.val 9 (show 9 < 13 by decide) (by decide) (getD_upJ (hd ⟨9, .data⟩ (by simp) (by rfl)))
          subst d9
          refine wpOp_of_list (by rfl) ?_
          go_wp2
          exact HK.out _ _ ⟨_, _, _, _, _, _, _, _, _, _, _, _, _, rfl, hJ.up HOK.out 12 (by decide) (show 12 < 13 by decide) rfl⟩
      · intro vs L W hlen hJ hall
        clear hok
        obtain ⟨x0, vs0, rfl, hlen0⟩ := len_cons hlen
        obtain ⟨x1, vs1, rfl, hlen1⟩ := len_cons hlen0
        obtain ⟨x2, vs2, rfl, hlen2⟩ := len_cons hlen1
        obtain ⟨x3, vs3, rfl, hlen3⟩ := len_cons hlen2
        obtain ⟨x4, vs4, rfl, hlen4⟩ := len_cons hlen3
        obtain ⟨x5, vs5, rfl, hlen5⟩ := len_cons hlen4
        obtain ⟨x6, vs6, rfl, hlen6⟩ := len_cons hlen5
        obtain ⟨x7, vs7, rfl, hlen7⟩ := len_cons hlen6
        obtain ⟨x8, vs8, rfl, hlen8⟩ := len_cons hlen7
        obtain ⟨x9, vs9, rfl, hlen9⟩ := len_cons hlen8
        obtain ⟨x10, vs10, rfl, hlen10⟩ := len_cons hlen9
        obtain ⟨x11, vs11, rfl, hlen11⟩ := len_cons hlen10
        obtain ⟨x12, vs12, rfl, hlen12⟩ := len_cons hlen11
        obtain rfl := len_nil hlen12
        clear hlen hlen0 hlen1 hlen2 hlen3 hlen4 hlen5 hlen6 hlen7 hlen8 hlen9 hlen10 hlen11 hlen12
        obtain ⟨g0, hs0, hg0, cs0, -, hk0, hc0⟩ := hJ.made ⟨10, 11, 52, #[.int .i64 0, .int .i64 0]⟩ (by simp) (hall 10 (of_decide_eq_true (by kernel_rfl)))
        obtain rfl : cs0 = #[.int .i64 0, .int .i64 0] := hc0 (hall 11 (of_decide_eq_true (by kernel_rfl)))
        have d0 : x0 = .agg #[.string name, .slice ua bl.length uc, .slice ta ml.length tc, .int .i64 cover, .int .i64 agg, .int .i64 poker] := hJ.val 0 (show 0 < 13 by decide) (by decide) (hall 0 (of_decide_eq_true (by kernel_rfl)))
        have d1 : x1 = v := hJ.val 1 (show 1 < 13 by decide) (by decide) (hall 1 (of_decide_eq_true (by kernel_rfl)))
        have d2 : x2 = .slice ra ([] : List Rn).length rc := hJ.val 2 (show 2 < 13 by decide) (by decide) (hall 2 (of_decide_eq_true (by kernel_rfl)))
        have d3 : x3 = .int .i64 0 := hJ.val 3 (show 3 < 13 by decide) (by decide) (hall 3 (of_decide_eq_true (by kernel_rfl)))
        have d4 : x4 = .slice ra 0 rc := hJ.val 4 (show 4 < 13 by decide) (by decide) (hall 4 (of_decide_eq_true (by kernel_rfl)))
        have d5 : x5 = .int .i64 x := hJ.val 5 (show 5 < 13 by decide) (by decide) (hall 5 (of_decide_eq_true (by kernel_rfl)))
        have d6 : x6 = .tuple #[.agg #[.int .i64 0, .int .i64 0], .int .i64 16] := hJ.val 6 (show 6 < 13 by decide) (by decide) (hall 6 (of_decide_eq_true (by kernel_rfl)))
        have d7 : x7 = .tuple #[.agg #[.int .i64 0, .int .i64 0], .int .i64 16] := hJ.val 7 (show 7 < 13 by decide) (by decide) (hall 7 (of_decide_eq_true (by kernel_rfl)))
        have d8 : x8 = .agg #[.int .i64 0, .int .i64 0] := hJ.val 8 (show 8 < 13 by decide) (by decide) (hall 8 (of_decide_eq_true (by kernel_rfl)))
        have d9 : x9 = .int .i64 16 := hJ.val 9 (show 9 < 13 by decide) (by decide) (hall 9 (of_decide_eq_true (by kernel_rfl)))
        have d12 : x12 = .int .i64 16 := hJ.val 12 (show 12 < 13 by decide) (by decide) (hall 12 (of_decide_eq_true (by kernel_rfl)))
        have e0 : x10 = .pointer (some ⟨g0, 0, none⟩) := hs0
        have hbel := hJ.below
        clear hJ hall hs0 hc0
        subst d0 d1 d2 d3 d4 d5 d6 d7 d8 d9 d12 e0
        simp only [putAll_cons, putAll_nil, put_some, put_none, List.setIfInBounds_toArray, List.set_cons_succ, List.set_cons_zero]
        have HBW := Lib.hid hbel
        have HK0 := Lib.hid hk0
        clear hbel hk0 hg0
        go_wp2_with fail
        go_meet
        exact ⟨g0, rfl, rfl, ⟨(HK0.out.cell 0).trans rfl, (HK0.out.cell 1).trans rfl⟩, HBW.out⟩
    case rest =>
      obtain ⟨gb, rfl, rfl, hfb, hbl⟩ := hcut
      obtain ⟨W3, rfl⟩ : ∃ W : World, W = wc := ⟨_, rfl⟩
      obtain ⟨z, ez⟩ := ext_of hbl
      have HB3 := Lib.hid (HB2.out.trans (hbl.mono HB2.out.size))
      obtain ⟨m0, m1, m2, m3, m4, m5⟩ := (show MAt21 W3 w.heap.size name (.slice ua bl.length uc) (.slice ta ml.length tc) cover agg poker by rw [ez]; exact HM2.out.ext z)
      obtain ⟨ks0, ks1⟩ := (show FqAt W3 gs 0 0 by rw [ez]; exact HS2.out.ext z)
      obtain ⟨ka0, ka1⟩ := (show FqAt W3 ga 0 0 by rw [ez]; exact HA2.out.ext z)
      obtain ⟨kb0, kb1⟩ := hfb
      clear hbl ez HB2 HM2 HS2 HA2
      go_wp2_with fail
      go_at_call 25; refine (HSE.out _ ((HQ.out.below HB3.out).boxes.below (by (repeat (first | exact grow_refl _ | refine grow_ext _ ?_ | refine grow_alloc _ ?_ | refine grow_drew ?_)))) ((HQ.out.below HB3.out).holes.below (by (repeat (first | exact grow_refl _ | refine grow_ext _ ?_ | refine grow_alloc _ ?_ | refine grow_drew ?_))))).mono ?_; rintro e w' ⟨rfl, x5, rfl⟩
      go_wp2
      go_ret
      exact Ret.of (HB3.out.trans (Below.mono (by (repeat (first | exact grow_refl _ | refine grow_ext _ ?_ | refine grow_alloc _ ?_ | refine grow_drew ?_))) HB3.out.size))


set_option maxRecDepth 100000 in
set_option maxHeartbeats 8000000 in
theorem lawShr_5 (q : Mb) (l : List Br) (rs : List Rn) (v u : Value) (x qc : Int) (hc : 0 ≤ qc ∧ qc ≤ 255) (h4 : smallB q.l.length q.m.length 4 = true) (hn : q.name.size ≤ 60) (hb : memB q = true) (hv : laidB l rs = true) (hx : inI x (-1048576) 1048576 = true) (he : rs = []) (h0 : ¬ sectI q.l q.m x = 0) (h1 : l.length ≠ 1) (w : World) (hq : MbAt w q) (hl : Bars w v l) (hr : Runs w u rs) :
    Calls Tryz.prog 5 #[(.agg #[.string q.name, q.u, q.t, .int .i64 q.cover, .int .i64 q.agg, .int .i64 q.poker]), v, u, .int .i64 x, .int .u8 qc] w (Ret w (.bool true)) := by
  have HL := Lib.hid hl
  have HR := Lib.hid hr
  have HQ := Lib.hid hq
  obtain ⟨ua, uc, eu, -, -, -⟩ := hq.boxes.shape
  obtain ⟨ta, tc, et, -, -, -⟩ := hq.holes.shape
  have HS4 := Lib.hid (fun w hl hm => refSmall_v q.l q.m q.u q.t 4 true h4 w hl hm)
  have dn : decide ((60 : Int) < (q.name.size : Int)) = false := by simp; omega
  have HM := Lib.hid (fun w hl hm => refMember_v q.name q.l q.m q.u q.t q.cover q.agg q.poker true hb hq.name w hl hm)
  have hxr : -1048576 ≤ x ∧ x ≤ 1048576 := by unfold inI at hx; simpa using hx
  have hlen := (laidB_iff.1 hv).2.1
  obtain ⟨kk, hkk⟩ : ∃ kk : Nat, qc % ((rs.length : Int) + 1) = (kk : Int) := ⟨(qc % ((rs.length : Int) + 1)).toNat, by have := Int.emod_nonneg qc (show (rs.length : Int) + 1 ≠ 0 by omega); omega⟩
  have hkl : kk ≤ rs.length := by have := Int.emod_lt_of_pos qc (show 0 < (rs.length : Int) + 1 by omega); omega
  have ht : qc.tmod ((rs.length : Int) + 1) = (kk : Int) := by rw [Int.tmod_eq_emod_of_nonneg hc.1]; exact hkk
  have hwq : IntKind.i64.wrap qc = qc := IntWalk.i64_in _ (by omega)
  obtain ⟨hv1, hv2⟩ := laid_take kk hv
  have hce := ce_ok hv hx
  have hce1 := ce_ok hv1 hx
  have hce2 := ce_ok hv2 hx
  have hsol := (member_iff.1 hb).2.1
  have HSE := Lib.hid (fun w hl hm => section_c q.l q.m q.u q.t x w hl hm)
  rw [show sectR q.l q.m x = (sectI q.l q.m x, 0) by unfold sectR; rw [if_pos hsol, if_pos hxr]] at HSE
  have hs0 : 0 ≤ steelI (cutsI l (rs.take kk) x) ∧ steelI (cutsI l (rs.take kk) x) ≤ 1560000000 := by
    have ok := rcOk hv1 hx
    have := steelT_range ok.sz (cutsI l (rs.take kk) x).length (Nat.le_refl _)
    rw [steelT_all] at this
    have := ok.len; have := ok.most; omega
  have hs1 : 0 ≤ steelI (cutsI l (rs.drop kk) x) ∧ steelI (cutsI l (rs.drop kk) x) ≤ 1560000000 := by
    have ok := rcOk hv2 hx
    have := steelT_range ok.sz (cutsI l (rs.drop kk) x).length (Nat.le_refl _)
    rw [steelT_all] at this
    have := ok.len; have := ok.most; omega
  have hsi := solid_iff.1 hsol
  have hne : q.l ≠ [] := by intro e; rw [e] at hsi; simp at hsi
  have hsr := sect_bound (m := q.m) hsi.2.2.1 hne x
  obtain ⟨A1, hA1⟩ : ∃ A : Nat, steelI (cutsI l (rs.take kk) x) = (A : Int) := ⟨(steelI (cutsI l (rs.take kk) x)).toNat, by omega⟩
  obtain ⟨A2, hA2⟩ : ∃ A : Nat, steelI (cutsI l (rs.drop kk) x) = (A : Int) := ⟨(steelI (cutsI l (rs.drop kk) x)).toNat, by omega⟩
  have hA0 : steelI (cutsI l rs x) = ((A1 + A2 : Nat) : Int) := by rw [steel_parts kk hv, hA1, hA2]; simp
  obtain ⟨S, hS⟩ : ∃ S : Nat, sectI q.l q.m x = (S : Int) := ⟨(sectI q.l q.m x).toNat, by omega⟩
  rw [hA1] at hs0
  rw [hA2] at hs1
  have hsS : 0 < S ∧ S ≤ 4398046511104 := by rw [hS] at hsr h0; omega
  obtain ⟨f1, f2, hF0⟩ : ∃ f1 f2 : Nat, fracV (A1 + A2) (100 * S) = .agg #[.int .i64 f1, .int .i64 f2] := ⟨_, _, rfl⟩
  obtain ⟨g1, g2, hF1⟩ : ∃ f1 f2 : Nat, fracV A1 (100 * S) = .agg #[.int .i64 f1, .int .i64 f2] := ⟨_, _, rfl⟩
  obtain ⟨k1, k2, hF2⟩ : ∃ f1 f2 : Nat, fracV A2 (100 * S) = .agg #[.int .i64 f1, .int .i64 f2] := ⟨_, _, rfl⟩
  have HSH0 := Lib.hid (fun u w hq hl hr => share_v q l rs v u x (.agg #[.int .i64 f1, .int .i64 f2]) 0 (by
    unfold shareE; rw [hb, if_pos rfl, hce, if_pos rfl, if_neg h0]
    simp only [hA0, hS]
    rw [← hF0]
    congr 2) w hq hl hr)
  have HSH1 := Lib.hid (fun u w hq hl hr => share_v q l (rs.take kk) v u x (.agg #[.int .i64 g1, .int .i64 g2]) 0 (by
    unfold shareE; rw [hb, if_pos rfl, hce1, if_pos rfl, if_neg h0]
    simp only [hA1, hS]
    rw [← hF1]
    congr 2) w hq hl hr)
  have HSH2 := Lib.hid (fun u w hq hl hr => share_v q l (rs.drop kk) v u x (.agg #[.int .i64 k1, .int .i64 k2]) 0 (by
    unfold shareE; rw [hb, if_pos rfl, hce2, if_pos rfl, if_neg h0]
    simp only [hA2, hS]
    rw [← hF2]
    congr 2) w hq hl hr)
  have HAD := Lib.hid (fun w => addF_c A1 A2 (100 * S) (by omega) (by omega) (by omega) (by omega) w)
  rw [hF0, hF1, hF2] at HAD
  rw [hS] at HSE
  have d0 : ((S : Int) == 0) = false := by simp; omega
  have d1 : decide ((f1 : Int) < 0) = false := by simp
  have d2 : ((l.length : Int) != 1) = true := by simp; omega
  obtain ⟨va, vc, rfl, -, -, -⟩ := hl.shape
  subst he
  obtain ⟨ra, rc, rfl, -, hrc, -⟩ := hr.shape
  obtain rfl : kk = 0 := by simpa using hkl
  obtain ⟨name, bl, ml, bu, bt, cover, agg, poker⟩ := q
  simp only at eu et HS4 dn HM HSE HSH0 HSH1 HSH2 hS
  subst eu et
  clear hq hl hr h4 hn hb hv hx h0 h1 hxr hkk hv1 hv2 hce hce1 hce2 hsol hs0 hs1 hsi hne hsr hA1 hA2 hA0 hS hF0 hF1 hF2 hsS
  go_enter Tryz.func5, Tryz.ntmps5
  go_wp2_with fail
  go_at_call 6; refine (awake21_c _).mono ?_; rintro e w' ⟨rfl, x0, rfl⟩
  go_wp2_with fail
  go_at_call 24; refine (right21_c _ _ _ _ x _ (HL.out.below (by (repeat (first | exact grow_refl _ | refine grow_ext _ ?_ | refine grow_alloc _ ?_ | refine grow_drew ?_)))) (HR.out.below (by (repeat (first | exact grow_refl _ | refine grow_ext _ ?_ | refine grow_alloc _ ?_ | refine grow_drew ?_))))).mono ?_; rintro e w' ⟨q0, rfl, hq0, x1, rfl⟩
  cases q0
  · clear hq0
    go_wp2
    go_ret
    exact Ret.of (by (repeat (first | exact grow_refl _ | refine grow_ext _ ?_ | refine grow_alloc _ ?_ | refine grow_drew ?_)))
  clear hq0
  go_wp2_with fail
  go_at_call 14; refine (HS4.out _ (HQ.out.boxes.below (by (repeat (first | exact grow_refl _ | refine grow_ext _ ?_ | refine grow_alloc _ ?_ | refine grow_drew ?_)))) (HQ.out.holes.below (by (repeat (first | exact grow_refl _ | refine grow_ext _ ?_ | refine grow_alloc _ ?_ | refine grow_drew ?_))))).mono ?_; rintro e w' ⟨rfl, x2, rfl⟩
  go_wp2_with fail
  go_at_call 20; refine (HM.out _ (HQ.out.boxes.below (by (repeat (first | exact grow_refl _ | refine grow_ext _ ?_ | refine grow_alloc _ ?_ | refine grow_drew ?_)))) (HQ.out.holes.below (by (repeat (first | exact grow_refl _ | refine grow_ext _ ?_ | refine grow_alloc _ ?_ | refine grow_drew ?_))))).mono ?_; rintro e w' ⟨rfl, x3, rfl⟩
  go_wp2_with fail
  go_at_call 16; refine (HSH0.out _ _ (HQ.out.below (by (repeat (first | exact grow_refl _ | refine grow_ext _ ?_ | refine grow_alloc _ ?_ | refine grow_drew ?_)))) (HL.out.below (by (repeat (first | exact grow_refl _ | refine grow_ext _ ?_ | refine grow_alloc _ ?_ | refine grow_drew ?_)))) (HR.out.below (by (repeat (first | exact grow_refl _ | refine grow_ext _ ?_ | refine grow_alloc _ ?_ | refine grow_drew ?_))))).mono ?_; rintro e w' ⟨rfl, x4, rfl⟩
  go_wp2_with fail
  refine world_mask (fun W => Below w.heap.size w W ∧ MAt21 W w.heap.size name (.slice ua bl.length uc) (.slice ta ml.length tc) cover agg poker ∧ FqAt W (w.heap.size + 1 + x0.heap.size + x1.heap.size + x2.heap.size + x3.heap.size + x4.heap.size) (f1 : Int) (f2 : Int)) _ ⟨by (repeat (first | exact grow_refl _ | refine grow_ext _ ?_ | refine grow_alloc _ ?_ | refine grow_drew ?_)), by simp [MAt21, go_sem], by simp [FqAt, go_sem, Nat.add_assoc]⟩ ?_
  rintro W1 ⟨hb, hm, hs⟩
  generalize w.heap.size + 1 + x0.heap.size + x1.heap.size + x2.heap.size + x3.heap.size + x4.heap.size = gs at *
  have HB1 := Lib.hid hb
  have HM1 := Lib.hid hm
  have HS1 := Lib.hid hs
  clear hb hm hs
  go_cut [14, 15] (fun s14 s15 wx => ∃ g, s14 = .pointer (some ⟨g, 0, none⟩) ∧ s15 = .int .i64 0 ∧ FqAt wx g (g1 : Int) (g2 : Int) ∧ Below W1.heap.size W1 wx)
  case first =>
    have hok : mkOk [10, 11] [⟨10, 11, 52, #[.int .i64 (g1 : Int), .int .i64 (g2 : Int)]⟩] := mkOk_one (by decide)
    refine wp_region_M [.agg #[.string name, .slice ua bl.length uc, .slice ta ml.length tc, .int .i64 cover, .int .i64 agg, .int .i64 poker], .slice va l.length vc, .slice ra ([] : List Rn).length rc, .int .i64 0, .slice ra 0 rc, .int .i64 x, .tuple #[.agg #[.int .i64 (g1 : Int), .int .i64 (g2 : Int)], .int .i64 0], .tuple #[.agg #[.int .i64 (g1 : Int), .int .i64 (g2 : Int)], .int .i64 0], .agg #[.int .i64 (g1 : Int), .int .i64 (g2 : Int)], .int .i64 0, undef, undef, .int .i64 0] [10, 11] [⟨10, 11, 52, #[.int .i64 (g1 : Int), .int .i64 (g2 : Int)]⟩] (by kernel_rfl) (by kernel_rfl) ?_ ?_ ?_
    · intro b hb
      simp only [List.mem_cons, List.not_mem_nil, or_false] at hb
      rcases hb with rfl
      all_goals exact ⟨of_decide_eq_true (by kernel_rfl), of_decide_eq_true (by kernel_rfl)⟩
    · intro L vs W i hlen hJ hi
      obtain ⟨x0, vs0, rfl, hlen0⟩ := len_cons hlen
      obtain ⟨x1, vs1, rfl, hlen1⟩ := len_cons hlen0
      obtain ⟨x2, vs2, rfl, hlen2⟩ := len_cons hlen1
      obtain ⟨x3, vs3, rfl, hlen3⟩ := len_cons hlen2
      obtain ⟨x4, vs4, rfl, hlen4⟩ := len_cons hlen3
      obtain ⟨x5, vs5, rfl, hlen5⟩ := len_cons hlen4
      obtain ⟨x6, vs6, rfl, hlen6⟩ := len_cons hlen5
      obtain ⟨x7, vs7, rfl, hlen7⟩ := len_cons hlen6
      obtain ⟨x8, vs8, rfl, hlen8⟩ := len_cons hlen7
      obtain ⟨x9, vs9, rfl, hlen9⟩ := len_cons hlen8
      obtain ⟨x10, vs10, rfl, hlen10⟩ := len_cons hlen9
      obtain ⟨x11, vs11, rfl, hlen11⟩ := len_cons hlen10
      obtain ⟨x12, vs12, rfl, hlen12⟩ := len_cons hlen11
      obtain rfl := len_nil hlen12
      clear hlen hlen0 hlen1 hlen2 hlen3 hlen4 hlen5 hlen6 hlen7 hlen8 hlen9 hlen10 hlen11 hlen12
      obtain ⟨hun, o, ho, hd⟩ := mem_ready.1 hi
      have hin : i < 13 := by have := (Array.getElem?_eq_some_iff.1 ho).1; simpa using this
      refine wpOp_free (B := fun a' W' => ∃ x0 x1 x2 x3 x4 x5 x6 x7 x8 x9 x10 x11 x12, a' = putAll _ [x0, x1, x2, x3, x4, x5, x6, x7, x8, x9, x10, x11, x12] _ ∧ InvM _ _ _ _ [x0, x1, x2, x3, x4, x5, x6, x7, x8, x9, x10, x11, x12] (L.setIfInBounds i true) W') (fun _ _ h => by obtain ⟨x0, x1, x2, x3, x4, x5, x6, x7, x8, x9, x10, x11, x12, h1, h2⟩ := h; exact ⟨[x0, x1, x2, x3, x4, x5, x6, x7, x8, x9, x10, x11, x12], rfl, h1, h2⟩) ?_
      intro K HK
      simp only [putAll_cons, putAll_nil, put_some, put_none, List.setIfInBounds_toArray, List.set_cons_succ, List.set_cons_zero] at HK ⊢
      have HOK := Lib.hid hok
      clear hok
      obtain ⟨z, ez⟩ := ext_of hJ.below
      have hm := HM1.out.ext z
      rw [← ez] at hm
      obtain ⟨m0, m1, m2, m3, m4, m5⟩ := hm
      have HBJ := Lib.hid (HB1.out.trans (hJ.below.mono HB1.out.size))
      clear ez
      rcases (show i = 0 ∨ i = 1 ∨ i = 2 ∨ i = 3 ∨ i = 4 ∨ i = 5 ∨ i = 6 ∨ i = 7 ∨ i = 8 ∨ i = 9 ∨ i = 10 ∨ i = 11 ∨ i = 12 by omega) with rfl | rfl | rfl | rfl | rfl | rfl | rfl | rfl | rfl | rfl | rfl | rfl | rfl
      · obtain rfl := Option.some.inj ho
        refine wpOp_of_list (by rfl) ?_
        go_wp2
        exact HK.out _ _ ⟨_, _, _, _, _, _, _, _, _, _, _, _, _, rfl, hJ.up HOK.out 0 (by decide) (show 0 < 13 by decide) rfl⟩
      · obtain rfl := Option.some.inj ho
        refine wpOp_of_list (by rfl) ?_
        go_wp2
        exact HK.out _ _ ⟨_, _, _, _, _, _, _, _, _, _, _, _, _, rfl, hJ.up HOK.out 1 (by decide) (show 1 < 13 by decide) rfl⟩
      · obtain rfl := Option.some.inj ho
        refine wpOp_of_list (by rfl) ?_
        go_wp2
        exact HK.out _ _ ⟨_, _, _, _, _, _, _, _, _, _, _, _, _, rfl, hJ.up HOK.out 2 (by decide) (show 2 < 13 by decide) rfl⟩
      · obtain rfl := Option.some.inj ho
        refine wpOp_of_list (by rfl) ?_
        go_wp2
        exact HK.out _ _ ⟨_, _, _, _, _, _, _, _, _, _, _, _, _, rfl, hJ.up HOK.out 3 (by decide) (show 3 < 13 by decide) rfl⟩
      · obtain rfl := Option.some.inj ho
        have d2 : x2 = .slice ra ([] : List Rn).length rc := hJ.val 2 (show 2 < 13 by decide) (by decide) (getD_upJ (hd ⟨2, .data⟩ (by simp) (by rfl)))
        have d3 : x3 = .int .i64 0 := hJ.val 3 (show 3 < 13 by decide) (by decide) (getD_upJ (hd ⟨3, .data⟩ (by simp) (by rfl)))
        subst d2 d3
        refine wpOp_of_list (by rfl) ?_
        go_wp2
        exact HK.out _ _ ⟨_, _, _, _, _, _, _, _, _, _, _, _, _, rfl, hJ.up HOK.out 4 (by decide) (show 4 < 13 by decide) rfl⟩
      · obtain rfl := Option.some.inj ho
        refine wpOp_of_list (by rfl) ?_
        go_wp2
        exact HK.out _ _ ⟨_, _, _, _, _, _, _, _, _, _, _, _, _, rfl, hJ.up HOK.out 5 (by decide) (show 5 < 13 by decide) rfl⟩
      · obtain rfl := Option.some.inj ho
        have d0 : x0 = .agg #[.string name, .slice ua bl.length uc, .slice ta ml.length tc, .int .i64 cover, .int .i64 agg, .int .i64 poker] := hJ.val 0 (show 0 < 13 by decide) (by decide) (getD_upJ (hd ⟨0, .data⟩ (by simp) (by rfl)))
        have d1 : x1 = .slice va l.length vc := hJ.val 1 (show 1 < 13 by decide) (by decide) (getD_upJ (hd ⟨1, .data⟩ (by simp) (by rfl)))
        have d4 : x4 = .slice ra 0 rc := hJ.val 4 (show 4 < 13 by decide) (by decide) (getD_upJ (hd ⟨4, .data⟩ (by simp) (by rfl)))
        have d5 : x5 = .int .i64 x := hJ.val 5 (show 5 < 13 by decide) (by decide) (getD_upJ (hd ⟨5, .data⟩ (by simp) (by rfl)))
        subst d0 d1 d4 d5
        refine wpOp_of_list (by rfl) ?_
        go_wp2_with fail
        go_at_call 16; refine (HSH1.out _ _ (HQ.out.below HBJ.out) (HL.out.below HBJ.out) (HR.out.below HBJ.out)).mono ?_; rintro e w' ⟨rfl, xq, rfl⟩
        go_wp2
        exact HK.out _ _ ⟨_, _, _, _, _, _, _, _, _, _, _, _, _, rfl, (hJ.grow _).up HOK.out 6 (by decide) (show 6 < 13 by decide) rfl⟩
      · obtain rfl := Option.some.inj ho
        have d6 : x6 = .tuple #[.agg #[.int .i64 (g1 : Int), .int .i64 (g2 : Int)], .int .i64 0] := hJ.val 6 (show 6 < 13 by decide) (by decide) (getD_upJ (hd ⟨6, .data⟩ (by simp) (by rfl)))
        subst d6
        refine wpOp_of_list (by rfl) ?_
        go_wp2
        exact HK.out _ _ ⟨_, _, _, _, _, _, _, _, _, _, _, _, _, rfl, hJ.up HOK.out 7 (by decide) (show 7 < 13 by decide) rfl⟩
      · obtain rfl := Option.some.inj ho
        have d7 : x7 = .tuple #[.agg #[.int .i64 (g1 : Int), .int .i64 (g2 : Int)], .int .i64 0] := hJ.val 7 (show 7 < 13 by decide) (by decide) (getD_upJ (hd ⟨7, .data⟩ (by simp) (by rfl)))
        subst d7
        refine wpOp_of_list (by rfl) ?_
        go_wp2
        exact HK.out _ _ ⟨_, _, _, _, _, _, _, _, _, _, _, _, _, rfl, hJ.up HOK.out 8 (by decide) (show 8 < 13 by decide) rfl⟩
      · obtain rfl := Option.some.inj ho
        have d7 : x7 = .tuple #[.agg #[.int .i64 (g1 : Int), .int .i64 (g2 : Int)], .int .i64 0] := hJ.val 7 (show 7 < 13 by decide) (by decide) (getD_upJ (hd ⟨7, .data⟩ (by simp) (by rfl)))
        subst d7
        refine wpOp_of_list (by rfl) ?_
        go_wp2
        exact HK.out _ _ ⟨_, _, _, _, _, _, _, _, _, _, _, _, _, rfl, hJ.up HOK.out 9 (by decide) (show 9 < 13 by decide) rfl⟩
      · obtain rfl := Option.some.inj ho
        refine wpOp_of_list (by rfl) ?_
        go_wp2
        exact HK.out _ _ ⟨_, _, _, _, _, _, _, _, _, _, _, _, _, rfl, hJ.make HOK.out ⟨10, 11, 52, #[.int .i64 (g1 : Int), .int .i64 (g2 : Int)]⟩ (by simp) (show 10 < 13 by decide) hun #[.int .i64 0, .int .i64 0] rfl rfl⟩
      · obtain rfl := Option.some.inj ho
        have d8 : x8 = .agg #[.int .i64 (g1 : Int), .int .i64 (g2 : Int)] := hJ.val 8 (show 8 < 13 by decide) (by decide) (getD_upJ (hd ⟨8, .data⟩ (by simp) (by rfl)))
        have hka := getD_upJ (hd ⟨10, .data⟩ (by simp) (by rfl))
        obtain ⟨gq, hs, hg, cs, hcs, hb, -⟩ := hJ.made ⟨10, 11, 52, #[.int .i64 (g1 : Int), .int .i64 (g2 : Int)]⟩ (by simp) hka
        have hs2 : x10 = .pointer (some ⟨gq, 0, none⟩) := hs
        obtain ⟨qa0, qh0⟩ : ∃ a, cs[0]? = some a := ⟨_, Array.getElem?_eq_getElem (by rw [hcs]; exact (show 0 < 2 by decide))⟩
        obtain ⟨qa1, qh1⟩ : ∃ a, cs[1]? = some a := ⟨_, Array.getElem?_eq_getElem (by rw [hcs]; exact (show 1 < 2 by decide))⟩
        have qf0 : W.frozen? ⟨gq, 0, none⟩ = false := hb.frozen 0
        have qg0 : W.cell? ⟨gq, 0, none⟩ = some qa0 := (hb.cell 0).trans qh0
        have qf1 : W.frozen? ⟨gq, 1, none⟩ = false := hb.frozen 1
        have qg1 : W.cell? ⟨gq, 1, none⟩ = some qa1 := (hb.cell 1).trans qh1
        subst d8
        subst hs2
        refine wpOp_of_list (by rfl) ?_
        go_wp2
        refine HK.out _ _ ⟨_, _, _, _, _, _, _, _, _, _, _, _, _, rfl, hJ.fill HOK.out ⟨10, 11, 52, #[.int .i64 (g1 : Int), .int .i64 (g2 : Int)]⟩ (by simp) hka hs hg ((hJ.below.setCell hg _).setCell hg _) (fun k hk => by rw [Below.heap_setCell _ _ _ _ hk, Below.heap_setCell _ _ _ _ hk]) ?_⟩
        show Blk _ gq #[.int .i64 (g1 : Int), .int .i64 (g2 : Int)] _
        rw [← fill2 (a := .int .i64 (g1 : Int)) (b := .int .i64 (g2 : Int)) hcs]
        exact ((hb.set 0 _).set 1 _)
      · obtain rfl := Option.some.inj ho
        have d9 : x9 = .int .i64 0 := hJ.val 9 (show 9 < 13 by decide) (by decide) (getD_upJ (hd ⟨9, .data⟩ (by simp) (by rfl)))
        subst d9
        refine wpOp_of_list (by rfl) ?_
        go_wp2
        exact HK.out _ _ ⟨_, _, _, _, _, _, _, _, _, _, _, _, _, rfl, hJ.up HOK.out 12 (by decide) (show 12 < 13 by decide) rfl⟩
    · intro vs L W hlen hJ hall
      clear hok
      obtain ⟨x0, vs0, rfl, hlen0⟩ := len_cons hlen
      obtain ⟨x1, vs1, rfl, hlen1⟩ := len_cons hlen0
      obtain ⟨x2, vs2, rfl, hlen2⟩ := len_cons hlen1
      obtain ⟨x3, vs3, rfl, hlen3⟩ := len_cons hlen2
      obtain ⟨x4, vs4, rfl, hlen4⟩ := len_cons hlen3
      obtain ⟨x5, vs5, rfl, hlen5⟩ := len_cons hlen4
      obtain ⟨x6, vs6, rfl, hlen6⟩ := len_cons hlen5
      obtain ⟨x7, vs7, rfl, hlen7⟩ := len_cons hlen6
      obtain ⟨x8, vs8, rfl, hlen8⟩ := len_cons hlen7
      obtain ⟨x9, vs9, rfl, hlen9⟩ := len_cons hlen8
      obtain ⟨x10, vs10, rfl, hlen10⟩ := len_cons hlen9
      obtain ⟨x11, vs11, rfl, hlen11⟩ := len_cons hlen10
      obtain ⟨x12, vs12, rfl, hlen12⟩ := len_cons hlen11
      obtain rfl := len_nil hlen12
      clear hlen hlen0 hlen1 hlen2 hlen3 hlen4 hlen5 hlen6 hlen7 hlen8 hlen9 hlen10 hlen11 hlen12
      obtain ⟨g0, hs0, hg0, cs0, -, hk0, hc0⟩ := hJ.made ⟨10, 11, 52, #[.int .i64 (g1 : Int), .int .i64 (g2 : Int)]⟩ (by simp) (hall 10 (of_decide_eq_true (by kernel_rfl)))
      obtain rfl : cs0 = #[.int .i64 (g1 : Int), .int .i64 (g2 : Int)] := hc0 (hall 11 (of_decide_eq_true (by kernel_rfl)))
      have d0 : x0 = .agg #[.string name, .slice ua bl.length uc, .slice ta ml.length tc, .int .i64 cover, .int .i64 agg, .int .i64 poker] := hJ.val 0 (show 0 < 13 by decide) (by decide) (hall 0 (of_decide_eq_true (by kernel_rfl)))
      have d1 : x1 = .slice va l.length vc := hJ.val 1 (show 1 < 13 by decide) (by decide) (hall 1 (of_decide_eq_true (by kernel_rfl)))
      have d2 : x2 = .slice ra ([] : List Rn).length rc := hJ.val 2 (show 2 < 13 by decide) (by decide) (hall 2 (of_decide_eq_true (by kernel_rfl)))
      have d3 : x3 = .int .i64 0 := hJ.val 3 (show 3 < 13 by decide) (by decide) (hall 3 (of_decide_eq_true (by kernel_rfl)))
      have d4 : x4 = .slice ra 0 rc := hJ.val 4 (show 4 < 13 by decide) (by decide) (hall 4 (of_decide_eq_true (by kernel_rfl)))
      have d5 : x5 = .int .i64 x := hJ.val 5 (show 5 < 13 by decide) (by decide) (hall 5 (of_decide_eq_true (by kernel_rfl)))
      have d6 : x6 = .tuple #[.agg #[.int .i64 (g1 : Int), .int .i64 (g2 : Int)], .int .i64 0] := hJ.val 6 (show 6 < 13 by decide) (by decide) (hall 6 (of_decide_eq_true (by kernel_rfl)))
      have d7 : x7 = .tuple #[.agg #[.int .i64 (g1 : Int), .int .i64 (g2 : Int)], .int .i64 0] := hJ.val 7 (show 7 < 13 by decide) (by decide) (hall 7 (of_decide_eq_true (by kernel_rfl)))
      have d8 : x8 = .agg #[.int .i64 (g1 : Int), .int .i64 (g2 : Int)] := hJ.val 8 (show 8 < 13 by decide) (by decide) (hall 8 (of_decide_eq_true (by kernel_rfl)))
      have d9 : x9 = .int .i64 0 := hJ.val 9 (show 9 < 13 by decide) (by decide) (hall 9 (of_decide_eq_true (by kernel_rfl)))
      have d12 : x12 = .int .i64 0 := hJ.val 12 (show 12 < 13 by decide) (by decide) (hall 12 (of_decide_eq_true (by kernel_rfl)))
      have e0 : x10 = .pointer (some ⟨g0, 0, none⟩) := hs0
      have hbel := hJ.below
      clear hJ hall hs0 hc0
      subst d0 d1 d2 d3 d4 d5 d6 d7 d8 d9 d12 e0
      simp only [putAll_cons, putAll_nil, put_some, put_none, List.setIfInBounds_toArray, List.set_cons_succ, List.set_cons_zero]
      have HBW := Lib.hid hbel
      have HK0 := Lib.hid hk0
      clear hbel hk0 hg0
      go_wp2_with fail
      go_meet
      exact ⟨g0, rfl, rfl, ⟨(HK0.out.cell 0).trans rfl, (HK0.out.cell 1).trans rfl⟩, HBW.out⟩
  case rest =>
    obtain ⟨ga, rfl, rfl, hfa, hbl⟩ := hcut
    obtain ⟨W2, rfl⟩ : ∃ W : World, W = wc := ⟨_, rfl⟩
    obtain ⟨z, ez⟩ := ext_of hbl
    have HB2 := Lib.hid (HB1.out.trans (hbl.mono HB1.out.size))
    have HM2 := Lib.hid (show MAt21 W2 w.heap.size name (.slice ua bl.length uc) (.slice ta ml.length tc) cover agg poker by rw [ez]; exact HM1.out.ext z)
    have HS2 := Lib.hid (show FqAt W2 gs (f1 : Int) (f2 : Int) by rw [ez]; exact HS1.out.ext z)
    have HA2 := Lib.hid hfa
    clear hfa hbl ez HB1 HM1 HS1
    go_wp2_with fail
    go_cut [16, 17] (fun s16 s17 wx => ∃ g, s16 = .pointer (some ⟨g, 0, none⟩) ∧ s17 = .int .i64 0 ∧ FqAt wx g (k1 : Int) (k2 : Int) ∧ Below W2.heap.size W2 wx)
    case first =>
      have hok : mkOk [10, 11] [⟨10, 11, 52, #[.int .i64 (k1 : Int), .int .i64 (k2 : Int)]⟩] := mkOk_one (by decide)
      refine wp_region_M [.agg #[.string name, .slice ua bl.length uc, .slice ta ml.length tc, .int .i64 cover, .int .i64 agg, .int .i64 poker], .slice va l.length vc, .slice ra ([] : List Rn).length rc, .int .i64 0, .slice ra 0 rc, .int .i64 x, .tuple #[.agg #[.int .i64 (k1 : Int), .int .i64 (k2 : Int)], .int .i64 0], .tuple #[.agg #[.int .i64 (k1 : Int), .int .i64 (k2 : Int)], .int .i64 0], .agg #[.int .i64 (k1 : Int), .int .i64 (k2 : Int)], .int .i64 0, undef, undef, .int .i64 0] [10, 11] [⟨10, 11, 52, #[.int .i64 (k1 : Int), .int .i64 (k2 : Int)]⟩] (by kernel_rfl) (by kernel_rfl) ?_ ?_ ?_
      · intro b hb
        simp only [List.mem_cons, List.not_mem_nil, or_false] at hb
        rcases hb with rfl
        all_goals exact ⟨of_decide_eq_true (by kernel_rfl), of_decide_eq_true (by kernel_rfl)⟩
      · intro L vs W i hlen hJ hi
        obtain ⟨x0, vs0, rfl, hlen0⟩ := len_cons hlen
        obtain ⟨x1, vs1, rfl, hlen1⟩ := len_cons hlen0
        obtain ⟨x2, vs2, rfl, hlen2⟩ := len_cons hlen1
        obtain ⟨x3, vs3, rfl, hlen3⟩ := len_cons hlen2
        obtain ⟨x4, vs4, rfl, hlen4⟩ := len_cons hlen3
        obtain ⟨x5, vs5, rfl, hlen5⟩ := len_cons hlen4
        obtain ⟨x6, vs6, rfl, hlen6⟩ := len_cons hlen5
        obtain ⟨x7, vs7, rfl, hlen7⟩ := len_cons hlen6
        obtain ⟨x8, vs8, rfl, hlen8⟩ := len_cons hlen7
        obtain ⟨x9, vs9, rfl, hlen9⟩ := len_cons hlen8
        obtain ⟨x10, vs10, rfl, hlen10⟩ := len_cons hlen9
        obtain ⟨x11, vs11, rfl, hlen11⟩ := len_cons hlen10
        obtain ⟨x12, vs12, rfl, hlen12⟩ := len_cons hlen11
        obtain rfl := len_nil hlen12
        clear hlen hlen0 hlen1 hlen2 hlen3 hlen4 hlen5 hlen6 hlen7 hlen8 hlen9 hlen10 hlen11 hlen12
        obtain ⟨hun, o, ho, hd⟩ := mem_ready.1 hi
        have hin : i < 13 := by have := (Array.getElem?_eq_some_iff.1 ho).1; simpa using this
        refine wpOp_free (B := fun a' W' => ∃ x0 x1 x2 x3 x4 x5 x6 x7 x8 x9 x10 x11 x12, a' = putAll _ [x0, x1, x2, x3, x4, x5, x6, x7, x8, x9, x10, x11, x12] _ ∧ InvM _ _ _ _ [x0, x1, x2, x3, x4, x5, x6, x7, x8, x9, x10, x11, x12] (L.setIfInBounds i true) W') (fun _ _ h => by obtain ⟨x0, x1, x2, x3, x4, x5, x6, x7, x8, x9, x10, x11, x12, h1, h2⟩ := h; exact ⟨[x0, x1, x2, x3, x4, x5, x6, x7, x8, x9, x10, x11, x12], rfl, h1, h2⟩) ?_
        intro K HK
        simp only [putAll_cons, putAll_nil, put_some, put_none, List.setIfInBounds_toArray, List.set_cons_succ, List.set_cons_zero] at HK ⊢
        have HOK := Lib.hid hok
        clear hok
        obtain ⟨z, ez⟩ := ext_of hJ.below
        have hm := HM2.out.ext z
        rw [← ez] at hm
        obtain ⟨m0, m1, m2, m3, m4, m5⟩ := hm
        have HBJ := Lib.hid (HB2.out.trans (hJ.below.mono HB2.out.size))
        clear ez
        rcases (show i = 0 ∨ i = 1 ∨ i = 2 ∨ i = 3 ∨ i = 4 ∨ i = 5 ∨ i = 6 ∨ i = 7 ∨ i = 8 ∨ i = 9 ∨ i = 10 ∨ i = 11 ∨ i = 12 by omega) with rfl | rfl | rfl | rfl | rfl | rfl | rfl | rfl | rfl | rfl | rfl | rfl | rfl
        · obtain rfl := Option.some.inj ho
          refine wpOp_of_list (by rfl) ?_
          go_wp2
          exact HK.out _ _ ⟨_, _, _, _, _, _, _, _, _, _, _, _, _, rfl, hJ.up HOK.out 0 (by decide) (show 0 < 13 by decide) rfl⟩
        · obtain rfl := Option.some.inj ho
          refine wpOp_of_list (by rfl) ?_
          go_wp2
          exact HK.out _ _ ⟨_, _, _, _, _, _, _, _, _, _, _, _, _, rfl, hJ.up HOK.out 1 (by decide) (show 1 < 13 by decide) rfl⟩
        · obtain rfl := Option.some.inj ho
          refine wpOp_of_list (by rfl) ?_
          go_wp2
          exact HK.out _ _ ⟨_, _, _, _, _, _, _, _, _, _, _, _, _, rfl, hJ.up HOK.out 2 (by decide) (show 2 < 13 by decide) rfl⟩
        · obtain rfl := Option.some.inj ho
          refine wpOp_of_list (by rfl) ?_
          go_wp2
          exact HK.out _ _ ⟨_, _, _, _, _, _, _, _, _, _, _, _, _, rfl, hJ.up HOK.out 3 (by decide) (show 3 < 13 by decide) rfl⟩
        · obtain rfl := Option.some.inj ho
          have d2 : x2 = .slice ra ([] : List Rn).length rc := hJ.val 2 (show 2 < 13 by decide) (by decide) (getD_upJ (hd ⟨2, .data⟩ (by simp) (by rfl)))
          have d3 : x3 = .int .i64 0 := hJ.val 3 (show 3 < 13 by decide) (by decide) (getD_upJ (hd ⟨3, .data⟩ (by simp) (by rfl)))
          subst d2 d3
          refine wpOp_of_list (by rfl) ?_
          go_wp2
          exact HK.out _ _ ⟨_, _, _, _, _, _, _, _, _, _, _, _, _, rfl, hJ.up HOK.out 4 (by decide) (show 4 < 13 by decide) rfl⟩
        · obtain rfl := Option.some.inj ho
          refine wpOp_of_list (by rfl) ?_
          go_wp2
          exact HK.out _ _ ⟨_, _, _, _, _, _, _, _, _, _, _, _, _, rfl, hJ.up HOK.out 5 (by decide) (show 5 < 13 by decide) rfl⟩
        · obtain rfl := Option.some.inj ho
          have d0 : x0 = .agg #[.string name, .slice ua bl.length uc, .slice ta ml.length tc, .int .i64 cover, .int .i64 agg, .int .i64 poker] := hJ.val 0 (show 0 < 13 by decide) (by decide) (getD_upJ (hd ⟨0, .data⟩ (by simp) (by rfl)))
          have d1 : x1 = .slice va l.length vc := hJ.val 1 (show 1 < 13 by decide) (by decide) (getD_upJ (hd ⟨1, .data⟩ (by simp) (by rfl)))
          have d4 : x4 = .slice ra 0 rc := hJ.val 4 (show 4 < 13 by decide) (by decide) (getD_upJ (hd ⟨4, .data⟩ (by simp) (by rfl)))
          have d5 : x5 = .int .i64 x := hJ.val 5 (show 5 < 13 by decide) (by decide) (getD_upJ (hd ⟨5, .data⟩ (by simp) (by rfl)))
          subst d0 d1 d4 d5
          refine wpOp_of_list (by rfl) ?_
          go_wp2_with fail
          go_at_call 16; refine (HSH2.out _ _ (HQ.out.below HBJ.out) (HL.out.below HBJ.out) (HR.out.below HBJ.out)).mono ?_; rintro e w' ⟨rfl, xq, rfl⟩
          go_wp2
          exact HK.out _ _ ⟨_, _, _, _, _, _, _, _, _, _, _, _, _, rfl, (hJ.grow _).up HOK.out 6 (by decide) (show 6 < 13 by decide) rfl⟩
        · obtain rfl := Option.some.inj ho
          have d6 : x6 = .tuple #[.agg #[.int .i64 (k1 : Int), .int .i64 (k2 : Int)], .int .i64 0] := hJ.val 6 (show 6 < 13 by decide) (by decide) (getD_upJ (hd ⟨6, .data⟩ (by simp) (by rfl)))
          subst d6
          refine wpOp_of_list (by rfl) ?_
          go_wp2
          exact HK.out _ _ ⟨_, _, _, _, _, _, _, _, _, _, _, _, _, rfl, hJ.up HOK.out 7 (by decide) (show 7 < 13 by decide) rfl⟩
        · obtain rfl := Option.some.inj ho
          have d7 : x7 = .tuple #[.agg #[.int .i64 (k1 : Int), .int .i64 (k2 : Int)], .int .i64 0] := hJ.val 7 (show 7 < 13 by decide) (by decide) (getD_upJ (hd ⟨7, .data⟩ (by simp) (by rfl)))
          subst d7
          refine wpOp_of_list (by rfl) ?_
          go_wp2
          exact HK.out _ _ ⟨_, _, _, _, _, _, _, _, _, _, _, _, _, rfl, hJ.up HOK.out 8 (by decide) (show 8 < 13 by decide) rfl⟩
        · obtain rfl := Option.some.inj ho
          have d7 : x7 = .tuple #[.agg #[.int .i64 (k1 : Int), .int .i64 (k2 : Int)], .int .i64 0] := hJ.val 7 (show 7 < 13 by decide) (by decide) (getD_upJ (hd ⟨7, .data⟩ (by simp) (by rfl)))
          subst d7
          refine wpOp_of_list (by rfl) ?_
          go_wp2
          exact HK.out _ _ ⟨_, _, _, _, _, _, _, _, _, _, _, _, _, rfl, hJ.up HOK.out 9 (by decide) (show 9 < 13 by decide) rfl⟩
        · obtain rfl := Option.some.inj ho
          refine wpOp_of_list (by rfl) ?_
          go_wp2
          exact HK.out _ _ ⟨_, _, _, _, _, _, _, _, _, _, _, _, _, rfl, hJ.make HOK.out ⟨10, 11, 52, #[.int .i64 (k1 : Int), .int .i64 (k2 : Int)]⟩ (by simp) (show 10 < 13 by decide) hun #[.int .i64 0, .int .i64 0] rfl rfl⟩
        · obtain rfl := Option.some.inj ho
          have d8 : x8 = .agg #[.int .i64 (k1 : Int), .int .i64 (k2 : Int)] := hJ.val 8 (show 8 < 13 by decide) (by decide) (getD_upJ (hd ⟨8, .data⟩ (by simp) (by rfl)))
          have hka := getD_upJ (hd ⟨10, .data⟩ (by simp) (by rfl))
          obtain ⟨gq, hs, hg, cs, hcs, hb, -⟩ := hJ.made ⟨10, 11, 52, #[.int .i64 (k1 : Int), .int .i64 (k2 : Int)]⟩ (by simp) hka
          have hs2 : x10 = .pointer (some ⟨gq, 0, none⟩) := hs
          obtain ⟨qa0, qh0⟩ : ∃ a, cs[0]? = some a := ⟨_, Array.getElem?_eq_getElem (by rw [hcs]; exact (show 0 < 2 by decide))⟩
          obtain ⟨qa1, qh1⟩ : ∃ a, cs[1]? = some a := ⟨_, Array.getElem?_eq_getElem (by rw [hcs]; exact (show 1 < 2 by decide))⟩
          have qf0 : W.frozen? ⟨gq, 0, none⟩ = false := hb.frozen 0
          have qg0 : W.cell? ⟨gq, 0, none⟩ = some qa0 := (hb.cell 0).trans qh0
          have qf1 : W.frozen? ⟨gq, 1, none⟩ = false := hb.frozen 1
          have qg1 : W.cell? ⟨gq, 1, none⟩ = some qa1 := (hb.cell 1).trans qh1
          subst d8
          subst hs2
          refine wpOp_of_list (by rfl) ?_
          go_wp2
          refine HK.out _ _ ⟨_, _, _, _, _, _, _, _, _, _, _, _, _, rfl, hJ.fill HOK.out ⟨10, 11, 52, #[.int .i64 (k1 : Int), .int .i64 (k2 : Int)]⟩ (by simp) hka hs hg ((hJ.below.setCell hg _).setCell hg _) (fun k hk => by rw [Below.heap_setCell _ _ _ _ hk, Below.heap_setCell _ _ _ _ hk]) ?_⟩
          show Blk _ gq #[.int .i64 (k1 : Int), .int .i64 (k2 : Int)] _
          rw [← fill2 (a := .int .i64 (k1 : Int)) (b := .int .i64 (k2 : Int)) hcs]
          exact ((hb.set 0 _).set 1 _)
        · obtain rfl := Option.some.inj ho
          have d9 : x9 = .int .i64 0 := hJ.val 9 (show 9 < 13 by decide) (by decide) (getD_upJ (hd ⟨9, .data⟩ (by simp) (by rfl)))
          subst d9
          refine wpOp_of_list (by rfl) ?_
          go_wp2
          exact HK.out _ _ ⟨_, _, _, _, _, _, _, _, _, _, _, _, _, rfl, hJ.up HOK.out 12 (by decide) (show 12 < 13 by decide) rfl⟩
      · intro vs L W hlen hJ hall
        clear hok
        obtain ⟨x0, vs0, rfl, hlen0⟩ := len_cons hlen
        obtain ⟨x1, vs1, rfl, hlen1⟩ := len_cons hlen0
        obtain ⟨x2, vs2, rfl, hlen2⟩ := len_cons hlen1
        obtain ⟨x3, vs3, rfl, hlen3⟩ := len_cons hlen2
        obtain ⟨x4, vs4, rfl, hlen4⟩ := len_cons hlen3
        obtain ⟨x5, vs5, rfl, hlen5⟩ := len_cons hlen4
        obtain ⟨x6, vs6, rfl, hlen6⟩ := len_cons hlen5
        obtain ⟨x7, vs7, rfl, hlen7⟩ := len_cons hlen6
        obtain ⟨x8, vs8, rfl, hlen8⟩ := len_cons hlen7
        obtain ⟨x9, vs9, rfl, hlen9⟩ := len_cons hlen8
        obtain ⟨x10, vs10, rfl, hlen10⟩ := len_cons hlen9
        obtain ⟨x11, vs11, rfl, hlen11⟩ := len_cons hlen10
        obtain ⟨x12, vs12, rfl, hlen12⟩ := len_cons hlen11
        obtain rfl := len_nil hlen12
        clear hlen hlen0 hlen1 hlen2 hlen3 hlen4 hlen5 hlen6 hlen7 hlen8 hlen9 hlen10 hlen11 hlen12
        obtain ⟨g0, hs0, hg0, cs0, -, hk0, hc0⟩ := hJ.made ⟨10, 11, 52, #[.int .i64 (k1 : Int), .int .i64 (k2 : Int)]⟩ (by simp) (hall 10 (of_decide_eq_true (by kernel_rfl)))
        obtain rfl : cs0 = #[.int .i64 (k1 : Int), .int .i64 (k2 : Int)] := hc0 (hall 11 (of_decide_eq_true (by kernel_rfl)))
        have d0 : x0 = .agg #[.string name, .slice ua bl.length uc, .slice ta ml.length tc, .int .i64 cover, .int .i64 agg, .int .i64 poker] := hJ.val 0 (show 0 < 13 by decide) (by decide) (hall 0 (of_decide_eq_true (by kernel_rfl)))
        have d1 : x1 = .slice va l.length vc := hJ.val 1 (show 1 < 13 by decide) (by decide) (hall 1 (of_decide_eq_true (by kernel_rfl)))
        have d2 : x2 = .slice ra ([] : List Rn).length rc := hJ.val 2 (show 2 < 13 by decide) (by decide) (hall 2 (of_decide_eq_true (by kernel_rfl)))
        have d3 : x3 = .int .i64 0 := hJ.val 3 (show 3 < 13 by decide) (by decide) (hall 3 (of_decide_eq_true (by kernel_rfl)))
        have d4 : x4 = .slice ra 0 rc := hJ.val 4 (show 4 < 13 by decide) (by decide) (hall 4 (of_decide_eq_true (by kernel_rfl)))
        have d5 : x5 = .int .i64 x := hJ.val 5 (show 5 < 13 by decide) (by decide) (hall 5 (of_decide_eq_true (by kernel_rfl)))
        have d6 : x6 = .tuple #[.agg #[.int .i64 (k1 : Int), .int .i64 (k2 : Int)], .int .i64 0] := hJ.val 6 (show 6 < 13 by decide) (by decide) (hall 6 (of_decide_eq_true (by kernel_rfl)))
        have d7 : x7 = .tuple #[.agg #[.int .i64 (k1 : Int), .int .i64 (k2 : Int)], .int .i64 0] := hJ.val 7 (show 7 < 13 by decide) (by decide) (hall 7 (of_decide_eq_true (by kernel_rfl)))
        have d8 : x8 = .agg #[.int .i64 (k1 : Int), .int .i64 (k2 : Int)] := hJ.val 8 (show 8 < 13 by decide) (by decide) (hall 8 (of_decide_eq_true (by kernel_rfl)))
        have d9 : x9 = .int .i64 0 := hJ.val 9 (show 9 < 13 by decide) (by decide) (hall 9 (of_decide_eq_true (by kernel_rfl)))
        have d12 : x12 = .int .i64 0 := hJ.val 12 (show 12 < 13 by decide) (by decide) (hall 12 (of_decide_eq_true (by kernel_rfl)))
        have e0 : x10 = .pointer (some ⟨g0, 0, none⟩) := hs0
        have hbel := hJ.below
        clear hJ hall hs0 hc0
        subst d0 d1 d2 d3 d4 d5 d6 d7 d8 d9 d12 e0
        simp only [putAll_cons, putAll_nil, put_some, put_none, List.setIfInBounds_toArray, List.set_cons_succ, List.set_cons_zero]
        have HBW := Lib.hid hbel
        have HK0 := Lib.hid hk0
        clear hbel hk0 hg0
        go_wp2_with fail
        go_meet
        exact ⟨g0, rfl, rfl, ⟨(HK0.out.cell 0).trans rfl, (HK0.out.cell 1).trans rfl⟩, HBW.out⟩
    case rest =>
      obtain ⟨gb, rfl, rfl, hfb, hbl⟩ := hcut
      obtain ⟨W3, rfl⟩ : ∃ W : World, W = wc := ⟨_, rfl⟩
      obtain ⟨z, ez⟩ := ext_of hbl
      have HB3 := Lib.hid (HB2.out.trans (hbl.mono HB2.out.size))
      obtain ⟨m0, m1, m2, m3, m4, m5⟩ := (show MAt21 W3 w.heap.size name (.slice ua bl.length uc) (.slice ta ml.length tc) cover agg poker by rw [ez]; exact HM2.out.ext z)
      obtain ⟨ks0, ks1⟩ := (show FqAt W3 gs (f1 : Int) (f2 : Int) by rw [ez]; exact HS2.out.ext z)
      obtain ⟨ka0, ka1⟩ := (show FqAt W3 ga (g1 : Int) (g2 : Int) by rw [ez]; exact HA2.out.ext z)
      obtain ⟨kb0, kb1⟩ := hfb
      clear hbl ez HB2 HM2 HS2 HA2
      go_wp2_with fail
      go_at_call 25; refine (HSE.out _ ((HQ.out.below HB3.out).boxes.below (by (repeat (first | exact grow_refl _ | refine grow_ext _ ?_ | refine grow_alloc _ ?_ | refine grow_drew ?_)))) ((HQ.out.below HB3.out).holes.below (by (repeat (first | exact grow_refl _ | refine grow_ext _ ?_ | refine grow_alloc _ ?_ | refine grow_drew ?_))))).mono ?_; rintro e w' ⟨rfl, x5, rfl⟩
      go_wp2_with fail
      go_at_call 26; refine (HAD.out _).mono ?_; rintro e w' ⟨rfl, x6, rfl⟩
      go_wp2
      go_ret
      exact Ret.of (HB3.out.trans (Below.mono (by (repeat (first | exact grow_refl _ | refine grow_ext _ ?_ | refine grow_alloc _ ?_ | refine grow_drew ?_))) HB3.out.size))


set_option maxRecDepth 100000 in
set_option maxHeartbeats 8000000 in
theorem lawShr_6 (q : Mb) (l : List Br) (rs : List Rn) (v u : Value) (x qc : Int) (hc : 0 ≤ qc ∧ qc ≤ 255) (h4 : smallB q.l.length q.m.length 4 = true) (hn : q.name.size ≤ 60) (hb : memB q = true) (hv : laidB l rs = true) (hx : inI x (-1048576) 1048576 = true) (he : rs = []) (h0 : ¬ sectI q.l q.m x = 0) (h1 : l.length = 1) (w : World) (hq : MbAt w q) (hl : Bars w v l) (hr : Runs w u rs) :
    Calls Tryz.prog 5 #[(.agg #[.string q.name, q.u, q.t, .int .i64 q.cover, .int .i64 q.agg, .int .i64 q.poker]), v, u, .int .i64 x, .int .u8 qc] w (Ret w (.bool true)) := by
  have HL := Lib.hid hl
  have HR := Lib.hid hr
  have HQ := Lib.hid hq
  obtain ⟨ua, uc, eu, -, -, -⟩ := hq.boxes.shape
  obtain ⟨ta, tc, et, -, -, -⟩ := hq.holes.shape
  have HS4 := Lib.hid (fun w hl hm => refSmall_v q.l q.m q.u q.t 4 true h4 w hl hm)
  have dn : decide ((60 : Int) < (q.name.size : Int)) = false := by simp; omega
  have HM := Lib.hid (fun w hl hm => refMember_v q.name q.l q.m q.u q.t q.cover q.agg q.poker true hb hq.name w hl hm)
  have hxr : -1048576 ≤ x ∧ x ≤ 1048576 := by unfold inI at hx; simpa using hx
  have hlen := (laidB_iff.1 hv).2.1
  obtain ⟨kk, hkk⟩ : ∃ kk : Nat, qc % ((rs.length : Int) + 1) = (kk : Int) := ⟨(qc % ((rs.length : Int) + 1)).toNat, by have := Int.emod_nonneg qc (show (rs.length : Int) + 1 ≠ 0 by omega); omega⟩
  have hkl : kk ≤ rs.length := by have := Int.emod_lt_of_pos qc (show 0 < (rs.length : Int) + 1 by omega); omega
  have ht : qc.tmod ((rs.length : Int) + 1) = (kk : Int) := by rw [Int.tmod_eq_emod_of_nonneg hc.1]; exact hkk
  have hwq : IntKind.i64.wrap qc = qc := IntWalk.i64_in _ (by omega)
  obtain ⟨hv1, hv2⟩ := laid_take kk hv
  have hce := ce_ok hv hx
  have hce1 := ce_ok hv1 hx
  have hce2 := ce_ok hv2 hx
  have hsol := (member_iff.1 hb).2.1
  have HSE := Lib.hid (fun w hl hm => section_c q.l q.m q.u q.t x w hl hm)
  rw [show sectR q.l q.m x = (sectI q.l q.m x, 0) by unfold sectR; rw [if_pos hsol, if_pos hxr]] at HSE
  have hs0 : 0 ≤ steelI (cutsI l (rs.take kk) x) ∧ steelI (cutsI l (rs.take kk) x) ≤ 1560000000 := by
    have ok := rcOk hv1 hx
    have := steelT_range ok.sz (cutsI l (rs.take kk) x).length (Nat.le_refl _)
    rw [steelT_all] at this
    have := ok.len; have := ok.most; omega
  have hs1 : 0 ≤ steelI (cutsI l (rs.drop kk) x) ∧ steelI (cutsI l (rs.drop kk) x) ≤ 1560000000 := by
    have ok := rcOk hv2 hx
    have := steelT_range ok.sz (cutsI l (rs.drop kk) x).length (Nat.le_refl _)
    rw [steelT_all] at this
    have := ok.len; have := ok.most; omega
  have hsi := solid_iff.1 hsol
  have hne : q.l ≠ [] := by intro e; rw [e] at hsi; simp at hsi
  have hsr := sect_bound (m := q.m) hsi.2.2.1 hne x
  obtain ⟨A1, hA1⟩ : ∃ A : Nat, steelI (cutsI l (rs.take kk) x) = (A : Int) := ⟨(steelI (cutsI l (rs.take kk) x)).toNat, by omega⟩
  obtain ⟨A2, hA2⟩ : ∃ A : Nat, steelI (cutsI l (rs.drop kk) x) = (A : Int) := ⟨(steelI (cutsI l (rs.drop kk) x)).toNat, by omega⟩
  have hA0 : steelI (cutsI l rs x) = ((A1 + A2 : Nat) : Int) := by rw [steel_parts kk hv, hA1, hA2]; simp
  obtain ⟨S, hS⟩ : ∃ S : Nat, sectI q.l q.m x = (S : Int) := ⟨(sectI q.l q.m x).toNat, by omega⟩
  rw [hA1] at hs0
  rw [hA2] at hs1
  have hsS : 0 < S ∧ S ≤ 4398046511104 := by rw [hS] at hsr h0; omega
  obtain ⟨f1, f2, hF0⟩ : ∃ f1 f2 : Nat, fracV (A1 + A2) (100 * S) = .agg #[.int .i64 f1, .int .i64 f2] := ⟨_, _, rfl⟩
  obtain ⟨g1, g2, hF1⟩ : ∃ f1 f2 : Nat, fracV A1 (100 * S) = .agg #[.int .i64 f1, .int .i64 f2] := ⟨_, _, rfl⟩
  obtain ⟨k1, k2, hF2⟩ : ∃ f1 f2 : Nat, fracV A2 (100 * S) = .agg #[.int .i64 f1, .int .i64 f2] := ⟨_, _, rfl⟩
  have HSH0 := Lib.hid (fun u w hq hl hr => share_v q l rs v u x (.agg #[.int .i64 f1, .int .i64 f2]) 0 (by
    unfold shareE; rw [hb, if_pos rfl, hce, if_pos rfl, if_neg h0]
    simp only [hA0, hS]
    rw [← hF0]
    congr 2) w hq hl hr)
  have HSH1 := Lib.hid (fun u w hq hl hr => share_v q l (rs.take kk) v u x (.agg #[.int .i64 g1, .int .i64 g2]) 0 (by
    unfold shareE; rw [hb, if_pos rfl, hce1, if_pos rfl, if_neg h0]
    simp only [hA1, hS]
    rw [← hF1]
    congr 2) w hq hl hr)
  have HSH2 := Lib.hid (fun u w hq hl hr => share_v q l (rs.drop kk) v u x (.agg #[.int .i64 k1, .int .i64 k2]) 0 (by
    unfold shareE; rw [hb, if_pos rfl, hce2, if_pos rfl, if_neg h0]
    simp only [hA2, hS]
    rw [← hF2]
    congr 2) w hq hl hr)
  have HAD := Lib.hid (fun w => addF_c A1 A2 (100 * S) (by omega) (by omega) (by omega) (by omega) w)
  rw [hF0, hF1, hF2] at HAD
  rw [hS] at HSE
  have d0 : ((S : Int) == 0) = false := by simp; omega
  have d1 : decide ((f1 : Int) < 0) = false := by simp
  obtain ⟨b, rfl⟩ := List.length_eq_one_iff.1 h1
  have hsame := steel_same (one_size hv (x := x))
  have hszb : sizeB b.size = true := (shape_facts (schedB_shape (laidB_iff.1 hv).1 b (by simp))).2.2.1
  have har := areaI_range hszb
  obtain ⟨AR, hAR⟩ : ∃ A : Nat, areaI b.size = (A : Int) := ⟨(areaI b.size).toNat, by omega⟩
  have HAE := Lib.hid (fun w => AreaSt_v b.size AR hszb hAR w)
  have HRW := Lib.hid (fun w hl hr => (gRow_c [b] rs v u x w hl hr).mono fun e W h => rowLen7 h)
  rw [hce] at HRW
  simp only [List.length_map] at HRW
  rw [hA0, hAR] at hsame
  have hmx := (rcOk hv hx).most
  rw [(rcOk hv hx).len] at hmx
  obtain ⟨NC, hNC⟩ : ∃ n, (cutsI [b] rs x).length = n := ⟨_, rfl⟩
  rw [hNC] at HRW hsame hmx
  have hprod : A1 + A2 = NC * AR := by
    have : ((A1 + A2 : Nat) : Int) = ((NC * AR : Nat) : Int) := by rw [hsame]; simp
    exact Int.ofNat.inj this
  have HMK := Lib.hid (fun w => make_c (A1 + A2) (100 * S) (by omega) (by omega) (by omega) w)
  rw [hF0] at HMK
  have hw1 : wrap64 (100 * (S : Int)) = ((100 * S : Nat) : Int) := by rw [show ((100 * S : Nat) : Int) = 100 * (S : Int) by simp]; exact IntWalk.wrap64_in _ (by omega)
  have hw2 : wrap64 ((NC : Int) * (AR : Int)) = ((A1 + A2 : Nat) : Int) := by rw [hprod, show ((NC * AR : Nat) : Int) = (NC : Int) * (AR : Int) by simp]; rw [← hsame]; exact IntWalk.wrap64_in _ (by omega)
  obtain ⟨va, vc, rfl, -, -, hb4⟩ := hl.shape
  obtain ⟨_, b9, off9, rfl, hbr⟩ := hb4 0 (by simp)
  simp only [List.getElem_cons_zero, Nat.zero_mul, Nat.add_zero] at hbr
  have kb := hbr.2.1
  have hl1 : ([b].length : Int) = 1 := rfl
  subst he
  obtain ⟨ra, rc, rfl, -, hrc, -⟩ := hr.shape
  obtain rfl : kk = 0 := by simpa using hkl
  obtain ⟨name, bl, ml, bu, bt, cover, agg, poker⟩ := q
  simp only at eu et HS4 dn HM HSE HSH0 HSH1 HSH2 hS
  subst eu et
  clear hq hl hr h4 hn hb hv hx h0 hxr hkk hv1 hv2 hce hce1 hce2 hsol hs0 hs1 hsi hne hsr hA1 hA2 hA0 hS hF0 hF1 hF2 hsS hsame hszb har hAR hmx hNC hprod hb4 hbr
  go_enter Tryz.func5, Tryz.ntmps5
  go_wp2_with fail
  go_at_call 6; refine (awake21_c _).mono ?_; rintro e w' ⟨rfl, x0, rfl⟩
  go_wp2_with fail
  go_at_call 24; refine (right21_c _ _ _ _ x _ (HL.out.below (by (repeat (first | exact grow_refl _ | refine grow_ext _ ?_ | refine grow_alloc _ ?_ | refine grow_drew ?_)))) (HR.out.below (by (repeat (first | exact grow_refl _ | refine grow_ext _ ?_ | refine grow_alloc _ ?_ | refine grow_drew ?_))))).mono ?_; rintro e w' ⟨q0, rfl, hq0, x1, rfl⟩
  cases q0
  · clear hq0
    go_wp2
    go_ret
    exact Ret.of (by (repeat (first | exact grow_refl _ | refine grow_ext _ ?_ | refine grow_alloc _ ?_ | refine grow_drew ?_)))
  clear hq0
  go_wp2_with fail
  go_at_call 14; refine (HS4.out _ (HQ.out.boxes.below (by (repeat (first | exact grow_refl _ | refine grow_ext _ ?_ | refine grow_alloc _ ?_ | refine grow_drew ?_)))) (HQ.out.holes.below (by (repeat (first | exact grow_refl _ | refine grow_ext _ ?_ | refine grow_alloc _ ?_ | refine grow_drew ?_))))).mono ?_; rintro e w' ⟨rfl, x2, rfl⟩
  go_wp2_with fail
  go_at_call 20; refine (HM.out _ (HQ.out.boxes.below (by (repeat (first | exact grow_refl _ | refine grow_ext _ ?_ | refine grow_alloc _ ?_ | refine grow_drew ?_)))) (HQ.out.holes.below (by (repeat (first | exact grow_refl _ | refine grow_ext _ ?_ | refine grow_alloc _ ?_ | refine grow_drew ?_))))).mono ?_; rintro e w' ⟨rfl, x3, rfl⟩
  go_wp2_with fail
  go_at_call 16; refine (HSH0.out _ _ (HQ.out.below (by (repeat (first | exact grow_refl _ | refine grow_ext _ ?_ | refine grow_alloc _ ?_ | refine grow_drew ?_)))) (HL.out.below (by (repeat (first | exact grow_refl _ | refine grow_ext _ ?_ | refine grow_alloc _ ?_ | refine grow_drew ?_)))) (HR.out.below (by (repeat (first | exact grow_refl _ | refine grow_ext _ ?_ | refine grow_alloc _ ?_ | refine grow_drew ?_))))).mono ?_; rintro e w' ⟨rfl, x4, rfl⟩
  go_wp2_with fail
  refine world_mask (fun W => Below w.heap.size w W ∧ MAt21 W w.heap.size name (.slice ua bl.length uc) (.slice ta ml.length tc) cover agg poker ∧ FqAt W (w.heap.size + 1 + x0.heap.size + x1.heap.size + x2.heap.size + x3.heap.size + x4.heap.size) (f1 : Int) (f2 : Int)) _ ⟨by (repeat (first | exact grow_refl _ | refine grow_ext _ ?_ | refine grow_alloc _ ?_ | refine grow_drew ?_)), by simp [MAt21, go_sem], by simp [FqAt, go_sem, Nat.add_assoc]⟩ ?_
  rintro W1 ⟨hb, hm, hs⟩
  generalize w.heap.size + 1 + x0.heap.size + x1.heap.size + x2.heap.size + x3.heap.size + x4.heap.size = gs at *
  have HB1 := Lib.hid hb
  have HM1 := Lib.hid hm
  have HS1 := Lib.hid hs
  clear hb hm hs
  go_cut [14, 15] (fun s14 s15 wx => ∃ g, s14 = .pointer (some ⟨g, 0, none⟩) ∧ s15 = .int .i64 0 ∧ FqAt wx g (g1 : Int) (g2 : Int) ∧ Below W1.heap.size W1 wx)
  case first =>
    have hok : mkOk [10, 11] [⟨10, 11, 52, #[.int .i64 (g1 : Int), .int .i64 (g2 : Int)]⟩] := mkOk_one (by decide)
    refine wp_region_M [.agg #[.string name, .slice ua bl.length uc, .slice ta ml.length tc, .int .i64 cover, .int .i64 agg, .int .i64 poker], .slice (some ⟨b9, off9, none⟩) [b].length vc, .slice ra ([] : List Rn).length rc, .int .i64 0, .slice ra 0 rc, .int .i64 x, .tuple #[.agg #[.int .i64 (g1 : Int), .int .i64 (g2 : Int)], .int .i64 0], .tuple #[.agg #[.int .i64 (g1 : Int), .int .i64 (g2 : Int)], .int .i64 0], .agg #[.int .i64 (g1 : Int), .int .i64 (g2 : Int)], .int .i64 0, undef, undef, .int .i64 0] [10, 11] [⟨10, 11, 52, #[.int .i64 (g1 : Int), .int .i64 (g2 : Int)]⟩] (by kernel_rfl) (by kernel_rfl) ?_ ?_ ?_
    · intro b hb
      simp only [List.mem_cons, List.not_mem_nil, or_false] at hb
      rcases hb with rfl
      all_goals exact ⟨of_decide_eq_true (by kernel_rfl), of_decide_eq_true (by kernel_rfl)⟩
    · intro L vs W i hlen hJ hi
      obtain ⟨x0, vs0, rfl, hlen0⟩ := len_cons hlen
      obtain ⟨x1, vs1, rfl, hlen1⟩ := len_cons hlen0
      obtain ⟨x2, vs2, rfl, hlen2⟩ := len_cons hlen1
      obtain ⟨x3, vs3, rfl, hlen3⟩ := len_cons hlen2
      obtain ⟨x4, vs4, rfl, hlen4⟩ := len_cons hlen3
      obtain ⟨x5, vs5, rfl, hlen5⟩ := len_cons hlen4
      obtain ⟨x6, vs6, rfl, hlen6⟩ := len_cons hlen5
      obtain ⟨x7, vs7, rfl, hlen7⟩ := len_cons hlen6
      obtain ⟨x8, vs8, rfl, hlen8⟩ := len_cons hlen7
      obtain ⟨x9, vs9, rfl, hlen9⟩ := len_cons hlen8
      obtain ⟨x10, vs10, rfl, hlen10⟩ := len_cons hlen9
      obtain ⟨x11, vs11, rfl, hlen11⟩ := len_cons hlen10
      obtain ⟨x12, vs12, rfl, hlen12⟩ := len_cons hlen11
      obtain rfl := len_nil hlen12
      clear hlen hlen0 hlen1 hlen2 hlen3 hlen4 hlen5 hlen6 hlen7 hlen8 hlen9 hlen10 hlen11 hlen12
      obtain ⟨hun, o, ho, hd⟩ := mem_ready.1 hi
      have hin : i < 13 := by have := (Array.getElem?_eq_some_iff.1 ho).1; simpa using this
      refine wpOp_free (B := fun a' W' => ∃ x0 x1 x2 x3 x4 x5 x6 x7 x8 x9 x10 x11 x12, a' = putAll _ [x0, x1, x2, x3, x4, x5, x6, x7, x8, x9, x10, x11, x12] _ ∧ InvM _ _ _ _ [x0, x1, x2, x3, x4, x5, x6, x7, x8, x9, x10, x11, x12] (L.setIfInBounds i true) W') (fun _ _ h => by obtain ⟨x0, x1, x2, x3, x4, x5, x6, x7, x8, x9, x10, x11, x12, h1, h2⟩ := h; exact ⟨[x0, x1, x2, x3, x4, x5, x6, x7, x8, x9, x10, x11, x12], rfl, h1, h2⟩) ?_
      intro K HK
      simp only [putAll_cons, putAll_nil, put_some, put_none, List.setIfInBounds_toArray, List.set_cons_succ, List.set_cons_zero] at HK ⊢
      have HOK := Lib.hid hok
      clear hok
      obtain ⟨z, ez⟩ := ext_of hJ.below
      have hm := HM1.out.ext z
      rw [← ez] at hm
      obtain ⟨m0, m1, m2, m3, m4, m5⟩ := hm
      have HBJ := Lib.hid (HB1.out.trans (hJ.below.mono HB1.out.size))
      clear ez
      rcases (show i = 0 ∨ i = 1 ∨ i = 2 ∨ i = 3 ∨ i = 4 ∨ i = 5 ∨ i = 6 ∨ i = 7 ∨ i = 8 ∨ i = 9 ∨ i = 10 ∨ i = 11 ∨ i = 12 by omega) with rfl | rfl | rfl | rfl | rfl | rfl | rfl | rfl | rfl | rfl | rfl | rfl | rfl
      · obtain rfl := Option.some.inj ho
        refine wpOp_of_list (by rfl) ?_
        go_wp2
        exact HK.out _ _ ⟨_, _, _, _, _, _, _, _, _, _, _, _, _, rfl, hJ.up HOK.out 0 (by decide) (show 0 < 13 by decide) rfl⟩
      · obtain rfl := Option.some.inj ho
        refine wpOp_of_list (by rfl) ?_
        go_wp2
        exact HK.out _ _ ⟨_, _, _, _, _, _, _, _, _, _, _, _, _, rfl, hJ.up HOK.out 1 (by decide) (show 1 < 13 by decide) rfl⟩
      · obtain rfl := Option.some.inj ho
        refine wpOp_of_list (by rfl) ?_
        go_wp2
        exact HK.out _ _ ⟨_, _, _, _, _, _, _, _, _, _, _, _, _, rfl, hJ.up HOK.out 2 (by decide) (show 2 < 13 by decide) rfl⟩
      · obtain rfl := Option.some.inj ho
        refine wpOp_of_list (by rfl) ?_
        go_wp2
        exact HK.out _ _ ⟨_, _, _, _, _, _, _, _, _, _, _, _, _, rfl, hJ.up HOK.out 3 (by decide) (show 3 < 13 by decide) rfl⟩
      · obtain rfl := Option.some.inj ho
        have d2 : x2 = .slice ra ([] : List Rn).length rc := hJ.val 2 (show 2 < 13 by decide) (by decide) (getD_upJ (hd ⟨2, .data⟩ (by simp) (by rfl)))
        have d3 : x3 = .int .i64 0 := hJ.val 3 (show 3 < 13 by decide) (by decide) (getD_upJ (hd ⟨3, .data⟩ (by simp) (by rfl)))
        subst d2 d3
        refine wpOp_of_list (by rfl) ?_
        go_wp2
        exact HK.out _ _ ⟨_, _, _, _, _, _, _, _, _, _, _, _, _, rfl, hJ.up HOK.out 4 (by decide) (show 4 < 13 by decide) rfl⟩
      · obtain rfl := Option.some.inj ho
        refine wpOp_of_list (by rfl) ?_
        go_wp2
        exact HK.out _ _ ⟨_, _, _, _, _, _, _, _, _, _, _, _, _, rfl, hJ.up HOK.out 5 (by decide) (show 5 < 13 by decide) rfl⟩
      · obtain rfl := Option.some.inj ho
        have d0 : x0 = .agg #[.string name, .slice ua bl.length uc, .slice ta ml.length tc, .int .i64 cover, .int .i64 agg, .int .i64 poker] := hJ.val 0 (show 0 < 13 by decide) (by decide) (getD_upJ (hd ⟨0, .data⟩ (by simp) (by rfl)))
        have d1 : x1 = .slice (some ⟨b9, off9, none⟩) [b].length vc := hJ.val 1 (show 1 < 13 by decide) (by decide) (getD_upJ (hd ⟨1, .data⟩ (by simp) (by rfl)))
        have d4 : x4 = .slice ra 0 rc := hJ.val 4 (show 4 < 13 by decide) (by decide) (getD_upJ (hd ⟨4, .data⟩ (by simp) (by rfl)))
        have d5 : x5 = .int .i64 x := hJ.val 5 (show 5 < 13 by decide) (by decide) (getD_upJ (hd ⟨5, .data⟩ (by simp) (by rfl)))
        subst d0 d1 d4 d5
        refine wpOp_of_list (by rfl) ?_
        go_wp2_with fail
        go_at_call 16; refine (HSH1.out _ _ (HQ.out.below HBJ.out) (HL.out.below HBJ.out) (HR.out.below HBJ.out)).mono ?_; rintro e w' ⟨rfl, xq, rfl⟩
        go_wp2
        exact HK.out _ _ ⟨_, _, _, _, _, _, _, _, _, _, _, _, _, rfl, (hJ.grow _).up HOK.out 6 (by decide) (show 6 < 13 by decide) rfl⟩
      · obtain rfl := Option.some.inj ho
        have d6 : x6 = .tuple #[.agg #[.int .i64 (g1 : Int), .int .i64 (g2 : Int)], .int .i64 0] := hJ.val 6 (show 6 < 13 by decide) (by decide) (getD_upJ (hd ⟨6, .data⟩ (by simp) (by rfl)))
        subst d6
        refine wpOp_of_list (by rfl) ?_
        go_wp2
        exact HK.out _ _ ⟨_, _, _, _, _, _, _, _, _, _, _, _, _, rfl, hJ.up HOK.out 7 (by decide) (show 7 < 13 by decide) rfl⟩
      · obtain rfl := Option.some.inj ho
        have d7 : x7 = .tuple #[.agg #[.int .i64 (g1 : Int), .int .i64 (g2 : Int)], .int .i64 0] := hJ.val 7 (show 7 < 13 by decide) (by decide) (getD_upJ (hd ⟨7, .data⟩ (by simp) (by rfl)))
        subst d7
        refine wpOp_of_list (by rfl) ?_
        go_wp2
        exact HK.out _ _ ⟨_, _, _, _, _, _, _, _, _, _, _, _, _, rfl, hJ.up HOK.out 8 (by decide) (show 8 < 13 by decide) rfl⟩
      · obtain rfl := Option.some.inj ho
        have d7 : x7 = .tuple #[.agg #[.int .i64 (g1 : Int), .int .i64 (g2 : Int)], .int .i64 0] := hJ.val 7 (show 7 < 13 by decide) (by decide) (getD_upJ (hd ⟨7, .data⟩ (by simp) (by rfl)))
        subst d7
        refine wpOp_of_list (by rfl) ?_
        go_wp2
        exact HK.out _ _ ⟨_, _, _, _, _, _, _, _, _, _, _, _, _, rfl, hJ.up HOK.out 9 (by decide) (show 9 < 13 by decide) rfl⟩
      · obtain rfl := Option.some.inj ho
        refine wpOp_of_list (by rfl) ?_
        go_wp2
        exact HK.out _ _ ⟨_, _, _, _, _, _, _, _, _, _, _, _, _, rfl, hJ.make HOK.out ⟨10, 11, 52, #[.int .i64 (g1 : Int), .int .i64 (g2 : Int)]⟩ (by simp) (show 10 < 13 by decide) hun #[.int .i64 0, .int .i64 0] rfl rfl⟩
      · obtain rfl := Option.some.inj ho
        have d8 : x8 = .agg #[.int .i64 (g1 : Int), .int .i64 (g2 : Int)] := hJ.val 8 (show 8 < 13 by decide) (by decide) (getD_upJ (hd ⟨8, .data⟩ (by simp) (by rfl)))
        have hka := getD_upJ (hd ⟨10, .data⟩ (by simp) (by rfl))
        obtain ⟨gq, hs, hg, cs, hcs, hb, -⟩ := hJ.made ⟨10, 11, 52, #[.int .i64 (g1 : Int), .int .i64 (g2 : Int)]⟩ (by simp) hka
        have hs2 : x10 = .pointer (some ⟨gq, 0, none⟩) := hs
        obtain ⟨qa0, qh0⟩ : ∃ a, cs[0]? = some a := ⟨_, Array.getElem?_eq_getElem (by rw [hcs]; exact (show 0 < 2 by decide))⟩
        obtain ⟨qa1, qh1⟩ : ∃ a, cs[1]? = some a := ⟨_, Array.getElem?_eq_getElem (by rw [hcs]; exact (show 1 < 2 by decide))⟩
        have qf0 : W.frozen? ⟨gq, 0, none⟩ = false := hb.frozen 0
        have qg0 : W.cell? ⟨gq, 0, none⟩ = some qa0 := (hb.cell 0).trans qh0
        have qf1 : W.frozen? ⟨gq, 1, none⟩ = false := hb.frozen 1
        have qg1 : W.cell? ⟨gq, 1, none⟩ = some qa1 := (hb.cell 1).trans qh1
        subst d8
        subst hs2
        refine wpOp_of_list (by rfl) ?_
        go_wp2
        refine HK.out _ _ ⟨_, _, _, _, _, _, _, _, _, _, _, _, _, rfl, hJ.fill HOK.out ⟨10, 11, 52, #[.int .i64 (g1 : Int), .int .i64 (g2 : Int)]⟩ (by simp) hka hs hg ((hJ.below.setCell hg _).setCell hg _) (fun k hk => by rw [Below.heap_setCell _ _ _ _ hk, Below.heap_setCell _ _ _ _ hk]) ?_⟩
        show Blk _ gq #[.int .i64 (g1 : Int), .int .i64 (g2 : Int)] _
        rw [← fill2 (a := .int .i64 (g1 : Int)) (b := .int .i64 (g2 : Int)) hcs]
        exact ((hb.set 0 _).set 1 _)
      · obtain rfl := Option.some.inj ho
        have d9 : x9 = .int .i64 0 := hJ.val 9 (show 9 < 13 by decide) (by decide) (getD_upJ (hd ⟨9, .data⟩ (by simp) (by rfl)))
        subst d9
        refine wpOp_of_list (by rfl) ?_
        go_wp2
        exact HK.out _ _ ⟨_, _, _, _, _, _, _, _, _, _, _, _, _, rfl, hJ.up HOK.out 12 (by decide) (show 12 < 13 by decide) rfl⟩
    · intro vs L W hlen hJ hall
      clear hok
      obtain ⟨x0, vs0, rfl, hlen0⟩ := len_cons hlen
      obtain ⟨x1, vs1, rfl, hlen1⟩ := len_cons hlen0
      obtain ⟨x2, vs2, rfl, hlen2⟩ := len_cons hlen1
      obtain ⟨x3, vs3, rfl, hlen3⟩ := len_cons hlen2
      obtain ⟨x4, vs4, rfl, hlen4⟩ := len_cons hlen3
      obtain ⟨x5, vs5, rfl, hlen5⟩ := len_cons hlen4
      obtain ⟨x6, vs6, rfl, hlen6⟩ := len_cons hlen5
      obtain ⟨x7, vs7, rfl, hlen7⟩ := len_cons hlen6
      obtain ⟨x8, vs8, rfl, hlen8⟩ := len_cons hlen7
      obtain ⟨x9, vs9, rfl, hlen9⟩ := len_cons hlen8
      obtain ⟨x10, vs10, rfl, hlen10⟩ := len_cons hlen9
      obtain ⟨x11, vs11, rfl, hlen11⟩ := len_cons hlen10
      obtain ⟨x12, vs12, rfl, hlen12⟩ := len_cons hlen11
      obtain rfl := len_nil hlen12
      clear hlen hlen0 hlen1 hlen2 hlen3 hlen4 hlen5 hlen6 hlen7 hlen8 hlen9 hlen10 hlen11 hlen12
      obtain ⟨g0, hs0, hg0, cs0, -, hk0, hc0⟩ := hJ.made ⟨10, 11, 52, #[.int .i64 (g1 : Int), .int .i64 (g2 : Int)]⟩ (by simp) (hall 10 (of_decide_eq_true (by kernel_rfl)))
      obtain rfl : cs0 = #[.int .i64 (g1 : Int), .int .i64 (g2 : Int)] := hc0 (hall 11 (of_decide_eq_true (by kernel_rfl)))
      have d0 : x0 = .agg #[.string name, .slice ua bl.length uc, .slice ta ml.length tc, .int .i64 cover, .int .i64 agg, .int .i64 poker] := hJ.val 0 (show 0 < 13 by decide) (by decide) (hall 0 (of_decide_eq_true (by kernel_rfl)))
      have d1 : x1 = .slice (some ⟨b9, off9, none⟩) [b].length vc := hJ.val 1 (show 1 < 13 by decide) (by decide) (hall 1 (of_decide_eq_true (by kernel_rfl)))
      have d2 : x2 = .slice ra ([] : List Rn).length rc := hJ.val 2 (show 2 < 13 by decide) (by decide) (hall 2 (of_decide_eq_true (by kernel_rfl)))
      have d3 : x3 = .int .i64 0 := hJ.val 3 (show 3 < 13 by decide) (by decide) (hall 3 (of_decide_eq_true (by kernel_rfl)))
      have d4 : x4 = .slice ra 0 rc := hJ.val 4 (show 4 < 13 by decide) (by decide) (hall 4 (of_decide_eq_true (by kernel_rfl)))
      have d5 : x5 = .int .i64 x := hJ.val 5 (show 5 < 13 by decide) (by decide) (hall 5 (of_decide_eq_true (by kernel_rfl)))
      have d6 : x6 = .tuple #[.agg #[.int .i64 (g1 : Int), .int .i64 (g2 : Int)], .int .i64 0] := hJ.val 6 (show 6 < 13 by decide) (by decide) (hall 6 (of_decide_eq_true (by kernel_rfl)))
      have d7 : x7 = .tuple #[.agg #[.int .i64 (g1 : Int), .int .i64 (g2 : Int)], .int .i64 0] := hJ.val 7 (show 7 < 13 by decide) (by decide) (hall 7 (of_decide_eq_true (by kernel_rfl)))
      have d8 : x8 = .agg #[.int .i64 (g1 : Int), .int .i64 (g2 : Int)] := hJ.val 8 (show 8 < 13 by decide) (by decide) (hall 8 (of_decide_eq_true (by kernel_rfl)))
      have d9 : x9 = .int .i64 0 := hJ.val 9 (show 9 < 13 by decide) (by decide) (hall 9 (of_decide_eq_true (by kernel_rfl)))
      have d12 : x12 = .int .i64 0 := hJ.val 12 (show 12 < 13 by decide) (by decide) (hall 12 (of_decide_eq_true (by kernel_rfl)))
      have e0 : x10 = .pointer (some ⟨g0, 0, none⟩) := hs0
      have hbel := hJ.below
      clear hJ hall hs0 hc0
      subst d0 d1 d2 d3 d4 d5 d6 d7 d8 d9 d12 e0
      simp only [putAll_cons, putAll_nil, put_some, put_none, List.setIfInBounds_toArray, List.set_cons_succ, List.set_cons_zero]
      have HBW := Lib.hid hbel
      have HK0 := Lib.hid hk0
      clear hbel hk0 hg0
      go_wp2_with fail
      go_meet
      exact ⟨g0, rfl, rfl, ⟨(HK0.out.cell 0).trans rfl, (HK0.out.cell 1).trans rfl⟩, HBW.out⟩
  case rest =>
    obtain ⟨ga, rfl, rfl, hfa, hbl⟩ := hcut
    obtain ⟨W2, rfl⟩ : ∃ W : World, W = wc := ⟨_, rfl⟩
    obtain ⟨z, ez⟩ := ext_of hbl
    have HB2 := Lib.hid (HB1.out.trans (hbl.mono HB1.out.size))
    have HM2 := Lib.hid (show MAt21 W2 w.heap.size name (.slice ua bl.length uc) (.slice ta ml.length tc) cover agg poker by rw [ez]; exact HM1.out.ext z)
    have HS2 := Lib.hid (show FqAt W2 gs (f1 : Int) (f2 : Int) by rw [ez]; exact HS1.out.ext z)
    have HA2 := Lib.hid hfa
    clear hfa hbl ez HB1 HM1 HS1
    go_wp2_with fail
    go_cut [16, 17] (fun s16 s17 wx => ∃ g, s16 = .pointer (some ⟨g, 0, none⟩) ∧ s17 = .int .i64 0 ∧ FqAt wx g (k1 : Int) (k2 : Int) ∧ Below W2.heap.size W2 wx)
    case first =>
      have hok : mkOk [10, 11] [⟨10, 11, 52, #[.int .i64 (k1 : Int), .int .i64 (k2 : Int)]⟩] := mkOk_one (by decide)
      refine wp_region_M [.agg #[.string name, .slice ua bl.length uc, .slice ta ml.length tc, .int .i64 cover, .int .i64 agg, .int .i64 poker], .slice (some ⟨b9, off9, none⟩) [b].length vc, .slice ra ([] : List Rn).length rc, .int .i64 0, .slice ra 0 rc, .int .i64 x, .tuple #[.agg #[.int .i64 (k1 : Int), .int .i64 (k2 : Int)], .int .i64 0], .tuple #[.agg #[.int .i64 (k1 : Int), .int .i64 (k2 : Int)], .int .i64 0], .agg #[.int .i64 (k1 : Int), .int .i64 (k2 : Int)], .int .i64 0, undef, undef, .int .i64 0] [10, 11] [⟨10, 11, 52, #[.int .i64 (k1 : Int), .int .i64 (k2 : Int)]⟩] (by kernel_rfl) (by kernel_rfl) ?_ ?_ ?_
      · intro b hb
        simp only [List.mem_cons, List.not_mem_nil, or_false] at hb
        rcases hb with rfl
        all_goals exact ⟨of_decide_eq_true (by kernel_rfl), of_decide_eq_true (by kernel_rfl)⟩
      · intro L vs W i hlen hJ hi
        obtain ⟨x0, vs0, rfl, hlen0⟩ := len_cons hlen
        obtain ⟨x1, vs1, rfl, hlen1⟩ := len_cons hlen0
        obtain ⟨x2, vs2, rfl, hlen2⟩ := len_cons hlen1
        obtain ⟨x3, vs3, rfl, hlen3⟩ := len_cons hlen2
        obtain ⟨x4, vs4, rfl, hlen4⟩ := len_cons hlen3
        obtain ⟨x5, vs5, rfl, hlen5⟩ := len_cons hlen4
        obtain ⟨x6, vs6, rfl, hlen6⟩ := len_cons hlen5
        obtain ⟨x7, vs7, rfl, hlen7⟩ := len_cons hlen6
        obtain ⟨x8, vs8, rfl, hlen8⟩ := len_cons hlen7
        obtain ⟨x9, vs9, rfl, hlen9⟩ := len_cons hlen8
        obtain ⟨x10, vs10, rfl, hlen10⟩ := len_cons hlen9
        obtain ⟨x11, vs11, rfl, hlen11⟩ := len_cons hlen10
        obtain ⟨x12, vs12, rfl, hlen12⟩ := len_cons hlen11
        obtain rfl := len_nil hlen12
        clear hlen hlen0 hlen1 hlen2 hlen3 hlen4 hlen5 hlen6 hlen7 hlen8 hlen9 hlen10 hlen11 hlen12
        obtain ⟨hun, o, ho, hd⟩ := mem_ready.1 hi
        have hin : i < 13 := by have := (Array.getElem?_eq_some_iff.1 ho).1; simpa using this
        refine wpOp_free (B := fun a' W' => ∃ x0 x1 x2 x3 x4 x5 x6 x7 x8 x9 x10 x11 x12, a' = putAll _ [x0, x1, x2, x3, x4, x5, x6, x7, x8, x9, x10, x11, x12] _ ∧ InvM _ _ _ _ [x0, x1, x2, x3, x4, x5, x6, x7, x8, x9, x10, x11, x12] (L.setIfInBounds i true) W') (fun _ _ h => by obtain ⟨x0, x1, x2, x3, x4, x5, x6, x7, x8, x9, x10, x11, x12, h1, h2⟩ := h; exact ⟨[x0, x1, x2, x3, x4, x5, x6, x7, x8, x9, x10, x11, x12], rfl, h1, h2⟩) ?_
        intro K HK
        simp only [putAll_cons, putAll_nil, put_some, put_none, List.setIfInBounds_toArray, List.set_cons_succ, List.set_cons_zero] at HK ⊢
        have HOK := Lib.hid hok
        clear hok
        obtain ⟨z, ez⟩ := ext_of hJ.below
        have hm := HM2.out.ext z
        rw [← ez] at hm
        obtain ⟨m0, m1, m2, m3, m4, m5⟩ := hm
        have HBJ := Lib.hid (HB2.out.trans (hJ.below.mono HB2.out.size))
        clear ez
        rcases (show i = 0 ∨ i = 1 ∨ i = 2 ∨ i = 3 ∨ i = 4 ∨ i = 5 ∨ i = 6 ∨ i = 7 ∨ i = 8 ∨ i = 9 ∨ i = 10 ∨ i = 11 ∨ i = 12 by omega) with rfl | rfl | rfl | rfl | rfl | rfl | rfl | rfl | rfl | rfl | rfl | rfl | rfl
        · obtain rfl := Option.some.inj ho
          refine wpOp_of_list (by rfl) ?_
          go_wp2
          exact HK.out _ _ ⟨_, _, _, _, _, _, _, _, _, _, _, _, _, rfl, hJ.up HOK.out 0 (by decide) (show 0 < 13 by decide) rfl⟩
        · obtain rfl := Option.some.inj ho
          refine wpOp_of_list (by rfl) ?_
          go_wp2
          exact HK.out _ _ ⟨_, _, _, _, _, _, _, _, _, _, _, _, _, rfl, hJ.up HOK.out 1 (by decide) (show 1 < 13 by decide) rfl⟩
        · obtain rfl := Option.some.inj ho
          refine wpOp_of_list (by rfl) ?_
          go_wp2
          exact HK.out _ _ ⟨_, _, _, _, _, _, _, _, _, _, _, _, _, rfl, hJ.up HOK.out 2 (by decide) (show 2 < 13 by decide) rfl⟩
        · obtain rfl := Option.some.inj ho
          refine wpOp_of_list (by rfl) ?_
          go_wp2
          exact HK.out _ _ ⟨_, _, _, _, _, _, _, _, _, _, _, _, _, rfl, hJ.up HOK.out 3 (by decide) (show 3 < 13 by decide) rfl⟩
        · obtain rfl := Option.some.inj ho
          have d2 : x2 = .slice ra ([] : List Rn).length rc := hJ.val 2 (show 2 < 13 by decide) (by decide) (getD_upJ (hd ⟨2, .data⟩ (by simp) (by rfl)))
          have d3 : x3 = .int .i64 0 := hJ.val 3 (show 3 < 13 by decide) (by decide) (getD_upJ (hd ⟨3, .data⟩ (by simp) (by rfl)))
          subst d2 d3
          refine wpOp_of_list (by rfl) ?_
          go_wp2
          exact HK.out _ _ ⟨_, _, _, _, _, _, _, _, _, _, _, _, _, rfl, hJ.up HOK.out 4 (by decide) (show 4 < 13 by decide) rfl⟩
        · obtain rfl := Option.some.inj ho
          refine wpOp_of_list (by rfl) ?_
          go_wp2
          exact HK.out _ _ ⟨_, _, _, _, _, _, _, _, _, _, _, _, _, rfl, hJ.up HOK.out 5 (by decide) (show 5 < 13 by decide) rfl⟩
        · obtain rfl := Option.some.inj ho
          have d0 : x0 = .agg #[.string name, .slice ua bl.length uc, .slice ta ml.length tc, .int .i64 cover, .int .i64 agg, .int .i64 poker] := hJ.val 0 (show 0 < 13 by decide) (by decide) (getD_upJ (hd ⟨0, .data⟩ (by simp) (by rfl)))
          have d1 : x1 = .slice (some ⟨b9, off9, none⟩) [b].length vc := hJ.val 1 (show 1 < 13 by decide) (by decide) (getD_upJ (hd ⟨1, .data⟩ (by simp) (by rfl)))
          have d4 : x4 = .slice ra 0 rc := hJ.val 4 (show 4 < 13 by decide) (by decide) (getD_upJ (hd ⟨4, .data⟩ (by simp) (by rfl)))
          have d5 : x5 = .int .i64 x := hJ.val 5 (show 5 < 13 by decide) (by decide) (getD_upJ (hd ⟨5, .data⟩ (by simp) (by rfl)))
          subst d0 d1 d4 d5
          refine wpOp_of_list (by rfl) ?_
          go_wp2_with fail
          go_at_call 16; refine (HSH2.out _ _ (HQ.out.below HBJ.out) (HL.out.below HBJ.out) (HR.out.below HBJ.out)).mono ?_; rintro e w' ⟨rfl, xq, rfl⟩
          go_wp2
          exact HK.out _ _ ⟨_, _, _, _, _, _, _, _, _, _, _, _, _, rfl, (hJ.grow _).up HOK.out 6 (by decide) (show 6 < 13 by decide) rfl⟩
        · obtain rfl := Option.some.inj ho
          have d6 : x6 = .tuple #[.agg #[.int .i64 (k1 : Int), .int .i64 (k2 : Int)], .int .i64 0] := hJ.val 6 (show 6 < 13 by decide) (by decide) (getD_upJ (hd ⟨6, .data⟩ (by simp) (by rfl)))
          subst d6
          refine wpOp_of_list (by rfl) ?_
          go_wp2
          exact HK.out _ _ ⟨_, _, _, _, _, _, _, _, _, _, _, _, _, rfl, hJ.up HOK.out 7 (by decide) (show 7 < 13 by decide) rfl⟩
        · obtain rfl := Option.some.inj ho
          have d7 : x7 = .tuple #[.agg #[.int .i64 (k1 : Int), .int .i64 (k2 : Int)], .int .i64 0] := hJ.val 7 (show 7 < 13 by decide) (by decide) (getD_upJ (hd ⟨7, .data⟩ (by simp) (by rfl)))
          subst d7
          refine wpOp_of_list (by rfl) ?_
          go_wp2
          exact HK.out _ _ ⟨_, _, _, _, _, _, _, _, _, _, _, _, _, rfl, hJ.up HOK.out 8 (by decide) (show 8 < 13 by decide) rfl⟩
        · obtain rfl := Option.some.inj ho
          have d7 : x7 = .tuple #[.agg #[.int .i64 (k1 : Int), .int .i64 (k2 : Int)], .int .i64 0] := hJ.val 7 (show 7 < 13 by decide) (by decide) (getD_upJ (hd ⟨7, .data⟩ (by simp) (by rfl)))
          subst d7
          refine wpOp_of_list (by rfl) ?_
          go_wp2
          exact HK.out _ _ ⟨_, _, _, _, _, _, _, _, _, _, _, _, _, rfl, hJ.up HOK.out 9 (by decide) (show 9 < 13 by decide) rfl⟩
        · obtain rfl := Option.some.inj ho
          refine wpOp_of_list (by rfl) ?_
          go_wp2
          exact HK.out _ _ ⟨_, _, _, _, _, _, _, _, _, _, _, _, _, rfl, hJ.make HOK.out ⟨10, 11, 52, #[.int .i64 (k1 : Int), .int .i64 (k2 : Int)]⟩ (by simp) (show 10 < 13 by decide) hun #[.int .i64 0, .int .i64 0] rfl rfl⟩
        · obtain rfl := Option.some.inj ho
          have d8 : x8 = .agg #[.int .i64 (k1 : Int), .int .i64 (k2 : Int)] := hJ.val 8 (show 8 < 13 by decide) (by decide) (getD_upJ (hd ⟨8, .data⟩ (by simp) (by rfl)))
          have hka := getD_upJ (hd ⟨10, .data⟩ (by simp) (by rfl))
          obtain ⟨gq, hs, hg, cs, hcs, hb, -⟩ := hJ.made ⟨10, 11, 52, #[.int .i64 (k1 : Int), .int .i64 (k2 : Int)]⟩ (by simp) hka
          have hs2 : x10 = .pointer (some ⟨gq, 0, none⟩) := hs
          obtain ⟨qa0, qh0⟩ : ∃ a, cs[0]? = some a := ⟨_, Array.getElem?_eq_getElem (by rw [hcs]; exact (show 0 < 2 by decide))⟩
          obtain ⟨qa1, qh1⟩ : ∃ a, cs[1]? = some a := ⟨_, Array.getElem?_eq_getElem (by rw [hcs]; exact (show 1 < 2 by decide))⟩
          have qf0 : W.frozen? ⟨gq, 0, none⟩ = false := hb.frozen 0
          have qg0 : W.cell? ⟨gq, 0, none⟩ = some qa0 := (hb.cell 0).trans qh0
          have qf1 : W.frozen? ⟨gq, 1, none⟩ = false := hb.frozen 1
          have qg1 : W.cell? ⟨gq, 1, none⟩ = some qa1 := (hb.cell 1).trans qh1
          subst d8
          subst hs2
          refine wpOp_of_list (by rfl) ?_
          go_wp2
          refine HK.out _ _ ⟨_, _, _, _, _, _, _, _, _, _, _, _, _, rfl, hJ.fill HOK.out ⟨10, 11, 52, #[.int .i64 (k1 : Int), .int .i64 (k2 : Int)]⟩ (by simp) hka hs hg ((hJ.below.setCell hg _).setCell hg _) (fun k hk => by rw [Below.heap_setCell _ _ _ _ hk, Below.heap_setCell _ _ _ _ hk]) ?_⟩
          show Blk _ gq #[.int .i64 (k1 : Int), .int .i64 (k2 : Int)] _
          rw [← fill2 (a := .int .i64 (k1 : Int)) (b := .int .i64 (k2 : Int)) hcs]
          exact ((hb.set 0 _).set 1 _)
        · obtain rfl := Option.some.inj ho
          have d9 : x9 = .int .i64 0 := hJ.val 9 (show 9 < 13 by decide) (by decide) (getD_upJ (hd ⟨9, .data⟩ (by simp) (by rfl)))
          subst d9
          refine wpOp_of_list (by rfl) ?_
          go_wp2
          exact HK.out _ _ ⟨_, _, _, _, _, _, _, _, _, _, _, _, _, rfl, hJ.up HOK.out 12 (by decide) (show 12 < 13 by decide) rfl⟩
      · intro vs L W hlen hJ hall
        clear hok
        obtain ⟨x0, vs0, rfl, hlen0⟩ := len_cons hlen
        obtain ⟨x1, vs1, rfl, hlen1⟩ := len_cons hlen0
        obtain ⟨x2, vs2, rfl, hlen2⟩ := len_cons hlen1
        obtain ⟨x3, vs3, rfl, hlen3⟩ := len_cons hlen2
        obtain ⟨x4, vs4, rfl, hlen4⟩ := len_cons hlen3
        obtain ⟨x5, vs5, rfl, hlen5⟩ := len_cons hlen4
        obtain ⟨x6, vs6, rfl, hlen6⟩ := len_cons hlen5
        obtain ⟨x7, vs7, rfl, hlen7⟩ := len_cons hlen6
        obtain ⟨x8, vs8, rfl, hlen8⟩ := len_cons hlen7
        obtain ⟨x9, vs9, rfl, hlen9⟩ := len_cons hlen8
        obtain ⟨x10, vs10, rfl, hlen10⟩ := len_cons hlen9
        obtain ⟨x11, vs11, rfl, hlen11⟩ := len_cons hlen10
        obtain ⟨x12, vs12, rfl, hlen12⟩ := len_cons hlen11
        obtain rfl := len_nil hlen12
        clear hlen hlen0 hlen1 hlen2 hlen3 hlen4 hlen5 hlen6 hlen7 hlen8 hlen9 hlen10 hlen11 hlen12
        obtain ⟨g0, hs0, hg0, cs0, -, hk0, hc0⟩ := hJ.made ⟨10, 11, 52, #[.int .i64 (k1 : Int), .int .i64 (k2 : Int)]⟩ (by simp) (hall 10 (of_decide_eq_true (by kernel_rfl)))
        obtain rfl : cs0 = #[.int .i64 (k1 : Int), .int .i64 (k2 : Int)] := hc0 (hall 11 (of_decide_eq_true (by kernel_rfl)))
        have d0 : x0 = .agg #[.string name, .slice ua bl.length uc, .slice ta ml.length tc, .int .i64 cover, .int .i64 agg, .int .i64 poker] := hJ.val 0 (show 0 < 13 by decide) (by decide) (hall 0 (of_decide_eq_true (by kernel_rfl)))
        have d1 : x1 = .slice (some ⟨b9, off9, none⟩) [b].length vc := hJ.val 1 (show 1 < 13 by decide) (by decide) (hall 1 (of_decide_eq_true (by kernel_rfl)))
        have d2 : x2 = .slice ra ([] : List Rn).length rc := hJ.val 2 (show 2 < 13 by decide) (by decide) (hall 2 (of_decide_eq_true (by kernel_rfl)))
        have d3 : x3 = .int .i64 0 := hJ.val 3 (show 3 < 13 by decide) (by decide) (hall 3 (of_decide_eq_true (by kernel_rfl)))
        have d4 : x4 = .slice ra 0 rc := hJ.val 4 (show 4 < 13 by decide) (by decide) (hall 4 (of_decide_eq_true (by kernel_rfl)))
        have d5 : x5 = .int .i64 x := hJ.val 5 (show 5 < 13 by decide) (by decide) (hall 5 (of_decide_eq_true (by kernel_rfl)))
        have d6 : x6 = .tuple #[.agg #[.int .i64 (k1 : Int), .int .i64 (k2 : Int)], .int .i64 0] := hJ.val 6 (show 6 < 13 by decide) (by decide) (hall 6 (of_decide_eq_true (by kernel_rfl)))
        have d7 : x7 = .tuple #[.agg #[.int .i64 (k1 : Int), .int .i64 (k2 : Int)], .int .i64 0] := hJ.val 7 (show 7 < 13 by decide) (by decide) (hall 7 (of_decide_eq_true (by kernel_rfl)))
        have d8 : x8 = .agg #[.int .i64 (k1 : Int), .int .i64 (k2 : Int)] := hJ.val 8 (show 8 < 13 by decide) (by decide) (hall 8 (of_decide_eq_true (by kernel_rfl)))
        have d9 : x9 = .int .i64 0 := hJ.val 9 (show 9 < 13 by decide) (by decide) (hall 9 (of_decide_eq_true (by kernel_rfl)))
        have d12 : x12 = .int .i64 0 := hJ.val 12 (show 12 < 13 by decide) (by decide) (hall 12 (of_decide_eq_true (by kernel_rfl)))
        have e0 : x10 = .pointer (some ⟨g0, 0, none⟩) := hs0
        have hbel := hJ.below
        clear hJ hall hs0 hc0
        subst d0 d1 d2 d3 d4 d5 d6 d7 d8 d9 d12 e0
        simp only [putAll_cons, putAll_nil, put_some, put_none, List.setIfInBounds_toArray, List.set_cons_succ, List.set_cons_zero]
        have HBW := Lib.hid hbel
        have HK0 := Lib.hid hk0
        clear hbel hk0 hg0
        go_wp2_with fail
        go_meet
        exact ⟨g0, rfl, rfl, ⟨(HK0.out.cell 0).trans rfl, (HK0.out.cell 1).trans rfl⟩, HBW.out⟩
    case rest =>
      obtain ⟨gb, rfl, rfl, hfb, hbl⟩ := hcut
      obtain ⟨W3, rfl⟩ : ∃ W : World, W = wc := ⟨_, rfl⟩
      obtain ⟨z, ez⟩ := ext_of hbl
      have HB3 := Lib.hid (HB2.out.trans (hbl.mono HB2.out.size))
      obtain ⟨m0, m1, m2, m3, m4, m5⟩ := (show MAt21 W3 w.heap.size name (.slice ua bl.length uc) (.slice ta ml.length tc) cover agg poker by rw [ez]; exact HM2.out.ext z)
      obtain ⟨ks0, ks1⟩ := (show FqAt W3 gs (f1 : Int) (f2 : Int) by rw [ez]; exact HS2.out.ext z)
      obtain ⟨ka0, ka1⟩ := (show FqAt W3 ga (g1 : Int) (g2 : Int) by rw [ez]; exact HA2.out.ext z)
      obtain ⟨kb0, kb1⟩ := hfb
      clear hbl ez HB2 HM2 HS2 HA2
      obtain ⟨z0, ez0⟩ := ext_of HB3.out
      have kb3 := cell_ext_some kb z0
      rw [← ez0] at kb3
      clear ez0 kb
      go_wp2_with fail
      go_at_call 25; refine (HSE.out _ ((HQ.out.below HB3.out).boxes.below (by (repeat (first | exact grow_refl _ | refine grow_ext _ ?_ | refine grow_alloc _ ?_ | refine grow_drew ?_)))) ((HQ.out.below HB3.out).holes.below (by (repeat (first | exact grow_refl _ | refine grow_ext _ ?_ | refine grow_alloc _ ?_ | refine grow_drew ?_))))).mono ?_; rintro e w' ⟨rfl, x5, rfl⟩
      go_wp2_with fail
      go_at_call 26; refine (HAD.out _).mono ?_; rintro e w' ⟨rfl, x6, rfl⟩
      go_wp2_with fail
      go_at_call 8; refine (HRW.out _ ((HL.out.below HB3.out).below (by (repeat (first | exact grow_refl _ | refine grow_ext _ ?_ | refine grow_alloc _ ?_ | refine grow_drew ?_)))) ((HR.out.below HB3.out).below (by (repeat (first | exact grow_refl _ | refine grow_ext _ ?_ | refine grow_alloc _ ?_ | refine grow_drew ?_))))).mono ?_; rintro e w' ⟨a7, c7, rfl, j1, j2, x7, rfl⟩
      go_wp2_with fail
      go_at_call 27; refine (HAE.out _).mono ?_; rintro e w' ⟨rfl, x8, rfl⟩
      go_wp2_with fail
      go_at_call 28; refine (HMK.out _).mono ?_; rintro e w' ⟨rfl, x9, rfl⟩
      go_wp2
      go_ret
      exact Ret.of (HB3.out.trans (Below.mono (by (repeat (first | exact grow_refl _ | refine grow_ext _ ?_ | refine grow_alloc _ ?_ | refine grow_drew ?_))) HB3.out.size))


theorem lawGapsShares_c (q : Mb) (l : List Br) (v : Value) (rs : List Rn) (u : Value) (x qc : Int) (_ : -9223372036854775808 ≤ x ∧ x ≤ 9223372036854775807) (hc : 0 ≤ qc ∧ qc ≤ 255) (w : World) (hq : MbAt w q) (hl : Bars w v l) (hr : Runs w u rs) :
    Calls Tryz.prog 5 #[(.agg #[.string q.name, q.u, q.t, .int .i64 q.cover, .int .i64 q.agg, .int .i64 q.poker]), v, u, .int .i64 x, .int .u8 qc] w (Ret w (.bool true)) := by
  by_cases hvx : laidB l rs = true ∧ -1048576 ≤ x ∧ x ≤ 1048576
  case neg => exact lawShr_o q l rs v u x qc hc hvx w hq hl hr
  obtain ⟨hv, hx0, hx1⟩ := hvx
  have hx : inI x (-1048576) 1048576 = true := by unfold inI; simp; omega
  cases h4 : smallB q.l.length q.m.length 4
  · exact lawShr_a q l rs v u x qc hc h4 w hq hl hr
  by_cases hn : q.name.size ≤ 60
  case neg => exact lawShr_b q l rs v u x qc hc h4 (by omega) w hq hl hr
  cases hb : memB q
  · exact lawShr_c q l rs v u x qc hc h4 hn hb w hq hl hr
  by_cases he : rs = []
  · by_cases h0 : sectI q.l q.m x = 0
    · exact lawShr_4 q l rs v u x qc hc h4 hn hb hv hx he h0 w hq hl hr
    · by_cases h1 : l.length = 1
      · exact lawShr_6 q l rs v u x qc hc h4 hn hb hv hx he h0 h1 w hq hl hr
      · exact lawShr_5 q l rs v u x qc hc h4 hn hb hv hx he h0 h1 w hq hl hr
  · have he := List.length_pos_iff.2 he
    by_cases h0 : sectI q.l q.m x = 0
    · exact lawShr_1 q l rs v u x qc hc h4 hn hb hv hx he h0 w hq hl hr
    · by_cases h1 : l.length = 1
      · exact lawShr_3 q l rs v u x qc hc h4 hn hb hv hx he h0 h1 w hq hl hr
      · exact lawShr_2 q l rs v u x qc hc h4 hn hb hv hx he h0 h1 w hq hl hr

end Go.Proofs.YtofjopdcbmaijaaGreat
