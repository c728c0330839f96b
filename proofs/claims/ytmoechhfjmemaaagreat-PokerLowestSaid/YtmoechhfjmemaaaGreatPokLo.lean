/- PokerLowest: the walk of the law. Printed by mkpoklo.py. -/
import Derived.Test.YtmoechhfjmemaaaGreatPokX
import Derived.Test.YtmoechhfjmemaaaGreatPokM
namespace Go.Proofs.YtmoechhfjmemaaaGreat
open Go.RowKit
set_option maxRecDepth 20000

theorem mul_tmod0 {lo x st : Int} {a : Nat} (h : x = lo + (a : Int) * st) : (x - lo).tmod st = 0 := by
  rw [show x - lo = (a : Int) * st by omega]
  exact Int.mul_tmod_left _ _
theorem low_at {q : Mb} {R : List Rc} {st : Int} (hm : okMb q = true) (h1 : 1 ≤ st) {p : Pt} (hp : p ∈ gridP q R st) :
    NearP p 1048576 ∧ p.z ≤ topI q ∧ (p.x - (hullX q.l).lx).tmod st = 0 ∧ (p.y - (hullX q.l).ly).tmod st = 0 ∧ (p.z - (hullX q.l).lz).tmod st = 0 ∧ freeR q R p = true ∧ ((hullX q.l).lz ≤ p.z - st → freeR q R ⟨p.x, p.y, p.z - st⟩ = false) := by
  obtain ⟨x, hx, y, hy, hl⟩ := places_mem.1 hp
  obtain ⟨k, hk, rfl, hf, hno⟩ := lowest_mem.1 hl
  obtain ⟨-, hn, ht⟩ := tip_grid hm h1 x hx y hy _ (List.getElem_mem hk)
  obtain ⟨a, -, ex⟩ := grid_iff.1 hx
  obtain ⟨b, -, ey⟩ := grid_iff.1 hy
  have ez := gridL_get (hullX q.l).lz (hullX q.l).hz st k hk
  refine ⟨near_iff.1 hn, ht, mul_tmod0 ex, mul_tmod0 ey, mul_tmod0 ez, hf, fun hge => ?_⟩
  have hk0 : k ≠ 0 := by
    intro e
    subst e
    simp only at hge ez
    omega
  have := hno (k - 1) (by omega)
  rw [gridL_get] at this
  have e2 : (hullX q.l).lz + ((k - 1 : Nat) : Int) * st = (gridL (hullX q.l).lz (hullX q.l).hz st)[k] - st := by
    rw [ez, show ((k - 1 : Nat) : Int) = (k : Int) - 1 by omega, Int.sub_mul]; omega
  rw [e2] at this
  exact this
theorem places_next {q : Mb} {R : List Rc} {st : Int} (h1 : 1 ≤ st) {i : Nat} (hi : i + 1 < (gridP q R st).length) : (gridP q R st)[i].x < (gridP q R st)[i + 1].x ∨ (gridP q R st)[i].x = (gridP q R st)[i + 1].x ∧ (gridP q R st)[i].y < (gridP q R st)[i + 1].y :=
  List.pairwise_iff_getElem.1 (show (gridP q R st).Pairwise (fun p p' => p.x < p'.x ∨ p.x = p'.x ∧ p.y < p'.y) from places_order (grid_inc _ _ st h1) (grid_inc _ _ st h1)) i (i + 1) (by omega) hi (by omega)

set_option maxRecDepth 100000 in
set_option maxHeartbeats 8000000 in
theorem lawPL_ef (q : Mb) (l : List Br) (rs : List Rn) (v u : Value) (st : Int) (E : Int) (he : (E != 0) = true) (hm : okMb q = false) (h : placesE q l rs st = ([], E)) (w : World) (hq : MbAt w q) (hl : Bars w v l) (hr : Runs w u rs) :
    Calls Tryz.prog 6 #[(.agg #[.string q.name, q.u, q.t, .int .i64 q.cover, .int .i64 q.agg, .int .i64 q.poker]), v, u, .int .i64 st] w (Ret w (.bool true)) := by
  have HQ := Lib.hid hq
  have HL := Lib.hid hl
  have HR := Lib.hid hr
  have HM := Lib.hid (fun w hl hm' => refMember_v q.name q.l q.m q.u q.t q.cover q.agg q.poker false hm hq.name w hl hm')
  have HP := Lib.hid (fun w hq hl hr => pPlaces_c q l rs v u st _ _ h w hq hl hr)
  clear hq hl hr hm h
  go_enter Tryz.func6, Tryz.ntmps6
  go_wp2_with fail
  go_at_call 11; refine (awake22_c _).mono ?_; rintro e w' ⟨rfl, x0, rfl⟩
  go_wp2_with fail
  go_at_call 12; refine (few22_c q l rs v u _ (HQ.out.below (by (repeat (first | exact grow_refl _ | refine grow_ext _ ?_ | refine grow_alloc _ ?_ | refine grow_drew ?_)))) (HL.out.below (by (repeat (first | exact grow_refl _ | refine grow_ext _ ?_ | refine grow_alloc _ ?_ | refine grow_drew ?_)))) (HR.out.below (by (repeat (first | exact grow_refl _ | refine grow_ext _ ?_ | refine grow_alloc _ ?_ | refine grow_drew ?_))))).mono ?_; rintro e w' ⟨q0, rfl, x1, rfl⟩
  cases q0
  · go_wp2
    go_ret
    exact Ret.of (by (repeat (first | exact grow_refl _ | refine grow_ext _ ?_ | refine grow_alloc _ ?_ | refine grow_drew ?_)))
  go_wp2_with fail
  go_at_call 15; refine (HM.out _ (HQ.out.boxes.below (by (repeat (first | exact grow_refl _ | refine grow_ext _ ?_ | refine grow_alloc _ ?_ | refine grow_drew ?_)))) (HQ.out.holes.below (by (repeat (first | exact grow_refl _ | refine grow_ext _ ?_ | refine grow_alloc _ ?_ | refine grow_drew ?_))))).mono ?_; rintro e w' ⟨rfl, x2, rfl⟩
  go_wp2_with fail
  go_at_call 31; refine (HP.out _ (HQ.out.below (by (repeat (first | exact grow_refl _ | refine grow_ext _ ?_ | refine grow_alloc _ ?_ | refine grow_drew ?_)))) (HL.out.below (by (repeat (first | exact grow_refl _ | refine grow_ext _ ?_ | refine grow_alloc _ ?_ | refine grow_drew ?_)))) (HR.out.below (by (repeat (first | exact grow_refl _ | refine grow_ext _ ?_ | refine grow_alloc _ ?_ | refine grow_drew ?_))))).mono ?_; rintro e w' hret
  obtain ⟨ap, cp, rfl, kp, x4, rfl⟩ := hret.open0
  go_wp2
  go_ret
  exact Ret.of (by (repeat (first | exact grow_refl _ | refine grow_ext _ ?_ | refine grow_alloc _ ?_ | refine grow_drew ?_)))

set_option maxRecDepth 100000 in
set_option maxHeartbeats 8000000 in
theorem lawPL_et (q : Mb) (l : List Br) (rs : List Rn) (v u : Value) (st : Int) (E : Int) (he : (E != 0) = true) (hm : okMb q = true) (h : placesE q l rs st = ([], E)) (w : World) (hq : MbAt w q) (hl : Bars w v l) (hr : Runs w u rs) :
    Calls Tryz.prog 6 #[(.agg #[.string q.name, q.u, q.t, .int .i64 q.cover, .int .i64 q.agg, .int .i64 q.poker]), v, u, .int .i64 st] w (Ret w (.bool true)) := by
  have HQ := Lib.hid hq
  have HL := Lib.hid hl
  have HR := Lib.hid hr
  have HM := Lib.hid (fun w hl hm' => refMember_v q.name q.l q.m q.u q.t q.cover q.agg q.poker true hm hq.name w hl hm')
  have HLG := Lib.hid (fun w hq => large22_c q st hm w hq)
  have HP := Lib.hid (fun w hq hl hr => pPlaces_c q l rs v u st _ _ h w hq hl hr)
  clear hq hl hr hm h
  go_enter Tryz.func6, Tryz.ntmps6
  go_wp2_with fail
  go_at_call 11; refine (awake22_c _).mono ?_; rintro e w' ⟨rfl, x0, rfl⟩
  go_wp2_with fail
  go_at_call 12; refine (few22_c q l rs v u _ (HQ.out.below (by (repeat (first | exact grow_refl _ | refine grow_ext _ ?_ | refine grow_alloc _ ?_ | refine grow_drew ?_)))) (HL.out.below (by (repeat (first | exact grow_refl _ | refine grow_ext _ ?_ | refine grow_alloc _ ?_ | refine grow_drew ?_)))) (HR.out.below (by (repeat (first | exact grow_refl _ | refine grow_ext _ ?_ | refine grow_alloc _ ?_ | refine grow_drew ?_))))).mono ?_; rintro e w' ⟨q0, rfl, x1, rfl⟩
  cases q0
  · go_wp2
    go_ret
    exact Ret.of (by (repeat (first | exact grow_refl _ | refine grow_ext _ ?_ | refine grow_alloc _ ?_ | refine grow_drew ?_)))
  go_wp2_with fail
  go_at_call 15; refine (HM.out _ (HQ.out.boxes.below (by (repeat (first | exact grow_refl _ | refine grow_ext _ ?_ | refine grow_alloc _ ?_ | refine grow_drew ?_)))) (HQ.out.holes.below (by (repeat (first | exact grow_refl _ | refine grow_ext _ ?_ | refine grow_alloc _ ?_ | refine grow_drew ?_))))).mono ?_; rintro e w' ⟨rfl, x2, rfl⟩
  go_wp2_with fail
  go_at_call 30; refine (HLG.out _ (HQ.out.below (by (repeat (first | exact grow_refl _ | refine grow_ext _ ?_ | refine grow_alloc _ ?_ | refine grow_drew ?_))))).mono ?_; rintro e w' ⟨b0, rfl, x3, rfl⟩
  cases b0
  case true =>
    go_wp2
    go_ret
    exact Ret.of (by (repeat (first | exact grow_refl _ | refine grow_ext _ ?_ | refine grow_alloc _ ?_ | refine grow_drew ?_)))
  go_wp2_with fail
  go_at_call 31; refine (HP.out _ (HQ.out.below (by (repeat (first | exact grow_refl _ | refine grow_ext _ ?_ | refine grow_alloc _ ?_ | refine grow_drew ?_)))) (HL.out.below (by (repeat (first | exact grow_refl _ | refine grow_ext _ ?_ | refine grow_alloc _ ?_ | refine grow_drew ?_)))) (HR.out.below (by (repeat (first | exact grow_refl _ | refine grow_ext _ ?_ | refine grow_alloc _ ?_ | refine grow_drew ?_))))).mono ?_; rintro e w' hret
  obtain ⟨ap, cp, rfl, kp, x4, rfl⟩ := hret.open0
  go_wp2
  go_ret
  exact Ret.of (by (repeat (first | exact grow_refl _ | refine grow_ext _ ?_ | refine grow_alloc _ ?_ | refine grow_drew ?_)))

def low_prop (q : Mb) (l : List Br) (rs : List Rn) (v u : Value) (st : Int) (p : Pt) : Prop :=
  (-1048576 ≤ p.x ∧ p.x ≤ 1048576) ∧ (-1048576 ≤ p.y ∧ p.y ≤ 1048576) ∧ (-1048576 ≤ p.z ∧ p.z ≤ 1048576) ∧ (p.x - (hullX q.l).lx).tmod st = 0 ∧ (p.y - (hullX q.l).ly).tmod st = 0 ∧ (p.z - (hullX q.l).lz).tmod st = 0 ∧
  (∀ w, MbAt w q → Bars w v l → Runs w u rs → Calls Tryz.prog 14 #[(.agg #[.string q.name, q.u, q.t, .int .i64 q.cover, .int .i64 q.agg, .int .i64 q.poker]), v, u, (.agg #[.int .i64 p.x, .int .i64 p.y, .int .i64 p.z])] w (Ret w (.tuple #[.bool true, .int .i64 0]))) ∧
  ∃ B2 E2, (∀ w, MbAt w q → Bars w v l → Runs w u rs → Calls Tryz.prog 14 #[(.agg #[.string q.name, q.u, q.t, .int .i64 q.cover, .int .i64 q.agg, .int .i64 q.poker]), v, u, .agg #[.int .i64 p.x, .int .i64 p.y, .int .i64 (p.z - st)]] w (Ret w (.tuple #[.bool B2, .int .i64 E2]))) ∧ ((hullX q.l).lz ≤ p.z - st → B2 = false ∧ E2 = 0)
theorem low_prop_of {q : Mb} {l : List Br} {rs : List Rn} {v u : Value} {st : Int} (hm : okMb q = true) (hv : laidB l rs = true) (h1 : 1 ≤ st) {p : Pt} (hp : p ∈ gridP q (rodsI l rs) st) : low_prop q l rs v u st p := by
  obtain ⟨⟨n1, n2, n3⟩, ht, t1, t2, t3, hf, hno⟩ := low_at hm h1 hp
  refine ⟨n1, n2, n3, t1, t2, t3, fun w hq hl hr => pFree_v q l rs p v u true 0 (by rw [free_ok hm hv (near_iff.2 ⟨n1, n2, n3⟩) ht, hf]) w hq hl hr, ?_⟩
  obtain ⟨B2, E2, hc⟩ : ∃ B E, freeE q l rs ⟨p.x, p.y, p.z - st⟩ = (B, E) := ⟨_, _, rfl⟩
  refine ⟨B2, E2, fun w hq hl hr => pFree_v q l rs ⟨p.x, p.y, p.z - st⟩ v u B2 E2 hc w hq hl hr, fun hge => ?_⟩
  obtain ⟨v1, v2, v3, v4, v5, v6, v7, v8, v9⟩ := valid_iff.1 (hull_in (okMb_facts hm).1)
  rw [@free_ok q l rs ⟨p.x, p.y, p.z - st⟩ hm hv (near_iff.2 ⟨n1, n2, by simp only; omega⟩) (by simp only; omega), hno hge] at hc
  cases hc
  exact ⟨rfl, rfl⟩

set_option maxRecDepth 100000 in
set_option maxHeartbeats 8000000 in
theorem lawPL_ok (q : Mb) (l : List Br) (rs : List Rn) (v u : Value) (st : Int) (hm : okMb q = true) (hv : laidB l rs = true) (hs : stepB st = true) (hlg : largeB q st = false) (w : World) (hq : MbAt w q) (hl : Bars w v l) (hr : Runs w u rs) :
    Calls Tryz.prog 6 #[(.agg #[.string q.name, q.u, q.t, .int .i64 q.cover, .int .i64 q.agg, .int .i64 q.poker]), v, u, .int .i64 st] w (Ret w (.bool true)) := by
  have HQ := Lib.hid hq
  have HL := Lib.hid hl
  have HR := Lib.hid hr
  have HM := Lib.hid (fun w hl hm' => refMember_v q.name q.l q.m q.u q.t q.cover q.agg q.poker true hm hq.name w hl hm')
  have HLG := Lib.hid (fun w hq => large22_c q st hm w hq)
  obtain ⟨h1, h2⟩ := stepB_iff.1 hs
  have HP := Lib.hid (fun w hq hl hr => pPlaces_c q l rs v u st _ _ (show placesE q l rs st = (gridP q (rodsI l rs) st, 0) by unfold placesE; rw [if_pos ⟨hm, hv⟩, hs, if_pos rfl, hlg, if_neg (by decide)]) w hq hl hr)
  have HH := Lib.hid (fun w hl hm => solidHull_c q.l q.m q.u q.t w hl hm)
  rw [show hullS q.l q.m = (hullX q.l, 0) by unfold hullS; rw [if_pos (okMb_facts hm).1]] at HH
  have HLO := Lib.hid (show ∀ i (h : i < (gridP q (rodsI l rs) st).length), low_prop q l rs v u st (gridP q (rodsI l rs) st)[i] from fun i h => low_prop_of hm hv h1 (List.getElem_mem h))
  have HOR := Lib.hid (fun j i (hj : j + 1 = i) (h : i < (gridP q (rodsI l rs) st).length) (h' : j < (gridP q (rodsI l rs) st).length) => show (gridP q (rodsI l rs) st)[j].x < (gridP q (rodsI l rs) st)[i].x ∨ (gridP q (rodsI l rs) st)[j].x = (gridP q (rodsI l rs) st)[i].x ∧ (gridP q (rodsI l rs) st)[j].y < (gridP q (rodsI l rs) st)[i].y by subst hj; exact places_next h1 h)
  unfold low_prop at HLO
  generalize gridP q (rodsI l rs) st = L at *
  obtain ⟨v1, v2, v3, v4, v5, v6, v7, v8, v9⟩ := valid_iff.1 (hull_in (okMb_facts hm).1)
  generalize hullX q.l = H at *
  obtain ⟨lx, ly, lz, hx, hy, hz⟩ := H
  simp only at v1 v2 v3 v4 v5 v6 v7 v8 v9 HLO
  have d9 : decide (st < 1) = false := decide_eq_false (by omega)
  have z1 : st ≠ 0 := by omega
  clear hq hl hr hm hv hs hlg
  go_enter Tryz.func6, Tryz.ntmps6
  go_wp2_with fail
  go_at_call 11; refine (awake22_c _).mono ?_; rintro e w' ⟨rfl, x0, rfl⟩
  go_wp2_with fail
  go_at_call 12; refine (few22_c q l rs v u _ (HQ.out.below (by (repeat (first | exact grow_refl _ | refine grow_ext _ ?_ | refine grow_alloc _ ?_ | refine grow_drew ?_)))) (HL.out.below (by (repeat (first | exact grow_refl _ | refine grow_ext _ ?_ | refine grow_alloc _ ?_ | refine grow_drew ?_)))) (HR.out.below (by (repeat (first | exact grow_refl _ | refine grow_ext _ ?_ | refine grow_alloc _ ?_ | refine grow_drew ?_))))).mono ?_; rintro e w' ⟨q0, rfl, x1, rfl⟩
  cases q0
  · go_wp2
    go_ret
    exact Ret.of (by (repeat (first | exact grow_refl _ | refine grow_ext _ ?_ | refine grow_alloc _ ?_ | refine grow_drew ?_)))
  go_wp2_with fail
  go_at_call 15; refine (HM.out _ (HQ.out.boxes.below (by (repeat (first | exact grow_refl _ | refine grow_ext _ ?_ | refine grow_alloc _ ?_ | refine grow_drew ?_)))) (HQ.out.holes.below (by (repeat (first | exact grow_refl _ | refine grow_ext _ ?_ | refine grow_alloc _ ?_ | refine grow_drew ?_))))).mono ?_; rintro e w' ⟨rfl, x2, rfl⟩
  go_wp2_with fail
  go_at_call 30; refine (HLG.out _ (HQ.out.below (by (repeat (first | exact grow_refl _ | refine grow_ext _ ?_ | refine grow_alloc _ ?_ | refine grow_drew ?_))))).mono ?_; rintro e w' ⟨b0, rfl, x3, rfl⟩
  cases b0
  case true =>
    go_wp2
    go_ret
    exact Ret.of (by (repeat (first | exact grow_refl _ | refine grow_ext _ ?_ | refine grow_alloc _ ?_ | refine grow_drew ?_)))
  go_wp2_with fail
  go_at_call 31; refine (HP.out _ (HQ.out.below (by (repeat (first | exact grow_refl _ | refine grow_ext _ ?_ | refine grow_alloc _ ?_ | refine grow_drew ?_)))) (HL.out.below (by (repeat (first | exact grow_refl _ | refine grow_ext _ ?_ | refine grow_alloc _ ?_ | refine grow_drew ?_)))) (HR.out.below (by (repeat (first | exact grow_refl _ | refine grow_ext _ ?_ | refine grow_alloc _ ?_ | refine grow_drew ?_))))).mono ?_; rintro e w' hret
  obtain ⟨ap, cp, rfl, k1, k2, hpts, x4, rfl⟩ := hret.open
  have HPT := Lib.hid hpts
  clear hret hpts
  go_wp2_with fail
  go_at_call 32; refine (HH.out _ (HQ.out.boxes.below (by (repeat (first | exact grow_refl _ | refine grow_ext _ ?_ | refine grow_alloc _ ?_ | refine grow_drew ?_)))) (HQ.out.holes.below (by (repeat (first | exact grow_refl _ | refine grow_ext _ ?_ | refine grow_alloc _ ?_ | refine grow_drew ?_))))).mono ?_; rintro e w' ⟨rfl, x5, rfl⟩
  go_wp2_with fail
  refine world_mask (fun W => Below w.heap.size w W ∧ MCells22 W w.heap.size q.name q.u q.t q.cover q.agg q.poker ∧ BoxAt W (w.heap.size + 1 + x0.heap.size + x1.heap.size + x2.heap.size + x3.heap.size + x4.heap.size + x5.heap.size) 0 ⟨lx, ly, lz, hx, hy, hz⟩ ∧ Pts W (.slice ap L.length cp) L) _ ⟨by (repeat (first | exact grow_refl _ | refine grow_ext _ ?_ | refine grow_alloc _ ?_ | refine grow_drew ?_)), by simp [MCells22, go_sem], by simp [BoxAt, go_sem, Nat.add_assoc], HPT.out.below (by (repeat (first | exact grow_refl _ | refine grow_ext _ ?_ | refine grow_alloc _ ?_ | refine grow_drew ?_)))⟩ ?_
  clear HPT HP
  rintro W0 ⟨hb, hm, hg, hpp⟩
  generalize w.heap.size + 1 + x0.heap.size + x1.heap.size + x2.heap.size + x3.heap.size + x4.heap.size + x5.heap.size = gg at *
  have HM0 := Lib.hid hm
  have HG0 := Lib.hid hg
  obtain ⟨_, _, e0, -, -, hpc⟩ := hpp
  cases e0
  have HPC := Lib.hid hpc
  have HBX := Lib.hid (show ∀ x : World, Below w.heap.size w (ext W0 x) from fun x => hb.trans ((below_ext W0 x).mono hb.size))
  clear hb hm hg hpc
  go_wp2_with fail
  go_loopw [62] (fun a wr => ∃ i : Nat, i ≤ L.length ∧ a = .int .i64 i ∧ ∃ y, wr = ext W0 y) (fun a _ => L.length - (intOf a).toNat)
  case atStart => exact ⟨0, by omega, rfl, ext_of (Below.refl _ _)⟩
  case round =>
    obtain ⟨i, hi, rfl, ⟨y, rfl⟩⟩ := hrel
    by_cases hlt : i < L.length
    · have q1 : (0 : Int) ≤ (i : Int) := by omega
      have q2 : (i : Int) < (L.length : Int) := by omega
      obtain ⟨n1, n2, n3, t1, t2, t3, hfr, hbl⟩ := HLO.out i hlt
      obtain ⟨b0, o0, rfl, p0, p1, p2⟩ := HPC.out i hlt
      have p0 := cell_ext_some p0 y
      have p1 := cell_ext_some p1 y
      have p2 := cell_ext_some p2 y
      have HPR := Lib.hid (fun j (hj : j + 1 = i) => HOR.out j i hj hlt)
      generalize L[i] = p at *
      have HFR := Lib.hid hfr
      obtain ⟨B2, E2, hb2, hb3⟩ := hbl
      have HFB := Lib.hid hb2
      obtain ⟨px, py, pz⟩ := p
      simp only at n1 n2 n3 t1 t2 t3 p0 p1 p2 HFR HFB HPR hb3
      clear hfr hb2
      obtain ⟨m0, m1, m2, m3, m4, m5⟩ := HM0.out.ext y
      obtain ⟨c0, c1, c2, c3, c4, c5⟩ := HG0.out.ext y
      simp only [Nat.zero_add] at c1 c2 c3 c4 c5
      have u1 : IntKind.i64.wrap (pz - st) = pz - st := IntWalk.i64_in _ (by omega)
      have HTB := Lib.hid (show ∃ b : Bool, decide (lz ≤ pz - st) = b ∧ (b = true → B2 = false ∧ E2 = 0) from ⟨_, rfl, fun h => hb3 (of_decide_eq_true h)⟩)
      clear hb3
      obtain ⟨tb, htb, htc⟩ := HTB.out
      have HTC := Lib.hid htc
      clear htc HTB
      rcases Nat.eq_zero_or_pos i with rfl | hpos
      · simp only [Nat.zero_mul, Nat.add_zero] at p0 p1 p2
        go_wp2_with fail
        refine wp_region_grows (by kernel_rfl) (by kernel_rfl) ?_
        repeat (go_big_quiet_step (fail))
        refine wpQuiet_nil ?_; rintro _ ⟨xq, rfl⟩
        clear p0 p1 p2 t1 t2 t3
        go_wp2_with fail
        go_at_call 14; refine (HFR.out _ ((HQ.out.below (HBX.out y)).below (by (repeat (first | exact grow_refl _ | refine grow_ext _ ?_ | refine grow_alloc _ ?_ | refine grow_drew ?_)))) ((HL.out.below (HBX.out y)).below (by (repeat (first | exact grow_refl _ | refine grow_ext _ ?_ | refine grow_alloc _ ?_ | refine grow_drew ?_)))) ((HR.out.below (HBX.out y)).below (by (repeat (first | exact grow_refl _ | refine grow_ext _ ?_ | refine grow_alloc _ ?_ | refine grow_drew ?_))))).mono ?_; rintro e w' ⟨rfl, y1, rfl⟩
        go_wp2_with fail
        refine wp_region_grows (by kernel_rfl) (by kernel_rfl) ?_
        repeat (go_big_quiet_step ((first | (go_at_call 27; exact Calls.quiet_ext (at22_c _ _ _ _)) | (go_at_call 14; exact Calls.quiet_ext (HFB.out _ ((HQ.out.below (HBX.out y)).below (by (repeat (first | exact grow_refl _ | refine grow_ext _ ?_ | refine grow_alloc _ ?_ | refine grow_drew ?_)))) ((HL.out.below (HBX.out y)).below (by (repeat (first | exact grow_refl _ | refine grow_ext _ ?_ | refine grow_alloc _ ?_ | refine grow_drew ?_)))) ((HR.out.below (HBX.out y)).below (by (repeat (first | exact grow_refl _ | refine grow_ext _ ?_ | refine grow_alloc _ ?_ | refine grow_drew ?_)))))))))
        refine wpQuiet_nil ?_; rintro _ ⟨xq, rfl⟩
        cases tb
        · go_wp2
          go_roundw
          case rel => exact ⟨0 + 1, by omega, by go_num, ext_of (by (repeat (first | exact grow_refl _ | refine grow_ext _ ?_ | refine grow_alloc _ ?_ | refine grow_drew ?_)))⟩
          case measure => simp [intOf]; omega
        · obtain ⟨rfl, rfl⟩ := HTC.out rfl
          go_wp2
          go_roundw
          case rel => exact ⟨0 + 1, by omega, by go_num, ext_of (by (repeat (first | exact grow_refl _ | refine grow_ext _ ?_ | refine grow_alloc _ ?_ | refine grow_drew ?_)))⟩
          case measure => simp [intOf]; omega
      · obtain ⟨j, hj⟩ : ∃ j, j + 1 = i := ⟨i - 1, by omega⟩
        have hpr := HPR.out j hj
        have hjl : j < L.length := by omega
        have km : (i : Int) - 1 = (j : Int) := by omega
        have kw : IntKind.i64.wrap (j : Int) = (j : Int) := IntWalk.i64_in _ (by omega)
        have q3 : (0 : Int) ≤ (j : Int) := by omega
        have q4 : (j : Int) < (L.length : Int) := by omega
        obtain ⟨b9, o9, e9, s0, s1, s2⟩ := HPC.out j hjl
        cases e9
        have s0 := cell_ext_some s0 y
        have s1 := cell_ext_some s1 y
        have s2 := cell_ext_some s2 y
        have hpr := hpr hjl
        generalize L[j] = p' at *
        obtain ⟨sx, sy, sz⟩ := p'
        simp only at s0 s1 s2 hpr
        have d1 : decide (px < sx) = false := by simp; omega
        have hd2 : ((px == sx) = true ∧ decide (py ≤ sy) = false) ∨ (px == sx) = false := by
          by_cases he : px = sx
          · left; exact ⟨by simp [he], by simp; omega⟩
          · right; simp [he]
        clear hj hpr
        rcases hd2 with ⟨d2, d3⟩ | d2
        · go_wp2_with fail
          refine wp_region_grows (by kernel_rfl) (by kernel_rfl) ?_
          repeat (go_big_quiet_step (fail))
          refine wpQuiet_nil ?_; rintro _ ⟨xq, rfl⟩
          clear p0 p1 p2 t1 t2 t3 s0 s1 s2 d1 d2 d3 km kw q3 q4
          go_wp2_with fail
          go_at_call 14; refine (HFR.out _ ((HQ.out.below (HBX.out y)).below (by (repeat (first | exact grow_refl _ | refine grow_ext _ ?_ | refine grow_alloc _ ?_ | refine grow_drew ?_)))) ((HL.out.below (HBX.out y)).below (by (repeat (first | exact grow_refl _ | refine grow_ext _ ?_ | refine grow_alloc _ ?_ | refine grow_drew ?_)))) ((HR.out.below (HBX.out y)).below (by (repeat (first | exact grow_refl _ | refine grow_ext _ ?_ | refine grow_alloc _ ?_ | refine grow_drew ?_))))).mono ?_; rintro e w' ⟨rfl, y1, rfl⟩
          go_wp2_with fail
          refine wp_region_grows (by kernel_rfl) (by kernel_rfl) ?_
          repeat (go_big_quiet_step ((first | (go_at_call 27; exact Calls.quiet_ext (at22_c _ _ _ _)) | (go_at_call 14; exact Calls.quiet_ext (HFB.out _ ((HQ.out.below (HBX.out y)).below (by (repeat (first | exact grow_refl _ | refine grow_ext _ ?_ | refine grow_alloc _ ?_ | refine grow_drew ?_)))) ((HL.out.below (HBX.out y)).below (by (repeat (first | exact grow_refl _ | refine grow_ext _ ?_ | refine grow_alloc _ ?_ | refine grow_drew ?_)))) ((HR.out.below (HBX.out y)).below (by (repeat (first | exact grow_refl _ | refine grow_ext _ ?_ | refine grow_alloc _ ?_ | refine grow_drew ?_)))))))))
          refine wpQuiet_nil ?_; rintro _ ⟨xq, rfl⟩
          cases tb
          · go_wp2
            go_roundw
            case rel => exact ⟨i + 1, by omega, by go_num, ext_of (by (repeat (first | exact grow_refl _ | refine grow_ext _ ?_ | refine grow_alloc _ ?_ | refine grow_drew ?_)))⟩
            case measure => simp [intOf]; omega
          · obtain ⟨rfl, rfl⟩ := HTC.out rfl
            go_wp2
            go_roundw
            case rel => exact ⟨i + 1, by omega, by go_num, ext_of (by (repeat (first | exact grow_refl _ | refine grow_ext _ ?_ | refine grow_alloc _ ?_ | refine grow_drew ?_)))⟩
            case measure => simp [intOf]; omega
        · go_wp2_with fail
          refine wp_region_grows (by kernel_rfl) (by kernel_rfl) ?_
          repeat (go_big_quiet_step (fail))
          refine wpQuiet_nil ?_; rintro _ ⟨xq, rfl⟩
          clear p0 p1 p2 t1 t2 t3 s0 s1 s2 d1 d2 km kw q3 q4
          go_wp2_with fail
          go_at_call 14; refine (HFR.out _ ((HQ.out.below (HBX.out y)).below (by (repeat (first | exact grow_refl _ | refine grow_ext _ ?_ | refine grow_alloc _ ?_ | refine grow_drew ?_)))) ((HL.out.below (HBX.out y)).below (by (repeat (first | exact grow_refl _ | refine grow_ext _ ?_ | refine grow_alloc _ ?_ | refine grow_drew ?_)))) ((HR.out.below (HBX.out y)).below (by (repeat (first | exact grow_refl _ | refine grow_ext _ ?_ | refine grow_alloc _ ?_ | refine grow_drew ?_))))).mono ?_; rintro e w' ⟨rfl, y1, rfl⟩
          go_wp2_with fail
          refine wp_region_grows (by kernel_rfl) (by kernel_rfl) ?_
          repeat (go_big_quiet_step ((first | (go_at_call 27; exact Calls.quiet_ext (at22_c _ _ _ _)) | (go_at_call 14; exact Calls.quiet_ext (HFB.out _ ((HQ.out.below (HBX.out y)).below (by (repeat (first | exact grow_refl _ | refine grow_ext _ ?_ | refine grow_alloc _ ?_ | refine grow_drew ?_)))) ((HL.out.below (HBX.out y)).below (by (repeat (first | exact grow_refl _ | refine grow_ext _ ?_ | refine grow_alloc _ ?_ | refine grow_drew ?_)))) ((HR.out.below (HBX.out y)).below (by (repeat (first | exact grow_refl _ | refine grow_ext _ ?_ | refine grow_alloc _ ?_ | refine grow_drew ?_)))))))))
          refine wpQuiet_nil ?_; rintro _ ⟨xq, rfl⟩
          cases tb
          · go_wp2
            go_roundw
            case rel => exact ⟨i + 1, by omega, by go_num, ext_of (by (repeat (first | exact grow_refl _ | refine grow_ext _ ?_ | refine grow_alloc _ ?_ | refine grow_drew ?_)))⟩
            case measure => simp [intOf]; omega
          · obtain ⟨rfl, rfl⟩ := HTC.out rfl
            go_wp2
            go_roundw
            case rel => exact ⟨i + 1, by omega, by go_num, ext_of (by (repeat (first | exact grow_refl _ | refine grow_ext _ ?_ | refine grow_alloc _ ?_ | refine grow_drew ?_)))⟩
            case measure => simp [intOf]; omega
    · obtain rfl : i = L.length := by omega
      go_wp2
      go_ret
      exact Ret.of (HBX.out y)

theorem placesE_cases (q : Mb) (l : List Br) (rs : List Rn) (st : Int) : (∃ E, placesE q l rs st = ([], E) ∧ (E != 0) = true) ∨ (okMb q = true ∧ laidB l rs = true ∧ stepB st = true ∧ largeB q st = false) := by
  unfold placesE
  by_cases h : okMb q = true ∧ laidB l rs = true
  · rw [if_pos h]
    cases hs : stepB st
    · left; exact ⟨2, by simp, rfl⟩
    · cases hg : largeB q st
      · right; exact ⟨h.1, h.2, rfl, rfl⟩
      · left; exact ⟨6, by simp, rfl⟩
  · left; rw [if_neg h]; exact ⟨1, rfl, rfl⟩
theorem lawPokerLowest_c (q : Mb) (l : List Br) (v : Value) (rs : List Rn) (u : Value) (st : Int) (_ : -9223372036854775808 ≤ st ∧ st ≤ 9223372036854775807) (w : World) (hq : MbAt w q) (hl : Bars w v l) (hr : Runs w u rs) :
    Calls Tryz.prog 6 #[(.agg #[.string q.name, q.u, q.t, .int .i64 q.cover, .int .i64 q.agg, .int .i64 q.poker]), v, u, .int .i64 st] w (Ret w (.bool true)) := by
  rcases placesE_cases q l rs st with ⟨E, h, he⟩ | ⟨hm, hv, hs, hlg⟩
  · cases hm : okMb q
    · exact lawPL_ef q l rs v u st E he hm h w hq hl hr
    · exact lawPL_et q l rs v u st E he hm h w hq hl hr
  · exact lawPL_ok q l rs v u st hm hv hs hlg w hq hl hr

end Go.Proofs.YtmoechhfjmemaaaGreat
