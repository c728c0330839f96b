/- PokW, PokY in one text. -/
import Derived.Test.YtmoechhfjmemaaaGreatPokK6
import Derived.Test.YtmoechhfjmemaaaGreatPokK4
namespace Go.Proofs.YtmoechhfjmemaaaGreat
open Go.RowKit
set_option maxRecDepth 20000

def colD (q : Mb) (P : List Pt) (r : Int) (x y : Int) (Z : List Int) : List Pt := Z.filterMap fun z => if isDry q P r ⟨x, y, z⟩ = true then some ⟨x, y, z⟩ else none
def rowD (q : Mb) (P : List Pt) (r : Int) (x : Int) (Y Z : List Int) : List Pt := Y.flatMap fun y => colD q P r x y Z
theorem col_takeD (q : Mb) (P : List Pt) (r : Int) (x y : Int) {Z : List Int} {k : Nat} (h : k < Z.length) : colD q P r x y (Z.take (k + 1)) = colD q P r x y (Z.take k) ++ if isDry q P r ⟨x, y, Z[k]⟩ = true then [⟨x, y, Z[k]⟩] else [] := by
  unfold colD
  rw [List.take_succ_eq_append_getElem h, List.filterMap_append]
  congr 1
  by_cases hd : isDry q P r ⟨x, y, Z[k]⟩ = true
  · rw [if_pos hd]; simp [hd]
  · rw [if_neg hd]; simp [hd]
theorem row_takeD (q : Mb) (P : List Pt) (r : Int) (x : Int) (Y Z : List Int) {j : Nat} (h : j < Y.length) : rowD q P r x (Y.take (j + 1)) Z = rowD q P r x (Y.take j) Z ++ colD q P r x Y[j] Z := pt_flat_take _ h
theorem dry_takeD (q : Mb) (P : List Pt) (r : Int) (X Y Z : List Int) {i : Nat} (h : i < X.length) : dryI q P r (X.take (i + 1)) Y Z = dryI q P r (X.take i) Y Z ++ rowD q P r X[i] Y Z := pt_flat_take (fun x => rowD q P r x Y Z) h
theorem col_lenD (q : Mb) (P : List Pt) (r : Int) (x y : Int) (Z : List Int) : (colD q P r x y Z).length ≤ Z.length := List.length_filterMap_le _ _
theorem row_lenD (q : Mb) (P : List Pt) (r : Int) (x : Int) (Y Z : List Int) : (rowD q P r x Y Z).length ≤ Y.length * Z.length := pt_flat_len _ _ Y (fun y => col_lenD q P r x y Z)
theorem dry_lenD (q : Mb) (P : List Pt) (r : Int) (X Y Z : List Int) : (dryI q P r X Y Z).length ≤ X.length * (Y.length * Z.length) := pt_flat_len (fun x => rowD q P r x Y Z) _ X (fun x => row_lenD q P r x Y Z)
theorem dry_fewD {q : Mb} {P : List Pt} {r : Int} {X Y Z : List Int} {x y : Int} {i j k n : Nat} (hn : X.length * Y.length * Z.length ≤ n) (hi : i < X.length) (hj : j < Y.length) (hk : k ≤ Z.length) : (dryI q P r (X.take i) Y Z ++ rowD q P r x (Y.take j) Z ++ colD q P r x y (Z.take k)).length ≤ n := by
  rw [List.length_append, List.length_append]
  have h1 := dry_lenD q P r (X.take i) Y Z
  have h2 := row_lenD q P r x (Y.take j) Z
  have h3 := col_lenD q P r x y (Z.take k)
  rw [List.length_take, Nat.min_eq_left (by omega)] at h1 h2 h3
  rw [Nat.mul_assoc] at hn
  have h4 : (i + 1) * (Y.length * Z.length) ≤ X.length * (Y.length * Z.length) := Nat.mul_le_mul_right _ hi
  have h5 : (j + 1) * Z.length ≤ Y.length * Z.length := Nat.mul_le_mul_right _ hj
  rw [Nat.add_mul] at h4 h5
  omega

def gridD (q : Mb) (R : List Rc) (st r : Int) : List Pt := dryI q (gridP q R st) r (gridL (hullX q.l).lx (hullX q.l).hx st) (gridL (hullX q.l).ly (hullX q.l).hy st) (gridL (hullX q.l).lz (hullX q.l).hz st)
def reachB (r : Int) : Bool := decide (0 ≤ r ∧ r ≤ 1048576)
theorem reachB_iff {r : Int} : reachB r = true ↔ 0 ≤ r ∧ r ≤ 1048576 := by unfold reachB; exact decide_eq_true_iff
def dryE (q : Mb) (l : List Br) (rs : List Rn) (st r : Int) : List Pt × Int :=
  if okMb q = true ∧ laidB l rs = true then (if (stepB st && reachB r) = true then (if largeB q st = true then ([], 6) else (gridD q (rodsI l rs) st r, 0)) else ([], 2)) else ([], 1)
theorem places_near {q : Mb} {R : List Rc} {st : Int} (h : okMb q = true) (h1 : 1 ≤ st) : ∀ p ∈ gridP q R st, NearP p 1048576 := by
  intro p hp
  obtain ⟨x, hx, y, hy, hl⟩ := places_mem.1 hp
  obtain ⟨k, hk, rfl, -⟩ := lowest_mem.1 hl
  exact near_iff.1 (tip_grid h h1 x hx y hy _ (List.getElem_mem hk)).2.1

theorem inside_ok {q : Mb} {x y z : Int} (hs : solidB q.l q.m = true) (hn : NearP ⟨x, y, z⟩ 1048576) : insideR q.l q.m x y z = (containsS q.l q.m ⟨x, y, z, x, y, z⟩, 0) := by
  obtain ⟨n1, n2, n3⟩ := hn
  simp only at n1 n2 n3
  unfold insideR
  rw [if_pos hs, if_pos (valid_iff.2 (by unfold ptX; simp only; omega))]
  rfl

set_option maxHeartbeats 2000000 in
theorem pDry_a (q : Mb) (l : List Br) (rs : List Rn) (v u : Value) (st r : Int) (h : ¬ (okMb q = true ∧ laidB l rs = true)) (w : World) (hq : MbAt w q) (hl : Bars w v l) (hr : Runs w u rs) :
    Calls Tryz.prog 37 #[(.agg #[.string q.name, q.u, q.t, .int .i64 q.cover, .int .i64 q.agg, .int .i64 q.poker]), v, u, .int .i64 st, .int .i64 r] w (RetPtsE w [] 1) := by
  have HQ := Lib.hid hq
  have HL := Lib.hid hl
  have HR := Lib.hid hr
  have HG := Lib.hid (fun w hq hl hr => pgiven_c q l rs v u w hq hl hr)
  rw [givenP_no h] at HG
  clear hq hl hr h
  go_enter Tryz.func37, Tryz.ntmps37
  go_wp2_with fail
  go_at_call 53; refine (HG.out _ (HQ.out.below (by (repeat (first | exact grow_refl _ | refine grow_ext _ ?_ | refine grow_alloc _ ?_ | refine grow_drew ?_)))) (HL.out.below (by (repeat (first | exact grow_refl _ | refine grow_ext _ ?_ | refine grow_alloc _ ?_ | refine grow_drew ?_)))) (HR.out.below (by (repeat (first | exact grow_refl _ | refine grow_ext _ ?_ | refine grow_alloc _ ?_ | refine grow_drew ?_))))).mono ?_; rintro e w' ⟨v2, rfl, hown, x1, rfl⟩
  obtain ⟨a2, c2, rfl, -, -, -⟩ := own_shape hown
  clear hown
  go_wp2
  go_ret2
  exact ⟨_, rfl, World.ownsRow_nil _ _ _ _, ext_of (by (repeat (first | exact grow_refl _ | refine grow_ext _ ?_ | refine grow_alloc _ ?_ | refine grow_drew ?_)))⟩

theorem range_bad {st r : Int} (h : (stepB st && reachB r) = false) : decide (st < 1) = true ∨ decide (st < 1) = false ∧ decide (1048576 < st) = true ∨ decide (st < 1) = false ∧ decide (1048576 < st) = false ∧ decide (r < 0) = true ∨ decide (st < 1) = false ∧ decide (1048576 < st) = false ∧ decide (r < 0) = false ∧ decide (1048576 < r) = true := by
  unfold stepB reachB at h
  simp only [decide_eq_true_eq, decide_eq_false_iff_not, Bool.and_eq_false_iff] at *
  omega
set_option maxHeartbeats 2000000 in
theorem pDry_b (q : Mb) (l : List Br) (rs : List Rn) (v u : Value) (st r : Int) (hm : okMb q = true) (hv : laidB l rs = true) (h : (stepB st && reachB r) = false) (w : World) (hq : MbAt w q) (hl : Bars w v l) (hr : Runs w u rs) :
    Calls Tryz.prog 37 #[(.agg #[.string q.name, q.u, q.t, .int .i64 q.cover, .int .i64 q.agg, .int .i64 q.poker]), v, u, .int .i64 st, .int .i64 r] w (RetPtsE w [] 2) := by
  have HQ := Lib.hid hq
  have HL := Lib.hid hl
  have HR := Lib.hid hr
  have HG := Lib.hid (fun w hq hl hr => pgiven_c q l rs v u w hq hl hr)
  rw [givenP_yes hm hv] at HG
  simp only at HG
  generalize rodsI l rs = R at *
  rcases range_bad h with d1 | ⟨d1, d2⟩ | ⟨d1, d2, d3⟩ | ⟨d1, d2, d3, d4⟩
  all_goals
    clear hq hl hr h hm hv
    go_enter Tryz.func37, Tryz.ntmps37
    go_wp2_with fail
    go_at_call 53; refine (HG.out _ (HQ.out.below (by (repeat (first | exact grow_refl _ | refine grow_ext _ ?_ | refine grow_alloc _ ?_ | refine grow_drew ?_)))) (HL.out.below (by (repeat (first | exact grow_refl _ | refine grow_ext _ ?_ | refine grow_alloc _ ?_ | refine grow_drew ?_)))) (HR.out.below (by (repeat (first | exact grow_refl _ | refine grow_ext _ ?_ | refine grow_alloc _ ?_ | refine grow_drew ?_))))).mono ?_; rintro e w' ⟨v2, rfl, hown, x1, rfl⟩
    obtain ⟨a2, c2, rfl, -, -, -⟩ := own_shape hown
    clear hown
    go_wp2
    go_ret2
    exact ⟨_, rfl, World.ownsRow_nil _ _ _ _, ext_of (by (repeat (first | exact grow_refl _ | refine grow_ext _ ?_ | refine grow_alloc _ ?_ | refine grow_drew ?_)))⟩

set_option maxRecDepth 100000 in
set_option maxHeartbeats 16000000 in
theorem pDry_d (q : Mb) (l : List Br) (rs : List Rn) (v u : Value) (st r : Int) (hm : okMb q = true) (hv : laidB l rs = true) (h1 : 1 ≤ st) (h2 : st ≤ 1048576) (r1 : 0 ≤ r) (r2 : r ≤ 1048576) (L : List Pt) (E : Int) (h : (if largeB q st = true then ([], 6) else (gridD q (rodsI l rs) st r, 0)) = (L, E)) (w : World) (hq : MbAt w q) (hl : Bars w v l) (hr : Runs w u rs) :
    Calls Tryz.prog 37 #[(.agg #[.string q.name, q.u, q.t, .int .i64 q.cover, .int .i64 q.agg, .int .i64 q.poker]), v, u, .int .i64 st, .int .i64 r] w (RetPtsE w L E) := by
  have HQ := Lib.hid hq
  have HL := Lib.hid hl
  have HR := Lib.hid hr
  have HG := Lib.hid (fun w hq hl hr => pgiven_c q l rs v u w hq hl hr)
  rw [givenP_yes hm hv] at HG
  simp only at HG
  have hs := (okMb_facts hm).1
  have HGR := Lib.hid (fun w hq => grid_w q st hs h1 h2 w hq)
  have HPL := Lib.hid (fun (hlg : largeB q st = false) v v0 v1 v2 w hq hv' => places_c q (rodsI l rs) v (gridL (hullX q.l).lx (hullX q.l).hx st) (gridL (hullX q.l).ly (hullX q.l).hy st) (gridL (hullX q.l).lz (hullX q.l).hz st) v0 v1 v2 (fun x hx y hy z hz => (tip_grid (st := st) hm h1 x hx y hy z hz).1) (rods_ok hv) (grid_few hs h1 hlg).1 w hq hv')
  have HFW := Lib.hid (fun (hlg : largeB q st = false) => (grid_few hs h1 hlg).2)
  have HNR := Lib.hid (fun x hx y hy z hz => near_iff.1 (tip_grid (st := st) hm h1 x hx y hy z hz).2.1)
  have HRE := Lib.hid (fun v p hp w hv => reached_c (gridP q (rodsI l rs) st) v r p hp (places_near hm h1) ⟨r1, r2⟩ w hv)
  have HIN := Lib.hid (fun x y z (hn : NearP ⟨x, y, z⟩ 1048576) w hl hm => solidInside_v q.l q.m q.u q.t x y z (containsS q.l q.m ⟨x, y, z, x, y, z⟩, 0) (inside_ok hs hn) w hl hm)
  have HHH := Lib.hid h
  unfold gridD at HHH
  have HPE := Lib.hid (show gridP q (rodsI l rs) st = placesI q (rodsI l rs) (gridL (hullX q.l).lx (hullX q.l).hx st) (gridL (hullX q.l).ly (hullX q.l).hy st) (gridL (hullX q.l).lz (hullX q.l).hz st) from rfl)
  have d1 : decide (st < 1) = false := decide_eq_false (by omega)
  have d2 : decide (1048576 < st) = false := decide_eq_false (by omega)
  have d3 : decide (r < 0) = false := decide_eq_false (by omega)
  have d4 : decide (1048576 < r) = false := decide_eq_false (by omega)
  generalize gridP q (rodsI l rs) st = P at *
  rw [← HPE.out] at HPL
  generalize rodsI l rs = R at *
  unfold RetGrid at HGR
  generalize gridL (hullX q.l).lx (hullX q.l).hx st = X at *
  generalize gridL (hullX q.l).ly (hullX q.l).hy st = Y at *
  generalize gridL (hullX q.l).lz (hullX q.l).hz st = Z at *
  generalize largeB q st = lg at *
  clear hq hl hr h hm hv hs h1 h2 r1 r2 HPE
  go_enter Tryz.func37, Tryz.ntmps37
  go_wp2_with fail
  go_at_call 53; refine (HG.out _ (HQ.out.below (by (repeat (first | exact grow_refl _ | refine grow_ext _ ?_ | refine grow_alloc _ ?_ | refine grow_drew ?_)))) (HL.out.below (by (repeat (first | exact grow_refl _ | refine grow_ext _ ?_ | refine grow_alloc _ ?_ | refine grow_drew ?_)))) (HR.out.below (by (repeat (first | exact grow_refl _ | refine grow_ext _ ?_ | refine grow_alloc _ ?_ | refine grow_drew ?_))))).mono ?_; rintro e w' ⟨v2, rfl, hown, x1, rfl⟩
  have HO := Lib.hid (Rcs.of_own hown)
  obtain ⟨a2, c2, rfl, k2, m2, -⟩ := own_shape hown
  have n2 : c2 ≤ 9223372036854775807 := m2
  clear hown m2
  go_wp2_with fail
  go_at_call 76
  refine (HGR.out _ (HQ.out.below (by (repeat (first | exact grow_refl _ | refine grow_ext _ ?_ | refine grow_alloc _ ?_ | refine grow_drew ?_))))).mono ?_
  rintro e w' (⟨hlg, rfl, x2, rfl⟩ | ⟨hlg, v0, v1, v2, rfl, i0, i1, i2, x2, rfl⟩)
  · have hE := HHH.out
    rw [if_pos hlg] at hE
    cases hE
    clear hlg
    go_wp2
    go_ret2
    exact ⟨_, rfl, World.ownsRow_nil _ _ _ _, ext_of (by (repeat (first | exact grow_refl _ | refine grow_ext _ ?_ | refine grow_alloc _ ?_ | refine grow_drew ?_)))⟩
  have hE := HHH.out
  rw [if_neg (by rw [hlg]; decide)] at hE
  cases hE
  have HN := Lib.hid (HFW.out hlg)
  have HPK := Lib.hid (HPL.out hlg)
  have I0 := Lib.hid i0
  have I1 := Lib.hid i1
  have I2 := Lib.hid i2
  obtain ⟨b0, o0, k0, rfl, x4, x5, -⟩ := i0
  obtain ⟨b1, o1, k1, rfl, y4, y5, -⟩ := i1
  obtain ⟨b2, o2, k3, rfl, z4, z5, -⟩ := i2
  clear hlg HHH HPL HFW
  go_wp2_with fail
  go_at_call 77
  refine (HPK.out _ _ _ _ _ (HQ.out.below (by (repeat (first | exact grow_refl _ | refine grow_ext _ ?_ | refine grow_alloc _ ?_ | refine grow_drew ?_)))) (HO.out.below (by (repeat (first | exact grow_refl _ | refine grow_ext _ ?_ | refine grow_alloc _ ?_ | refine grow_drew ?_)))) (I0.out.below (by (repeat (first | exact grow_refl _ | refine grow_ext _ ?_ | refine grow_alloc _ ?_ | refine grow_drew ?_)))) (I1.out.below (by (repeat (first | exact grow_refl _ | refine grow_ext _ ?_ | refine grow_alloc _ ?_ | refine grow_drew ?_)))) (I2.out.below (by (repeat (first | exact grow_refl _ | refine grow_ext _ ?_ | refine grow_alloc _ ?_ | refine grow_drew ?_))))).mono ?_
  rintro e w' ⟨vp, rfl, hownp, xp, rfl⟩
  have HPP := Lib.hid (Pts.of_own hownp)
  obtain ⟨ap, cp, rfl, kp, mp, -⟩ := own_shape hownp
  have np : cp ≤ 9223372036854775807 := mp
  clear hownp mp
  go_wp2_with fail
  refine world_mask (fun W => Below w.heap.size w W ∧ MCells22 W w.heap.size q.name q.u q.t q.cover q.agg q.poker ∧ Blk W (w.heap.size + 1 + x1.heap.size + x2.heap.size) #[.slice (some ⟨b0, o0, none⟩) X.length k0, .slice (some ⟨b1, o1, none⟩) Y.length k1, .slice (some ⟨b2, o2, none⟩) Z.length k3] 107 ∧ Pts W (.slice ap P.length cp) P ∧ Ints W (.slice (some ⟨b0, o0, none⟩) X.length k0) X ∧ Ints W (.slice (some ⟨b1, o1, none⟩) Y.length k1) Y ∧ Ints W (.slice (some ⟨b2, o2, none⟩) Z.length k3) Z) _ ⟨by (repeat (first | exact grow_refl _ | refine grow_ext _ ?_ | refine grow_alloc _ ?_ | refine grow_drew ?_)), by simp [MCells22, go_sem], (Blk.new' (by simp [size_ext]) _ _).ext _, HPP.out, I0.out.below (by (repeat (first | exact grow_refl _ | refine grow_ext _ ?_ | refine grow_alloc _ ?_ | refine grow_drew ?_))), I1.out.below (by (repeat (first | exact grow_refl _ | refine grow_ext _ ?_ | refine grow_alloc _ ?_ | refine grow_drew ?_))), I2.out.below (by (repeat (first | exact grow_refl _ | refine grow_ext _ ?_ | refine grow_alloc _ ?_ | refine grow_drew ?_)))⟩ ?_
  clear HPP I0 I1 I2 HPK
  rintro W0 ⟨hb, hm, hg, hpp, i0, i1, i2⟩
  generalize w.heap.size + 1 + x1.heap.size + x2.heap.size = gg at *
  have HB := Lib.hid hb
  have HM := Lib.hid hm
  have HG := Lib.hid hg
  have HPP := Lib.hid hpp
  obtain ⟨_, _, _, e0, -, -, x3⟩ := i0
  cases e0
  obtain ⟨_, _, _, e1, -, -, y3⟩ := i1
  cases e1
  obtain ⟨_, _, _, e2, -, -, z3⟩ := i2
  cases e2
  have HX := Lib.hid (show ∀ i (h : i < X.length) (x : World), (ext W0 x).cell? ⟨b0, o0 + i, none⟩ = some (.int .i64 X[i]) from fun i h x => cell_ext_some (x3 i h) x)
  have HY := Lib.hid (show ∀ i (h : i < Y.length) (x : World), (ext W0 x).cell? ⟨b1, o1 + i, none⟩ = some (.int .i64 Y[i]) from fun i h x => cell_ext_some (y3 i h) x)
  have HZ := Lib.hid (show ∀ i (h : i < Z.length) (x : World), (ext W0 x).cell? ⟨b2, o2 + i, none⟩ = some (.int .i64 Z[i]) from fun i h x => cell_ext_some (z3 i h) x)
  have HBX := Lib.hid (show ∀ x : World, Below w.heap.size w (ext W0 x) from fun x => hb.trans ((below_ext W0 x).mono hb.size))
  clear hb hm hg hpp x3 y3 z3
  have c0 := (HG.out.cell 0).trans rfl
  go_wp2_with fail
  clear c0
  go_loopw [16, 68] (fun o i wr => ∃ k : Nat, k ≤ X.length ∧ i = .int .i64 k ∧ (∃ y, wr = ext W0 y) ∧ wr.ownsRow W0.heap.size 30 3 o (dryI q P r (X.take k) Y Z).length (ptCells (dryI q P r (X.take k) Y Z))) (fun _ i _ => X.length - (intOf i).toNat)
  case atStart => exact ⟨0, by omega, rfl, ext_of (Below.refl _ _), World.ownsRow_nil _ _ _ _⟩
  case round =>
    obtain ⟨i, hi, rfl, ⟨y, rfl⟩, hown⟩ := hrel
    have HO := Lib.hid hown
    obtain ⟨av, cv, rfl, hv1, hv2, -⟩ := own_shape hown
    have hv3 : cv ≤ 9223372036854775807 := hv2
    clear hown
    by_cases hlt : i < X.length
    · have q1 : (0 : Int) ≤ (i : Int) := by omega
      have q2 : (i : Int) < (X.length : Int) := by omega
      have c1 := cell_ext_some ((HG.out.cell 1).trans rfl) y
      have e0 := HX.out i hlt y
      have HPT := Lib.hid (dry_takeD q P r X Y Z hlt)
      have HNI := Lib.hid (HNR.out X[i] (List.getElem_mem hlt))
      have HFW := Lib.hid (fun (x y : Int) j k (hj : j < Y.length) (hk : k ≤ Z.length) => dry_fewD (q := q) (P := P) (r := r) (x := x) (y := y) HN.out hlt hj hk)
      generalize X[i] = xx at *
      go_wp2_with fail
      go_loopw [16, 75] (fun o i' wr => ∃ j : Nat, j ≤ Y.length ∧ i' = .int .i64 j ∧ (∃ y, wr = ext W0 y) ∧ wr.ownsRow W0.heap.size 30 3 o (dryI q P r (X.take i) Y Z ++ rowD q P r xx (Y.take j) Z).length (ptCells (dryI q P r (X.take i) Y Z ++ rowD q P r xx (Y.take j) Z))) (fun _ i' _ => Y.length - (intOf i').toNat)
      case atStart => exact ⟨0, by omega, rfl, ⟨y, rfl⟩, by simpa [rowD] using HO.out⟩
      case round =>
        clear c1 e0 hv1 hv2 hv3 HO
        obtain ⟨j, hj, rfl, ⟨y, rfl⟩, hown⟩ := hrel
        have HO := Lib.hid hown
        obtain ⟨av, cv, rfl, hv1, hv2, -⟩ := own_shape hown
        have hv3 : cv ≤ 9223372036854775807 := hv2
        clear hown
        by_cases hltj : j < Y.length
        · have q3 : (0 : Int) ≤ (j : Int) := by omega
          have q4 : (j : Int) < (Y.length : Int) := by omega
          have c2 := cell_ext_some ((HG.out.cell 2).trans rfl) y
          have e1 := HY.out j hltj y
          have HRT := Lib.hid (row_takeD q P r xx Y Z hltj)
          have HNJ := Lib.hid (HNI.out Y[j] (List.getElem_mem hltj))
          generalize Y[j] = yy at *
          have HFK := Lib.hid (fun k (hk : k ≤ Z.length) => HFW.out xx yy j k hltj hk)
          obtain ⟨D, hD⟩ : ∃ D, dryI q P r (X.take i) Y Z ++ rowD q P r xx (Y.take j) Z = D := ⟨_, rfl⟩
          rw [hD] at HO hv1 HFK
          rw [hD]
          have HD := Lib.hid hD
          clear hD
          go_wp2_with fail
          go_loopw [16, 82] (fun o i' wr => ∃ k : Nat, k ≤ Z.length ∧ i' = .int .i64 k ∧ (∃ y, wr = ext W0 y) ∧ wr.ownsRow W0.heap.size 30 3 o (D ++ colD q P r xx yy (Z.take k)).length (ptCells (D ++ colD q P r xx yy (Z.take k)))) (fun _ i' _ => Z.length - (intOf i').toNat)
          case atStart => exact ⟨0, by omega, rfl, ⟨y, rfl⟩, by simpa [colD] using HO.out⟩
          case round =>
            clear c2 e1 hv1 hv2 hv3 HO
            obtain ⟨k, hk, rfl, ⟨y, rfl⟩, hown⟩ := hrel
            have HO := Lib.hid hown
            obtain ⟨av, cv, rfl, hv1, hv2, -⟩ := own_shape hown
            have hv3 : cv ≤ 9223372036854775807 := hv2
            have hfew := HFK.out k hk
            clear hown
            by_cases hltk : k < Z.length
            · have q5 : (0 : Int) ≤ (k : Int) := by omega
              have q6 : (k : Int) < (Z.length : Int) := by omega
              have e2 := HZ.out k hltk y
              obtain ⟨m0, m1, m2, m3, m4, m5⟩ := HM.out.ext y
              have HCT := Lib.hid (col_takeD q P r xx yy hltk)
              have HNK := Lib.hid (HNJ.out Z[k] (List.getElem_mem hltk))
              generalize Z[k] = zz at *
              have HRK := Lib.hid (HRE.out (.slice ap P.length cp) ⟨xx, yy, zz⟩ HNK.out)
              have HIK := Lib.hid (HIN.out xx yy zz HNK.out)
              simp only at HRK HIK
              have HDE := Lib.hid (show isDry q P r ⟨xx, yy, zz⟩ = (!reachedB P r ⟨xx, yy, zz⟩ && containsS q.l q.m ⟨xx, yy, zz, xx, yy, zz⟩) from rfl)
              obtain ⟨L0, hL0⟩ : ∃ L0, D ++ colD q P r xx yy (Z.take k) = L0 := ⟨_, rfl⟩
              rw [hL0] at HO hv1 hfew
              rw [hL0]
              have HL0 := Lib.hid hL0
              clear hL0
              cases hrb : reachedB P r ⟨xx, yy, zz⟩
              case true =>
                rw [hrb] at HRK HDE
                clear hrb
                go_wp2_with fail
                go_at_call 67; refine (HRK.out _ ((HPP.out.ext y).below (by (repeat (first | exact grow_refl _ | refine grow_ext _ ?_ | refine grow_alloc _ ?_ | refine grow_drew ?_))))).mono ?_; rintro e w' ⟨rfl, y1, rfl⟩
                go_wp2
                go_roundw
                case rel => exact ⟨k + 1, by omega, by go_num, ext_of (by (repeat (first | exact grow_refl _ | refine grow_ext _ ?_ | refine grow_alloc _ ?_ | refine grow_drew ?_))), by rw [HCT.out, HDE.out, ← List.append_assoc, HL0.out]; simpa using own_ext (HO.out.alloc _) _⟩
                case measure => simp [intOf]; omega
              rw [hrb] at HRK HDE
              clear hrb
              cases hcb : containsS q.l q.m ⟨xx, yy, zz, xx, yy, zz⟩
              case false =>
                rw [hcb] at HIK HDE
                clear hcb
                go_wp2_with fail
                go_at_call 67; refine (HRK.out _ ((HPP.out.ext y).below (by (repeat (first | exact grow_refl _ | refine grow_ext _ ?_ | refine grow_alloc _ ?_ | refine grow_drew ?_))))).mono ?_; rintro e w' ⟨rfl, y1, rfl⟩
                go_wp2_with fail
                go_at_call 44; refine (HIK.out _ ((HQ.out.boxes.below (HBX.out y)).below (by (repeat (first | exact grow_refl _ | refine grow_ext _ ?_ | refine grow_alloc _ ?_ | refine grow_drew ?_)))) ((HQ.out.holes.below (HBX.out y)).below (by (repeat (first | exact grow_refl _ | refine grow_ext _ ?_ | refine grow_alloc _ ?_ | refine grow_drew ?_))))).mono ?_; rintro e w' ⟨rfl, y2, rfl⟩
                go_wp2
                go_roundw
                case rel => exact ⟨k + 1, by omega, by go_num, ext_of (by (repeat (first | exact grow_refl _ | refine grow_ext _ ?_ | refine grow_alloc _ ?_ | refine grow_drew ?_))), by rw [HCT.out, HDE.out, ← List.append_assoc, HL0.out]; simpa using own_ext (own_ext (HO.out.alloc _) _) _⟩
                case measure => simp [intOf]; omega
              rw [hcb] at HIK HDE
              clear hcb
              go_wp2_with fail
              go_at_call 67; refine (HRK.out _ ((HPP.out.ext y).below (by (repeat (first | exact grow_refl _ | refine grow_ext _ ?_ | refine grow_alloc _ ?_ | refine grow_drew ?_))))).mono ?_; rintro e w' ⟨rfl, y1, rfl⟩
              go_wp2_with fail
              go_at_call 44; refine (HIK.out _ ((HQ.out.boxes.below (HBX.out y)).below (by (repeat (first | exact grow_refl _ | refine grow_ext _ ?_ | refine grow_alloc _ ?_ | refine grow_drew ?_)))) ((HQ.out.holes.below (HBX.out y)).below (by (repeat (first | exact grow_refl _ | refine grow_ext _ ?_ | refine grow_alloc _ ?_ | refine grow_drew ?_))))).mono ?_; rintro e w' ⟨rfl, y2, rfl⟩
              go_wp2_with (at_builtin; refine app_own_b rfl _ _ 46 rfl 30 (.agg #[.int .i64 0, .int .i64 0, .int .i64 0]) 3 24 Tryz.underlying46 info_pt rfl (by decide) (W0.heap.size) (.slice av L0.length cv) (L0.length) (ptCells L0) _ rfl ((own_ext (own_ext (HO.out.alloc _) _) _).alloc _) _ 1 1 (ptCells [⟨xx, yy, zz⟩]) rfl rfl (cells_new ?_ _ _ _ rfl) (ptCells_one _) (by omega) (by decide) ?_ ?_; (first | rfl | simp [size_ext]); (simp only [World.size_alloc, size_ext]; omega); intro v' w1 hown' hgrow; have HO2 := Lib.hid hown'; obtain ⟨a', c', rfl, _, hc2, -⟩ := own_shape hown'; have hc3 : c' ≤ 9223372036854775807 := hc2; have HGR := Lib.hid hgrow; clear hown' hgrow hc2)
              go_roundw
              case rel =>
                refine ⟨k + 1, by omega, by go_num, ?_, ?_⟩
                · exact ext_grown2 (grow_alloc _ (grow_ext _ (grow_ext _ (grow_alloc _ (below_ext W0 y))))) HGR.out (fun q e => (HO.out.lt q e).1)
                · rw [HCT.out, HDE.out, ← List.append_assoc, HL0.out]
                  exact own_pts HO2.out rfl
              case measure => simp [intOf]; omega
            · obtain rfl : k = Z.length := by omega
              rw [List.take_length] at HO hv1 hfew
              rw [List.take_length]
              go_wp2
              go_roundw
              case rel => exact ⟨j + 1, by omega, by go_num, ⟨_, rfl⟩, by rw [HRT.out, ← List.append_assoc, HD.out]; exact HO.out⟩
              case measure => simp [intOf]; omega
        · obtain rfl : j = Y.length := by omega
          rw [List.take_length] at HO hv1
          rw [List.take_length]
          go_wp2
          go_roundw
          case rel => exact ⟨i + 1, by omega, by go_num, ⟨_, rfl⟩, by rw [HPT.out]; exact HO.out⟩
          case measure => simp [intOf]; omega
    · obtain rfl : i = X.length := by omega
      rw [List.take_length] at HO hv1
      rw [List.take_length]
      go_wp2
      go_ret2
      exact ⟨_, rfl, own_mono HO.out HB.out.size, ext_of (HBX.out y)⟩

theorem pDry_c (q : Mb) (l : List Br) (rs : List Rn) (v u : Value) (st r : Int) (L : List Pt) (E : Int) (h : dryE q l rs st r = (L, E)) (w : World) (hq : MbAt w q) (hl : Bars w v l) (hr : Runs w u rs) :
    Calls Tryz.prog 37 #[(.agg #[.string q.name, q.u, q.t, .int .i64 q.cover, .int .i64 q.agg, .int .i64 q.poker]), v, u, .int .i64 st, .int .i64 r] w (RetPtsE w L E) := by
  unfold dryE at h
  by_cases hok : okMb q = true ∧ laidB l rs = true
  · rw [if_pos hok] at h
    cases hst : (stepB st && reachB r)
    · rw [hst, if_neg (by decide)] at h
      cases h
      exact pDry_b q l rs v u st r hok.1 hok.2 hst w hq hl hr
    · rw [hst, if_pos rfl] at h
      rw [Bool.and_eq_true] at hst
      obtain ⟨h1, h2⟩ := stepB_iff.1 hst.1
      obtain ⟨r1, r2⟩ := reachB_iff.1 hst.2
      exact pDry_d q l rs v u st r hok.1 hok.2 h1 h2 r1 r2 L E h w hq hl hr
  · rw [if_neg hok] at h
    cases h
    exact pDry_a q l rs v u st r hok w hq hl hr

def passB (x : List Pt × Int) : Bool := x.2 == 0 && x.1.isEmpty
set_option maxHeartbeats 2000000 in
theorem pPasses_c (q : Mb) (l : List Br) (rs : List Rn) (v u : Value) (st r : Int) (L : List Pt) (E : Int) (h : dryE q l rs st r = (L, E)) (w : World) (hq : MbAt w q) (hl : Bars w v l) (hr : Runs w u rs) :
    Calls Tryz.prog 38 #[(.agg #[.string q.name, q.u, q.t, .int .i64 q.cover, .int .i64 q.agg, .int .i64 q.poker]), v, u, .int .i64 st, .int .i64 r] w (Ret w (.tuple #[.bool (passB (L, E)), .int .i64 E])) := by
  have HQ := Lib.hid hq
  have HL := Lib.hid hl
  have HR := Lib.hid hr
  have HD := Lib.hid (fun w hq hl hr => pDry_c q l rs v u st r L E h w hq hl hr)
  have HP := Lib.hid (show passB (L, E) = (E == 0 && L.isEmpty) from rfl)
  clear hq hl hr h
  obtain ⟨n, hn⟩ : ∃ n : Int, (L.length : Int) = n := ⟨_, rfl⟩
  have hne : (n == 0) = L.isEmpty := by subst hn; cases L <;> simp <;> omega
  cases dE : E == 0
  · rw [dE, Bool.false_and] at HP
    go_enter Tryz.func38, Tryz.ntmps38
    go_wp2_with fail
    go_at_call 37; refine (HD.out _ (HQ.out.below (by (repeat (first | exact grow_refl _ | refine grow_ext _ ?_ | refine grow_alloc _ ?_ | refine grow_drew ?_)))) (HL.out.below (by (repeat (first | exact grow_refl _ | refine grow_ext _ ?_ | refine grow_alloc _ ?_ | refine grow_drew ?_)))) (HR.out.below (by (repeat (first | exact grow_refl _ | refine grow_ext _ ?_ | refine grow_alloc _ ?_ | refine grow_drew ?_))))).mono ?_; rintro e w' hret
    obtain ⟨a, c, rfl, k1, k2, -, x1, rfl⟩ := hret.open
    clear hret hn hne
    go_wp2
    go_ret2
    rw [HP.out]
    exact Ret.of (by (repeat (first | exact grow_refl _ | refine grow_ext _ ?_ | refine grow_alloc _ ?_ | refine grow_drew ?_)))
  · rw [dE, Bool.true_and] at HP
    go_enter Tryz.func38, Tryz.ntmps38
    go_wp2_with fail
    go_at_call 37; refine (HD.out _ (HQ.out.below (by (repeat (first | exact grow_refl _ | refine grow_ext _ ?_ | refine grow_alloc _ ?_ | refine grow_drew ?_)))) (HL.out.below (by (repeat (first | exact grow_refl _ | refine grow_ext _ ?_ | refine grow_alloc _ ?_ | refine grow_drew ?_)))) (HR.out.below (by (repeat (first | exact grow_refl _ | refine grow_ext _ ?_ | refine grow_alloc _ ?_ | refine grow_drew ?_))))).mono ?_; rintro e w' hret
    obtain ⟨a, c, rfl, k1, k2, -, x1, rfl⟩ := hret.open
    clear hret
    go_wp2
    go_ret2
    rw [HP.out]
    exact Ret.of (by (repeat (first | exact grow_refl _ | refine grow_ext _ ?_ | refine grow_alloc _ ?_ | refine grow_drew ?_)))

end Go.Proofs.YtmoechhfjmemaaaGreat

namespace Go.Proofs.YtmoechhfjmemaaaGreat
open Go.RowKit
set_option maxRecDepth 20000

set_option maxRecDepth 100000 in
set_option maxHeartbeats 16000000 in
theorem rDry_c (q : Mb) (l : List Br) (rs : List Rn) (v u : Value) (st r : Int) (h1 : 1 ≤ st) (h2 : st ≤ 1048576) (r1 : 0 ≤ r) (r2 : r ≤ 1048576) (hm : okMb q = true) (hv : laidB l rs = true) (hlg : largeB q st = false) (w : World) (hq : MbAt w q) (hl : Bars w v l) (hr : Runs w u rs) :
    Calls Tryz.prog 39 #[(.agg #[.string q.name, q.u, q.t, .int .i64 q.cover, .int .i64 q.agg, .int .i64 q.poker]), v, u, .int .i64 st, .int .i64 r] w (RetPtO w (gridD q (rodsI l rs) st r)) := by
  have HQ := Lib.hid hq
  have HL := Lib.hid hl
  have HR := Lib.hid hr
  have hs := (okMb_facts hm).1
  have HH := Lib.hid (fun w hl => refSolHull_c q.l q.u q.t (solid_some hs) w hl)
  have HPL := Lib.hid (fun w hq hl hr => rPlaces_c q l rs v u st h1 h2 hm hv hlg w hq hl hr)
  have HK := Lib.hid (fun x hx y hy z hz => near_iff.1 (tip_grid (st := st) hm h1 x hx y hy z hz).2.1)
  have HRE := Lib.hid (fun v p hp w hv => rReached_c (gridP q (rodsI l rs) st) v r p hp (places_near hm h1) ⟨r1, r2⟩ w hv)
  have HIN := Lib.hid (fun x y z w hl hm => refInside17_c q.l q.m q.u q.t x y z (solid_few hs) w hl hm)
  have HPE := Lib.hid (show gridP q (rodsI l rs) st = placesI q (rodsI l rs) (gridL (hullX q.l).lx (hullX q.l).hx st) (gridL (hullX q.l).ly (hullX q.l).hy st) (gridL (hullX q.l).lz (hullX q.l).hz st) from rfl)
  rw [← HPE.out] at HPL
  unfold gridD
  generalize gridP q (rodsI l rs) st = P at *
  clear HPE
  have hval := valid_iff.1 (hull_in hs)
  have hfew := (grid_few hs h1 hlg).2
  generalize hullX q.l = H at *
  obtain ⟨v1, v2, v3, v4, v5, v6, v7, v8, v9⟩ := hval
  have HN := Lib.hid hfew
  have GX := Lib.hid (fun i h => gridL_get H.lx H.hx st i h)
  have GY := Lib.hid (fun i h => gridL_get H.ly H.hy st i h)
  have GZ := Lib.hid (fun i h => gridL_get H.lz H.hz st i h)
  have LX := Lib.hid (show ∀ i : Nat, H.lx + (i : Int) * st ≤ H.hx ↔ i < (gridL H.lx H.hx st).length from fun i => by rw [cnt_last v2 h1 i (by omega), gridL_len]; omega)
  have LY := Lib.hid (show ∀ i : Nat, H.ly + (i : Int) * st ≤ H.hy ↔ i < (gridL H.ly H.hy st).length from fun i => by rw [cnt_last v5 h1 i (by omega), gridL_len]; omega)
  have LZ := Lib.hid (show ∀ i : Nat, H.lz + (i : Int) * st ≤ H.hz ↔ i < (gridL H.lz H.hz st).length from fun i => by rw [cnt_last v8 h1 i (by omega), gridL_len]; omega)
  generalize gridL H.lx H.hx st = X at *
  generalize gridL H.ly H.hy st = Y at *
  generalize gridL H.lz H.hz st = Z at *
  obtain ⟨lx, ly, lz, hx, hy, hz⟩ := H
  simp only at *
  clear hq hl hr hs hlg hfew hm hv r1 r2
  go_enter Tryz.func39, Tryz.ntmps39
  go_wp2_with fail
  go_at_call 36
  refine (HPL.out _ (HQ.out.below (by (repeat (first | exact grow_refl _ | refine grow_ext _ ?_ | refine grow_alloc _ ?_ | refine grow_drew ?_)))) (HL.out.below (by (repeat (first | exact grow_refl _ | refine grow_ext _ ?_ | refine grow_alloc _ ?_ | refine grow_drew ?_)))) (HR.out.below (by (repeat (first | exact grow_refl _ | refine grow_ext _ ?_ | refine grow_alloc _ ?_ | refine grow_drew ?_))))).mono ?_
  rintro e w' ⟨vp, rfl, hownp, xp, rfl⟩
  have HPP := Lib.hid (Pts.of_own hownp)
  obtain ⟨ap, cp, rfl, kp, mp, -⟩ := own_shape hownp
  have np : cp ≤ 9223372036854775807 := mp
  clear hownp mp
  go_wp2_with fail
  go_at_call 58; refine (HH.out _ (HQ.out.boxes.below (by (repeat (first | exact grow_refl _ | refine grow_ext _ ?_ | refine grow_alloc _ ?_ | refine grow_drew ?_))))).mono ?_; rintro e w' ⟨rfl, x1, rfl⟩
  go_wp2_with fail
  refine world_mask (fun W => Below w.heap.size w W ∧ MCells22 W w.heap.size q.name q.u q.t q.cover q.agg q.poker ∧ BoxAt W (w.heap.size + 1 + xp.heap.size + x1.heap.size) 0 ⟨lx, ly, lz, hx, hy, hz⟩ ∧ Pts W (.slice ap P.length cp) P) _ ⟨by (repeat (first | exact grow_refl _ | refine grow_ext _ ?_ | refine grow_alloc _ ?_ | refine grow_drew ?_)), by simp [MCells22, go_sem], by simp [BoxAt, go_sem], HPP.out.below (by (repeat (first | exact grow_refl _ | refine grow_ext _ ?_ | refine grow_alloc _ ?_ | refine grow_drew ?_)))⟩ ?_
  clear HPP HPL
  rintro W0 ⟨hb, hm, hg, hpp⟩
  generalize w.heap.size + 1 + xp.heap.size + x1.heap.size = gg at *
  have HB := Lib.hid hb
  have HM := Lib.hid hm
  have HG := Lib.hid hg
  have HPP := Lib.hid hpp
  have HBX := Lib.hid (show ∀ x : World, Below w.heap.size w (ext W0 x) from fun x => hb.trans ((below_ext W0 x).mono hb.size))
  obtain ⟨c0, c1, c2, c3, c4, c5⟩ := hg
  simp only [Nat.zero_add] at c1 c2 c3 c4 c5
  clear hb hm hpp
  go_wp2_with fail
  clear c0 c1 c2 c3 c4 c5
  go_loopw [13, 14] (fun o a wr => ∃ k : Nat, k ≤ X.length ∧ a = .int .i64 (lx + (k : Int) * st) ∧ (∃ y, wr = ext W0 y) ∧ wr.ownsRow W0.heap.size 30 3 o (dryI q P r (X.take k) Y Z).length (ptCells (dryI q P r (X.take k) Y Z))) (fun _ a _ => (hx + 1 - intOf a).toNat)
  case atStart => exact ⟨0, by omega, by simp, ext_of (Below.refl _ _), World.ownsRow_nil _ _ _ _⟩
  case round =>
    obtain ⟨i, hi, rfl, ⟨y, rfl⟩, hown⟩ := hrel
    have HO := Lib.hid hown
    obtain ⟨av, cv, rfl, hv1, hv2, -⟩ := own_shape hown
    have hv3 : cv ≤ 9223372036854775807 := hv2
    obtain ⟨c0, c1, c2, c3, c4, c5⟩ := HG.out.ext y
    simp only [Nat.zero_add] at c1 c2 c3 c4 c5
    have hor := LX.out i
    clear hown
    by_cases hlt : i < X.length
    · have hor1 := hor.2 hlt
      have HPT := Lib.hid (dry_takeD q P r X Y Z hlt)
      have HKI := Lib.hid (HK.out X[i] (List.getElem_mem hlt))
      have HFW := Lib.hid (fun (x y : Int) j k (hj : j < Y.length) (hk : k ≤ Z.length) => dry_fewD (q := q) (P := P) (r := r) (x := x) (y := y) HN.out hlt hj hk)
      have hxi := GX.out i hlt
      obtain ⟨A, hA⟩ : ∃ A, lx + (i : Int) * st = A := ⟨_, rfl⟩
      have HSA := Lib.hid (grid_step hA)
      have hA0 := grid_lo h1 hA
      rw [hA] at hor1 hxi
      rw [hA]
      rw [hxi] at HPT HKI
      clear hor hxi hA
      go_wp2_with fail
      clear c0 c1 c2 c3 c4 c5
      go_loopw [13, 15] (fun o a wr => ∃ j : Nat, j ≤ Y.length ∧ a = .int .i64 (ly + (j : Int) * st) ∧ (∃ y, wr = ext W0 y) ∧ wr.ownsRow W0.heap.size 30 3 o (dryI q P r (X.take i) Y Z ++ rowD q P r A (Y.take j) Z).length (ptCells (dryI q P r (X.take i) Y Z ++ rowD q P r A (Y.take j) Z))) (fun _ a _ => (hy + 1 - intOf a).toNat)
      case atStart => exact ⟨0, by omega, by simp, ⟨y, rfl⟩, by simpa [rowD] using HO.out⟩
      case round =>
        clear hv1 hv2 hv3 HO
        obtain ⟨j, hj, rfl, ⟨y, rfl⟩, hown⟩ := hrel
        have HO := Lib.hid hown
        obtain ⟨av, cv, rfl, hv1, hv2, -⟩ := own_shape hown
        have hv3 : cv ≤ 9223372036854775807 := hv2
        obtain ⟨c0, c1, c2, c3, c4, c5⟩ := HG.out.ext y
        simp only [Nat.zero_add] at c1 c2 c3 c4 c5
        have hor := LY.out j
        clear hown
        by_cases hltj : j < Y.length
        · have hor2 := hor.2 hltj
          have HRT := Lib.hid (row_takeD q P r A Y Z hltj)
          have HKJ := Lib.hid (HKI.out Y[j] (List.getElem_mem hltj))
          have hxi := GY.out j hltj
          obtain ⟨B, hBe⟩ : ∃ B, ly + (j : Int) * st = B := ⟨_, rfl⟩
          have HSB := Lib.hid (grid_step hBe)
          have hB0 := grid_lo h1 hBe
          rw [hBe] at hor2 hxi
          rw [hBe]
          rw [hxi] at HRT HKJ
          clear hor hxi hBe
          have HFK := Lib.hid (fun k (hk : k ≤ Z.length) => HFW.out A B j k hltj hk)
          obtain ⟨D, hD⟩ : ∃ D, dryI q P r (X.take i) Y Z ++ rowD q P r A (Y.take j) Z = D := ⟨_, rfl⟩
          rw [hD] at HO hv1 HFK
          rw [hD]
          have HD := Lib.hid hD
          clear hD
          go_wp2_with fail
          clear c0 c1 c2 c3 c4 c5
          go_loopw [13, 16] (fun o a wr => ∃ k : Nat, k ≤ Z.length ∧ a = .int .i64 (lz + (k : Int) * st) ∧ (∃ y, wr = ext W0 y) ∧ wr.ownsRow W0.heap.size 30 3 o (D ++ colD q P r A B (Z.take k)).length (ptCells (D ++ colD q P r A B (Z.take k)))) (fun _ a _ => (hz + 1 - intOf a).toNat)
          case atStart => exact ⟨0, by omega, by simp, ⟨y, rfl⟩, by simpa [colD] using HO.out⟩
          case round =>
            clear hv1 hv2 hv3 HO
            obtain ⟨k, hk, rfl, ⟨y, rfl⟩, hown⟩ := hrel
            have HO := Lib.hid hown
            obtain ⟨av, cv, rfl, hv1, hv2, -⟩ := own_shape hown
            have hv3 : cv ≤ 9223372036854775807 := hv2
            have hfew := HFK.out k hk
            obtain ⟨c0, c1, c2, c3, c4, c5⟩ := HG.out.ext y
            simp only [Nat.zero_add] at c1 c2 c3 c4 c5
            have hor := LZ.out k
            clear hown
            by_cases hltk : k < Z.length
            · have hor3 := hor.2 hltk
              obtain ⟨m0, m1, m2, m3, m4, m5⟩ := HM.out.ext y
              have HCT := Lib.hid (col_takeD q P r A B hltk)
              have HNK := Lib.hid (HKJ.out Z[k] (List.getElem_mem hltk))
              have hxi := GZ.out k hltk
              obtain ⟨C, hCe⟩ : ∃ C, lz + (k : Int) * st = C := ⟨_, rfl⟩
              have HSC := Lib.hid (grid_step hCe)
              have hC0 := grid_lo h1 hCe
              rw [hCe] at hor3 hxi
              rw [hCe]
              rw [hxi] at HCT HNK
              clear hor hxi hCe
              have HRK := Lib.hid (HRE.out (.slice ap P.length cp) ⟨A, B, C⟩ HNK.out)
              have HIK := Lib.hid (HIN.out A B C)
              simp only at HRK
              have HDE := Lib.hid (show isDry q P r ⟨A, B, C⟩ = (!reachedB P r ⟨A, B, C⟩ && containsS q.l q.m (ptX A B C)) from rfl)
              obtain ⟨L0, hL0⟩ : ∃ L0, D ++ colD q P r A B (Z.take k) = L0 := ⟨_, rfl⟩
              rw [hL0] at HO hv1 hfew
              rw [hL0]
              have HL0 := Lib.hid hL0
              clear hL0
              cases hcb : containsS q.l q.m (ptX A B C)
              case false =>
                rw [hcb, Bool.and_false] at HDE
                rw [hcb] at HIK
                clear hcb
                go_wp2_with fail
                go_at_call 80; refine (HIK.out _ ((HQ.out.boxes.below (HBX.out y)).below (by (repeat (first | exact grow_refl _ | refine grow_ext _ ?_ | refine grow_alloc _ ?_ | refine grow_drew ?_)))) ((HQ.out.holes.below (HBX.out y)).below (by (repeat (first | exact grow_refl _ | refine grow_ext _ ?_ | refine grow_alloc _ ?_ | refine grow_drew ?_))))).mono ?_; rintro e w' ⟨rfl, y2, rfl⟩
                go_wp2
                go_roundw
                case rel => exact ⟨k + 1, by omega, by rw [HSC.out], ext_of (by (repeat (first | exact grow_refl _ | refine grow_ext _ ?_ | refine grow_alloc _ ?_ | refine grow_drew ?_))), by rw [HCT.out, HDE.out, ← List.append_assoc, HL0.out]; simpa using own_ext (HO.out.alloc _) _⟩
                case measure => simp [intOf]; omega
              rw [hcb, Bool.and_true] at HDE
              rw [hcb] at HIK
              clear hcb
              cases hrb : reachedB P r ⟨A, B, C⟩
              case true =>
                rw [hrb] at HRK HDE
                clear hrb
                go_wp2_with fail
                go_at_call 80; refine (HIK.out _ ((HQ.out.boxes.below (HBX.out y)).below (by (repeat (first | exact grow_refl _ | refine grow_ext _ ?_ | refine grow_alloc _ ?_ | refine grow_drew ?_)))) ((HQ.out.holes.below (HBX.out y)).below (by (repeat (first | exact grow_refl _ | refine grow_ext _ ?_ | refine grow_alloc _ ?_ | refine grow_drew ?_))))).mono ?_; rintro e w' ⟨rfl, y2, rfl⟩
                go_wp2_with fail
                go_at_call 25; refine (HRK.out _ ((HPP.out.ext y).below (by (repeat (first | exact grow_refl _ | refine grow_ext _ ?_ | refine grow_alloc _ ?_ | refine grow_drew ?_))))).mono ?_; rintro e w' ⟨rfl, y1, rfl⟩
                go_wp2
                go_roundw
                case rel => exact ⟨k + 1, by omega, by rw [HSC.out], ext_of (by (repeat (first | exact grow_refl _ | refine grow_ext _ ?_ | refine grow_alloc _ ?_ | refine grow_drew ?_))), by rw [HCT.out, HDE.out, ← List.append_assoc, HL0.out]; simpa using own_ext (own_ext (HO.out.alloc _) _) _⟩
                case measure => simp [intOf]; omega
              rw [hrb] at HRK HDE
              clear hrb
              go_wp2_with fail
              go_at_call 80; refine (HIK.out _ ((HQ.out.boxes.below (HBX.out y)).below (by (repeat (first | exact grow_refl _ | refine grow_ext _ ?_ | refine grow_alloc _ ?_ | refine grow_drew ?_)))) ((HQ.out.holes.below (HBX.out y)).below (by (repeat (first | exact grow_refl _ | refine grow_ext _ ?_ | refine grow_alloc _ ?_ | refine grow_drew ?_))))).mono ?_; rintro e w' ⟨rfl, y2, rfl⟩
              go_wp2_with fail
              go_at_call 25; refine (HRK.out _ ((HPP.out.ext y).below (by (repeat (first | exact grow_refl _ | refine grow_ext _ ?_ | refine grow_alloc _ ?_ | refine grow_drew ?_))))).mono ?_; rintro e w' ⟨rfl, y1, rfl⟩
              go_wp2_with (at_builtin; refine app_own_b rfl _ _ 46 rfl 30 (.agg #[.int .i64 0, .int .i64 0, .int .i64 0]) 3 24 Tryz.underlying46 info_pt rfl (by decide) (W0.heap.size) (.slice av L0.length cv) (L0.length) (ptCells L0) _ rfl ((own_ext (own_ext (HO.out.alloc _) _) _).alloc _) _ 1 1 (ptCells [⟨A, B, C⟩]) rfl rfl (cells_new ?_ _ _ _ rfl) (ptCells_one _) (by omega) (by decide) ?_ ?_; (first | rfl | simp [size_ext]); (simp only [World.size_alloc, size_ext]; omega); intro v' w1 hown' hgrow; have HO2 := Lib.hid hown'; obtain ⟨a', c', rfl, _, hc2, -⟩ := own_shape hown'; have hc3 : c' ≤ 9223372036854775807 := hc2; have HGR := Lib.hid hgrow; clear hown' hgrow hc2)
              go_roundw
              case rel =>
                refine ⟨k + 1, by omega, by rw [HSC.out], ?_, ?_⟩
                · exact ext_grown2 (grow_alloc _ (grow_ext _ (grow_ext _ (grow_alloc _ (below_ext W0 y))))) HGR.out (fun q e => (HO.out.lt q e).1)
                · rw [HCT.out, HDE.out, ← List.append_assoc, HL0.out]
                  exact own_pts HO2.out rfl
              case measure => simp [intOf]; omega
            · obtain rfl : k = Z.length := by omega
              have hor3 : ¬ (lz + (Z.length : Int) * st ≤ hz) := fun h => hltk (hor.1 h)
              obtain ⟨C, hCe⟩ : ∃ C, lz + (Z.length : Int) * st = C := ⟨_, rfl⟩
              rw [hCe] at hor3
              rw [hCe]
              clear hor hCe hltk
              rw [List.take_length] at HO hv1 hfew
              rw [List.take_length]
              go_wp2
              go_roundw
              case rel => exact ⟨j + 1, by omega, by rw [HSB.out], ⟨_, rfl⟩, by rw [HRT.out, ← List.append_assoc, HD.out]; exact HO.out⟩
              case measure => simp [intOf]; omega
        · obtain rfl : j = Y.length := by omega
          have hor2 : ¬ (ly + (Y.length : Int) * st ≤ hy) := fun h => hltj (hor.1 h)
          obtain ⟨B, hBe⟩ : ∃ B, ly + (Y.length : Int) * st = B := ⟨_, rfl⟩
          rw [hBe] at hor2
          rw [hBe]
          clear hor hBe hltj
          rw [List.take_length] at HO hv1
          rw [List.take_length]
          go_wp2
          go_roundw
          case rel => exact ⟨i + 1, by omega, by rw [HSA.out], ⟨_, rfl⟩, by rw [HPT.out]; exact HO.out⟩
          case measure => simp [intOf]; omega
    · obtain rfl : i = X.length := by omega
      have hor1 : ¬ (lx + (X.length : Int) * st ≤ hx) := fun h => hlt (hor.1 h)
      obtain ⟨A, hA⟩ : ∃ A, lx + (X.length : Int) * st = A := ⟨_, rfl⟩
      rw [hA] at hor1
      rw [hA]
      clear hor hA hlt
      rw [List.take_length] at HO hv1
      rw [List.take_length]
      go_wp2
      go_ret
      exact ⟨_, rfl, own_mono HO.out HB.out.size, ext_of (HBX.out y)⟩

end Go.Proofs.YtmoechhfjmemaaaGreat

