/- RefL5, RefL6, RefL7 in one text. -/
import Derived.Test.YtkjljneehgmmaaaGreatRefLK1
import Derived.Test.YtkjljneehgmmaaaGreatAaK3
import Derived.Test.YtkjljneehgmmaaaGreatLaidK4
import Derived.Deep.DeepCutAuto
import Derived.Deep.RegionHeld3
namespace Go.Proofs.YtkjljneehgmmaaaGreat
open Go.RowKit
set_option maxRecDepth 20000
set_option maxHeartbeats 4000000

theorem refWithin_v (n : Int) (r : Bool) (h : inI n (-1048576) 1048576 = r) (w : World) : Calls Tryz.prog 208 #[.int .i64 n] w (Ret w (.bool r)) := by
 unfold inI at h
 by_cases h1 : -1048576 ≤ n
 ·rw [decide_eq_true h1, Bool.true_and] at h
  have HR := hd0 h
  clear h
  go_enter Tryz.func208, Tryz.ntmps208
  go_wp2
  go_ret
  rw [← HR.out]
  exact Ret.of gro
 ·rw [decide_eq_false h1, Bool.false_and] at h
  subst h
  go_enter Tryz.func208, Tryz.ntmps208
  go_wp2
  go_ret
  exact Ret.of gro
theorem nearB_in (p : Pt) : nearB p 1048576 = (inI p.x (-1048576) 1048576 && (inI p.y (-1048576) 1048576 && inI p.z (-1048576) 1048576)) := rfl

theorem refNear15_v (p : Pt) (r : Bool) (h : nearB p 1048576 = r) (w : World) : Calls Tryz.prog 153 #[(.agg #[.int .i64 p.x, .int .i64 p.y, .int .i64 p.z])] w (Ret w (.bool r)) := by
 rw [nearB_in] at h
 have HX := hd0 (fun r h w => refWithin_v p.x r h w)
 have HY := hd0 (fun r h w => refWithin_v p.y r h w)
 have HZ := hd0 (fun r h w => refWithin_v p.z r h w)
 cases hx : inI p.x (-1048576) 1048576
 ·obtain rfl : false = r := by rw [← h, hx]; rfl
  have H1 := hd0 hx
  clear h hx
  go_enter Tryz.func153, Tryz.ntmps153
  go_wp2_with fail
  go_at_call 208; refine (HX.out _ H1.out _).mono ?_; rintro e w' ⟨rfl, x1, rfl⟩
  go_wp2
  go_ret
  exact Ret.of gro
 rw [hx, Bool.true_and] at h
 have H1 := hd0 hx
 clear hx
 cases hy : inI p.y (-1048576) 1048576
 ·obtain rfl : false = r := by rw [← h, hy]; rfl
  have H2 := hd0 hy
  clear h hy
  go_enter Tryz.func153, Tryz.ntmps153
  go_wp2_with fail
  go_at_call 208; refine (HX.out _ H1.out _).mono ?_; rintro e w' ⟨rfl, x1, rfl⟩
  go_wp2_with fail
  go_at_call 208; refine (HY.out _ H2.out _).mono ?_; rintro e w' ⟨rfl, x2, rfl⟩
  go_wp2
  go_ret
  exact Ret.of gro
 rw [hy, Bool.true_and] at h
 have H2 := hd0 hy
 have H3 := hd0 h
 clear hy h
 go_enter Tryz.func153, Tryz.ntmps153
 go_wp2_with fail
 go_at_call 208; refine (HX.out _ H1.out _).mono ?_; rintro e w' ⟨rfl, x1, rfl⟩
 go_wp2_with fail
 go_at_call 208; refine (HY.out _ H2.out _).mono ?_; rintro e w' ⟨rfl, x2, rfl⟩
 go_wp2_with fail
 go_at_call 208; refine (HZ.out _ H3.out _).mono ?_; rintro e w' ⟨rfl, x3, rfl⟩
 go_wp2
 go_ret
 exact Ret.of gro

theorem refUnit_c (n : Int) (h : n ≠ 0 ∧ -3 ≤ n ∧ n ≤ 3) (w : World) : Calls Tryz.prog 246 #[.int .i64 n] w (Ret w (.agg #[.int .i64 (unitP n).x, .int .i64 (unitP n).y, .int .i64 (unitP n).z])) := by
 have H1 : ∀ w, Calls Tryz.prog 246 #[.int .i64 1] w (Ret w (.agg #[.int .i64 1, .int .i64 0, .int .i64 0])) := fun w => by
  go_enter Tryz.func246, Tryz.ntmps246
  go_wp2
  refine bodyPost_ret (v := .agg #[.int .i64 1, .int .i64 0, .int .i64 0]) (by simp [results, Tryz.results246, go_sem]) rfl ?_
  exact Ret.of gro
 have H2 : ∀ w, Calls Tryz.prog 246 #[.int .i64 2] w (Ret w (.agg #[.int .i64 0, .int .i64 1, .int .i64 0])) := fun w => by
  go_enter Tryz.func246, Tryz.ntmps246
  go_wp2
  refine bodyPost_ret (v := .agg #[.int .i64 0, .int .i64 1, .int .i64 0]) (by simp [results, Tryz.results246, go_sem]) rfl ?_
  exact Ret.of gro
 have H3 : ∀ w, Calls Tryz.prog 246 #[.int .i64 3] w (Ret w (.agg #[.int .i64 0, .int .i64 0, .int .i64 1])) := fun w => by
  go_enter Tryz.func246, Tryz.ntmps246
  go_wp2
  refine bodyPost_ret (v := .agg #[.int .i64 0, .int .i64 0, .int .i64 1]) (by simp [results, Tryz.results246, go_sem]) rfl ?_
  exact Ret.of gro
 have K1 := hd0 H1
 have K2 := hd0 H2
 have K3 := hd0 H3
 clear H1 H2 H3
 rcases (show n = 1 ∨ n = 2 ∨ n = 3 ∨ n = -1 ∨ n = -2 ∨ n = -3 by omega) with rfl | rfl | rfl | rfl | rfl | rfl
 ·exact K1.out w
 ·exact K2.out w
 ·exact K3.out w
 ·clear h
  go_enter Tryz.func246, Tryz.ntmps246
  go_wp2_with fail
  go_at_call 246; refine (K1.out _).mono ?_; rintro e w' ⟨rfl, x1, rfl⟩
  go_wp2
  refine bodyPost_ret (v := .agg #[.int .i64 (-1), .int .i64 0, .int .i64 0]) (by simp [results, Tryz.results246, go_sem]) rfl ?_
  exact Ret.of gro
 ·clear h
  go_enter Tryz.func246, Tryz.ntmps246
  go_wp2_with fail
  go_at_call 246; refine (K2.out _).mono ?_; rintro e w' ⟨rfl, x1, rfl⟩
  go_wp2
  refine bodyPost_ret (v := .agg #[.int .i64 0, .int .i64 (-1), .int .i64 0]) (by simp [results, Tryz.results246, go_sem]) rfl ?_
  exact Ret.of gro
 ·clear h
  go_enter Tryz.func246, Tryz.ntmps246
  go_wp2_with fail
  go_at_call 246; refine (K3.out _).mono ?_; rintro e w' ⟨rfl, x1, rfl⟩
  go_wp2
  refine bodyPost_ret (v := .agg #[.int .i64 0, .int .i64 0, .int .i64 (-1)]) (by simp [results, Tryz.results246, go_sem]) rfl ?_
  exact Ret.of gro

theorem refCross_c (a b : Pt) (ha : NearP a 1) (hb : NearP b 1) (w : World) : Calls Tryz.prog 248 #[(.agg #[.int .i64 a.x, .int .i64 a.y, .int .i64 a.z]), (.agg #[.int .i64 b.x, .int .i64 b.y, .int .i64 b.z])] w (Ret w (.agg #[.int .i64 (crossP a b).x, .int .i64 (crossP a b).y, .int .i64 (crossP a b).z])) := by
 obtain ⟨a1, a2, a3⟩ := ha
 obtain ⟨b1, b2, b3⟩ := hb
 obtain ⟨s1, t1⟩ := mul_small a2 b3
 obtain ⟨s2, t2⟩ := mul_small a3 b2
 obtain ⟨s3, t3⟩ := mul_small a3 b1
 obtain ⟨s4, t4⟩ := mul_small a1 b3
 obtain ⟨s5, t5⟩ := mul_small a1 b2
 obtain ⟨s6, t6⟩ := mul_small a2 b1
 have v1 : wrap64 (a.y * b.z) = a.y * b.z := IntWalk.wrap64_in _ (by omega)
 have v2 : wrap64 (a.z * b.y) = a.z * b.y := IntWalk.wrap64_in _ (by omega)
 have v3 : wrap64 (a.z * b.x) = a.z * b.x := IntWalk.wrap64_in _ (by omega)
 have v4 : wrap64 (a.x * b.z) = a.x * b.z := IntWalk.wrap64_in _ (by omega)
 have v5 : wrap64 (a.x * b.y) = a.x * b.y := IntWalk.wrap64_in _ (by omega)
 have v6 : wrap64 (a.y * b.x) = a.y * b.x := IntWalk.wrap64_in _ (by omega)
 clear a1 a2 a3 b1 b2 b3
 go_enter Tryz.func248, Tryz.ntmps248
 go_wp2
 refine bodyPost_ret (v := (.agg #[.int .i64 (crossP a b).x, .int .i64 (crossP a b).y, .int .i64 (crossP a b).z])) (by simp [results, Tryz.results248, go_sem, crossP]) rfl ?_
 exact Ret.of gro
def addPt (a b : Pt) : Pt := ⟨a.x + b.x, a.y + b.y, a.z + b.z⟩
theorem refPlus_c (a b : Pt) (ha : NearP a 4294967296) (hb : NearP b 4294967296) (w : World) : Calls Tryz.prog 210 #[(.agg #[.int .i64 a.x, .int .i64 a.y, .int .i64 a.z]), (.agg #[.int .i64 b.x, .int .i64 b.y, .int .i64 b.z])] w (Ret w (.agg #[.int .i64 (addPt a b).x, .int .i64 (addPt a b).y, .int .i64 (addPt a b).z])) := by
 obtain ⟨⟨a1, a2⟩, ⟨a3, a4⟩, a5, a6⟩ := ha
 obtain ⟨⟨b1, b2⟩, ⟨b3, b4⟩, b5, b6⟩ := hb
 go_enter Tryz.func210, Tryz.ntmps210
 go_wp2
 refine bodyPost_ret (v := (.agg #[.int .i64 (addPt a b).x, .int .i64 (addPt a b).y, .int .i64 (addPt a b).z])) (by simp [results, Tryz.results210, go_sem, addPt]) rfl ?_
 exact Ret.of gro
def mulPt (n : Int) (p : Pt) : Pt := ⟨n * p.x, n * p.y, n * p.z⟩
theorem mul_small' {a b m : Int} (ha : -1 ≤ a ∧ a ≤ 1) (hb : -m ≤ b ∧ b ≤ m) : -m ≤ b * a ∧ b * a ≤ m := by rw [Int.mul_comm]; exact mul_small ha hb
theorem mulPt_near {n m : Int} {p : Pt} (hn : -m ≤ n ∧ n ≤ m) (hp : NearP p 1) : NearP (mulPt n p) m := ⟨mul_small' hp.1 hn, mul_small' hp.2.1 hn, mul_small' hp.2.2 hn⟩
theorem refTimes15_c (n : Int) (p : Pt) (hn : -1048576 ≤ n ∧ n ≤ 1048576) (hp : NearP p 1) (w : World) : Calls Tryz.prog 247 #[.int .i64 n, (.agg #[.int .i64 p.x, .int .i64 p.y, .int .i64 p.z])] w (Ret w (.agg #[.int .i64 (mulPt n p).x, .int .i64 (mulPt n p).y, .int .i64 (mulPt n p).z])) := by
 obtain ⟨m1, m2, m3⟩ := mulPt_near hn hp
 simp only [mulPt] at m1 m2 m3
 have v1 : wrap64 (n * p.x) = n * p.x := IntWalk.wrap64_in _ (by omega)
 have v2 : wrap64 (n * p.y) = n * p.y := IntWalk.wrap64_in _ (by omega)
 have v3 : wrap64 (n * p.z) = n * p.z := IntWalk.wrap64_in _ (by omega)
 clear hp
 go_enter Tryz.func247, Tryz.ntmps247
 go_wp2
 refine bodyPost_ret (v := (.agg #[.int .i64 (mulPt n p).x, .int .i64 (mulPt n p).y, .int .i64 (mulPt n p).z])) (by simp [results, Tryz.results247, go_sem, mulPt]) rfl ?_
 exact Ret.of gro
theorem img_sum (tx ty : Int) (p : Pt) : imgP tx ty p = addPt (mulPt p.x (unitP tx)) (addPt (mulPt p.y (unitP ty)) (mulPt p.z (crossP (unitP tx) (unitP ty)))) := by
 unfold imgP addPt mulPt
 simp only [Int.mul_comm, Int.add_assoc]

set_option maxRecDepth 100000 in
theorem refImage_c (tx ty : Int) (p : Pt) (h : turnB tx ty = true) (hp : NearP p 1048576) (w : World) : Calls Tryz.prog 212 #[.agg #[.int .i64 tx, .int .i64 ty], (.agg #[.int .i64 p.x, .int .i64 p.y, .int .i64 p.z])] w (Ret w (.agg #[.int .i64 (imgP tx ty p).x, .int .i64 (imgP tx ty p).y, .int .i64 (imgP tx ty p).z])) := by
 obtain ⟨ha, hb, hc⟩ := turn_iff.1 h
 have HU := hd0 (fun w => refUnit_c tx ha w)
 have HV := hd0 (fun w => refUnit_c ty hb w)
 have HC := hd0 (fun w => refCross_c (unitP tx) (unitP ty) (unit_small ha) (unit_small hb) w)
 have h1 := unit_small ha
 have h2 := unit_small hb
 have h3 := cross_small h
 rw [img_sum]
 generalize crossP (unitP tx) (unitP ty) = C at *
 generalize unitP tx = U at *
 generalize unitP ty = V at *
 obtain ⟨p1, p2, p3⟩ := hp
 have n1 := mulPt_near p1 h1
 have n2 := mulPt_near p2 h2
 have n3 := mulPt_near p3 h3
 have T1 := hd0 (fun w => refTimes15_c p.x U p1 h1 w)
 have T2 := hd0 (fun w => refTimes15_c p.y V p2 h2 w)
 have T3 := hd0 (fun w => refTimes15_c p.z C p3 h3 w)
 generalize mulPt p.x U = A1 at *
 generalize mulPt p.y V = A2 at *
 generalize mulPt p.z C = A3 at *
 have P1 := hd0 (fun w => refPlus_c A2 A3 (by unfold NearP at *; omega) (by unfold NearP at *; omega) w)
 have n4 : NearP (addPt A2 A3) 2097152 := by unfold NearP addPt at *; simp only at *; omega
 have P2 := hd0 (fun w => refPlus_c A1 (addPt A2 A3) (by unfold NearP at *; omega) (by unfold NearP at *; omega) w)
 generalize addPt A2 A3 = B1 at *
 generalize addPt A1 B1 = B2 at *
 clear ha hb hc h h1 h2 h3 p1 p2 p3 n1 n2 n3 n4
 go_enter Tryz.func212, Tryz.ntmps212
 go_wp2_with fail
 go_at_call 246; refine (HU.out _).mono ?_; rintro e w' ⟨rfl, x1, rfl⟩
 go_wp2_with fail
 go_at_call 246; refine (HV.out _).mono ?_; rintro e w' ⟨rfl, x2, rfl⟩
 go_wp2_with fail
 refine wp_region_tail 16 (by kernel_rfl) (by kernel_rfl) ?_; simp only [List.take_succ_cons, List.take_zero, List.drop_succ_cons, List.drop_zero]
 repeat (go_big_quiet_step (first
  | (go_at_call_of 247 (Value.int IntKind.i64 p.x); exact Calls.quiet_ext (T1.out _)) | (go_at_call_of 247 (Value.int IntKind.i64 p.y); exact Calls.quiet_ext (T2.out _)) | (go_at_call_of 247 (Value.int IntKind.i64 p.z); exact Calls.quiet_ext (T3.out _))
  | (go_at_call 248; exact Calls.quiet_ext (HC.out _)) | (go_at_call_of 210 (Value.agg #[.int .i64 A2.x, .int .i64 A2.y, .int .i64 A2.z]); exact Calls.quiet_ext (P1.out _)) | (go_at_call_of 210 (Value.agg #[.int .i64 A1.x, .int .i64 A1.y, .int .i64 A1.z]); exact Calls.quiet_ext (P2.out _))))
 refine wpQuiet_nil ?_; rintro _ ⟨xq, rfl⟩
 go_wp2
 refine bodyPost_ret (v := (.agg #[.int .i64 B2.x, .int .i64 B2.y, .int .i64 B2.z])) (by simp [results, Tryz.results212, go_sem]) rfl ?_
 exact Ret.of gro


def timesPt (p : Pt) (k : Int) : Pt := ⟨p.x * k, p.y * k, p.z * k⟩
theorem timesPt_near {p : Pt} {k : Int} (hp : NearP p 2097152) (hk : 0 ≤ k ∧ k ≤ 2000) : NearP (timesPt p k) 4194304000 := by
 obtain ⟨p1, p2, p3⟩ := hp
 have m1 := mul_range hk p1
 have m2 := mul_range hk p2
 have m3 := mul_range hk p3
 unfold NearP timesPt
 simp only [Int.mul_comm _ k]
 omega
theorem refTimes16_c (p : Pt) (k : Int) (hp : NearP p 2097152) (hk : 0 ≤ k ∧ k ≤ 2000) (w : World) : Calls Tryz.prog 211 #[(.agg #[.int .i64 p.x, .int .i64 p.y, .int .i64 p.z]), .int .i64 k] w (Ret w (.agg #[.int .i64 (timesPt p k).x, .int .i64 (timesPt p k).y, .int .i64 (timesPt p k).z])) := by
 obtain ⟨m1, m2, m3⟩ := timesPt_near hp hk
 simp only [timesPt] at m1 m2 m3
 have v1 : wrap64 (p.x * k) = p.x * k := IntWalk.wrap64_in _ (by omega)
 have v2 : wrap64 (p.y * k) = p.y * k := IntWalk.wrap64_in _ (by omega)
 have v3 : wrap64 (p.z * k) = p.z * k := IntWalk.wrap64_in _ (by omega)
 clear hp hk
 go_enter Tryz.func211, Tryz.ntmps211
 go_wp2
 refine bodyPost_ret (v := (.agg #[.int .i64 (timesPt p k).x, .int .i64 (timesPt p k).y, .int .i64 (timesPt p k).z])) (by simp [results, Tryz.results211, go_sem, timesPt]) rfl ?_
 exact Ret.of gro
def atR (r : Rn) (k : Int) : Pt := if 0 < k then addPt ⟨r.ax, r.ay, r.az⟩ (timesPt ⟨r.sx, r.sy, r.sz⟩ k) else ⟨r.ax, r.ay, r.az⟩
theorem laidL_at (b : Br) (r : Rn) {k : Int} (hk : 0 ≤ k) : laidL b r k = (pathL b).map fun p => addPt (atR r k) (imgP r.tx r.ty p) := by
 unfold laidL
 apply List.map_congr_left
 intro p _
 unfold laidP atR
 split
 ·unfold addPt timesPt
  simp only [Int.mul_comm k]
  congr 1 <;> omega
 ·obtain rfl : k = 0 := by omega
  unfold addPt
  simp only [Int.zero_mul, Int.add_zero]
  congr 1 <;> omega
theorem own_pts2 {W : World} {M : Nat} {e : TypeId} {v : Value} {n : Nat} {l : List Pt} {p : Pt} (h : W.ownsRow M e 3 v (n + 1) (ptCells l ++ ptCells [p])) (hn : n = l.length) : W.ownsRow M e 3 v (l ++ [p]).length (ptCells (l ++ [p])) := own_pts h hn

set_option maxRecDepth 100000 in
set_option maxHeartbeats 8000000 in
theorem refPoints_c (b : Br) (r : Rn) (k : Int) (hs : shapeB b = true) (ht : turnB r.tx r.ty = true) (ha : NearP ⟨r.ax, r.ay, r.az⟩ 1048576) (hk : 0 ≤ k ∧ k ≤ 2000) (hst : 0 < k → NearP ⟨r.sx, r.sy, r.sz⟩ 2097152) (w : World) (hb : BrOk w b) :
  Calls Tryz.prog 156 #[(.agg #[.string b.mark, .int .i64 b.size, .int .i64 b.count, .int .i64 b.code, b.dv]), (.agg #[.string r.mark, .int .i64 r.tx, .int .i64 r.ty, .int .i64 r.ax, .int .i64 r.ay, .int .i64 r.az, .int .i64 r.sx, .int .i64 r.sy, .int .i64 r.sz, .int .i64 r.count]), .int .i64 k] w (fun e W => ∃ v, e = .returned v ∧ W.ownsRow w.heap.size 38 3 v (laidL b r k).length (ptCells (laidL b r k)) ∧ ∃ x, W = ext w x) := by
 have HP := hd0 (fun w hb => refPath_c b hs w hb)
 have HB := hd0 hb
 have HI := hd0 (fun p hp w => refImage_c r.tx r.ty p ht (path_near hs p hp) w)
 have HIN := hd0 (fun p hp => img_near (tx := r.tx) (ty := r.ty) ht (path_near hs p hp))
 have hpl := path_len b
 have HL := hd0 (laidL_at b r hk.1)
 have hat : NearP (atR r k) 4195352576 := by
  unfold atR
  split
  ·rename_i h
   have := timesPt_near (hst h) hk
   unfold NearP addPt at *; simp only at *; omega
  ·unfold NearP at *; simp only at *; omega
 have HAT := hd0 hat
 obtain ⟨P, hP⟩ : ∃ P, pathL b = P := ⟨_, rfl⟩
 rw [hP] at HP HI HIN hpl HL
 obtain ⟨ad, cd, ev, _, _, _⟩ := hb.dims
 have HE := hd0 ev
 obtain ⟨k0, k1⟩ := hk
 clear hs ht hb hP hat ev
 by_cases hk0 : 0 < k
 ·have hz := hst hk0
  have HT := hd0 (fun w => refTimes16_c ⟨r.sx, r.sy, r.sz⟩ k hz ⟨k0, k1⟩ w)
  have htn := timesPt_near hz ⟨k0, k1⟩
  have HAE := hd0 (show atR r k = addPt ⟨r.ax, r.ay, r.az⟩ (timesPt ⟨r.sx, r.sy, r.sz⟩ k) by unfold atR; rw [if_pos hk0])
  have HPL := hd0 (fun w => refPlus_c ⟨r.ax, r.ay, r.az⟩ (timesPt ⟨r.sx, r.sy, r.sz⟩ k) (by unfold NearP at *; omega) (by unfold NearP at *; omega) w)
  rw [← HAE.out] at HPL
  generalize timesPt ⟨r.sx, r.sy, r.sz⟩ k = T at *
  generalize atR r k = A at *
  clear hst hz htn ha
  go_enter Tryz.func156, Tryz.ntmps156
  go_wp2_with fail
  go_at_call 209; refine (HP.out _ (HB.out.below gro)).mono ?_; rintro e w' ⟨v7, rfl, hown7, x1, rfl⟩
  have HO7 := hd0 (Pts.of_own hown7)
  obtain ⟨a7, c7, rfl, -, -, -⟩ := own_shape hown7
  clear hown7
  go_wp2_with fail
  refine wp_region_tail 6 (by kernel_rfl) (by kernel_rfl) ?_; simp only [List.take_succ_cons, List.take_zero, List.drop_succ_cons, List.drop_zero]
  repeat (go_big_quiet_step (first
   | (go_at_call 211; exact Calls.quiet_ext (HT.out _)) | (go_at_call 210; exact Calls.quiet_ext (HPL.out _))))
  refine wpQuiet_nil ?_; rintro _ ⟨xq, rfl⟩
  go_wp2_with fail
  obtain ⟨g8, hg8⟩ : ∃ g, g = w.heap.size + 1 + 1 + x1.heap.size := ⟨_, rfl⟩
  rw [← hg8]
  refine world_mask (fun W => Below w.heap.size w W ∧ Blk W (w.heap.size + 1) (rnCells r) 118 ∧ Blk W g8 #[.int .i64 A.x, .int .i64 A.y, .int .i64 A.z] 38 ∧ Pts W (.slice a7 P.length c7) P) _ ⟨gro, ?_, ?_, HO7.out.below gro⟩ ?_
  ·first
    | exact ((((Blk.new' (by simp) _ _).ext _).alloc _).ext _)
    | exact (((Blk.new' (by simp) _ _).ext _).alloc _)
  ·first
    | exact (Blk.new' (by rw [hg8]; simp [size_ext]) _ _).ext _
    | exact (Blk.new' (by rw [hg8]; simp [size_ext]) _ _)
  clear hg8 HO7
  rintro W1 ⟨hbw, hbr, hba, hpp⟩
  have HBW := hd0 hbw
  have HBR := hd0 hbr
  have HBA := hd0 hba
  obtain ⟨a', c', e', m1, m2, hpc⟩ := hpp
  cases e'
  have HPC := hd0 hpc
  clear hbw hbr hba hpc
  go_loopw [9, 10] (fun v i wr => ∃ q : Nat, q ≤ P.length ∧ i = .int .i64 q ∧ (∃ x, wr = ext W1 x) ∧ wr.ownsRow W1.heap.size 38 3 v q (ptCells ((P.take q).map fun p => addPt A (imgP r.tx r.ty p)))) (fun _ i _ => P.length - (intOf i).toNat)
  case atStart => exact ⟨0, by omega, rfl, ext_of (Below.refl _ _), World.ownsRow_nil _ _ _ _⟩
  case round =>
   obtain ⟨q, hq, rfl, ⟨x, rfl⟩, hown⟩ := hrel
   have HO := hd0 hown
   obtain ⟨av, cv, rfl, hv1, hv2, -⟩ := own_shape hown
   have hv3 : cv ≤ 9223372036854775807 := hv2
   clear hown
   by_cases hlt : q < P.length
   ·have q1 : (0 : Int) ≤ (q : Int) := by omega
    have q2 : (q : Int) < (P.length : Int) := by omega
    obtain ⟨b0, off, rfl, hpt⟩ := HPC.out q hlt
    obtain ⟨p0, p1, p2⟩ := hpt.ext x
    have hmem := List.getElem_mem hlt
    have htk : (P.take (q + 1)).map (fun p => addPt A (imgP r.tx r.ty p)) = (P.take q).map (fun p => addPt A (imgP r.tx r.ty p)) ++ [addPt A (imgP r.tx r.ty P[q])] := by rw [List.take_succ_eq_append_getElem hlt, List.map_append]; rfl
    have hln : q = ((P.take q).map fun p => addPt A (imgP r.tx r.ty p)).length := by rw [List.length_map, List.length_take]; omega
    have HLN := hd0 hln
    obtain ⟨p, hp⟩ : ∃ p, P[q] = p := ⟨_, rfl⟩
    rw [hp] at p0 p1 p2 hmem htk
    have HIM := hd0 (fun w => HI.out p hmem w)
    have hin := HIN.out p hmem
    obtain ⟨I, hI⟩ : ∃ I, imgP r.tx r.ty p = I := ⟨_, rfl⟩
    rw [hI] at HIM hin htk
    have hat := HAT.out
    have HPI := hd0 (fun w => refPlus_c A I (by unfold NearP at *; omega) (by unfold NearP at *; omega) w)
    have HTK := hd0 htk
    have ba := HBA.out.ext x
    have br := HBR.out.ext x
    have g0 : (ext W1 x).cell? ⟨g8, 0, none⟩ = some (.int .i64 A.x) := ba.cell 0
    have g1 : (ext W1 x).cell? ⟨g8, 1, none⟩ = some (.int .i64 A.y) := ba.cell 1
    have g2 : (ext W1 x).cell? ⟨g8, 2, none⟩ = some (.int .i64 A.z) := ba.cell 2
    have t1 : (ext W1 x).cell? ⟨w.heap.size + 1, 1, none⟩ = some (.int .i64 r.tx) := br.cell 1
    have t2 : (ext W1 x).cell? ⟨w.heap.size + 1, 2, none⟩ = some (.int .i64 r.ty) := br.cell 2
    generalize addPt A I = R at *
    clear hpt hmem htk hln hp hin hI hat ba br
    go_wp2_with fail
    refine wp_region_app 10 (by kernel_rfl) (by kernel_rfl) rfl rfl (fun _ _ _ _ h => h) ?_; simp only [List.take_succ_cons, List.take_zero, List.drop_succ_cons, List.drop_zero]
    repeat (go_big_quiet_step (first
     | (go_at_call 212; exact Calls.quiet_ext (HIM.out _)) | (go_at_call 210; exact Calls.quiet_ext (HPI.out _))))
    refine wpQuiet_nil ?_; rintro _ ⟨xq, rfl⟩
    clear p0 p1 p2 g0 g1 g2 t1 t2
    go_wp2_with (at_builtin; refine app_own_b rfl _ _ 207 rfl 38 (.agg #[.int .i64 0, .int .i64 0, .int .i64 0]) 3 24 Tryz.underlying207 info_pt rfl (by decide) (W1.heap.size) (.slice av q cv) (q) (ptCells ((P.take q).map fun p => addPt A (imgP r.tx r.ty p))) _ rfl ((own_ext HO.out _).alloc _) _ 1 1 (ptCells [R]) rfl rfl (cells_new ?_ _ _ _ rfl) (ptCells_one _) (by omega) (by decide) ?_ ?_; (first | rfl | simp [size_ext]); (simp only [World.size_alloc, size_ext]; omega); intro v' w1 hown' hgrow; have HO2 := hd0 hown'; obtain ⟨a', c', rfl, _, hc2, -⟩ := own_shape hown'; have hc3 : c' ≤ 9223372036854775807 := hc2; have HGR := hd0 hgrow; clear hown' hgrow hc2)
    go_roundw
    case rel =>
     refine ⟨q + 1, by omega, by go_num, ?_, ?_⟩
     ·exact ext_grown2 (grow_alloc _ (grow_ext _ (below_ext _ _))) HGR.out (fun j e => (HO.out.lt j e).1)
     ·rw [HTK.out]
      have := own_pts2 HO2.out HLN.out
      rw [List.length_append, ← HLN.out] at this
      exact this
    case measure => simp [intOf]; omega
   ·obtain rfl : q = P.length := by omega
    go_wp2
    go_ret
    refine ⟨_, rfl, ?_, ext_of (HBW.out.trans ((below_ext W1 x).mono HBW.out.size))⟩
    have := HO.out
    rw [List.take_length] at this
    rw [HL.out, List.length_map]
    exact own_mono this HBW.out.size
 ·have HAE := hd0 (show atR r k = ⟨r.ax, r.ay, r.az⟩ by unfold atR; rw [if_neg hk0])
  have hax : (atR r k).x = r.ax ∧ (atR r k).y = r.ay ∧ (atR r k).z = r.az := by rw [HAE.out]; exact ⟨rfl, rfl, rfl⟩
  generalize atR r k = A at *
  obtain ⟨mark, tx, ty, ax, ay, az, sx, sy, sz, count⟩ := r
  simp only at hax
  obtain ⟨rfl, rfl, rfl⟩ := hax
  clear hst ha
  go_enter Tryz.func156, Tryz.ntmps156
  go_wp2_with fail
  go_at_call 209; refine (HP.out _ (HB.out.below gro)).mono ?_; rintro e w' ⟨v7, rfl, hown7, x1, rfl⟩
  have HO7 := hd0 (Pts.of_own hown7)
  obtain ⟨a7, c7, rfl, -, -, -⟩ := own_shape hown7
  clear hown7
  go_wp2_with fail
  obtain ⟨g8, hg8⟩ : ∃ g, g = w.heap.size + 1 + 1 + x1.heap.size := ⟨_, rfl⟩
  rw [← hg8]
  refine world_mask (fun W => Below w.heap.size w W ∧ Blk W (w.heap.size + 1) (rnCells ⟨mark, tx, ty, A.x, A.y, A.z, sx, sy, sz, count⟩) 118 ∧ Blk W g8 #[.int .i64 A.x, .int .i64 A.y, .int .i64 A.z] 38 ∧ Pts W (.slice a7 P.length c7) P) _ ⟨gro, ?_, ?_, HO7.out.below gro⟩ ?_
  ·first
    | exact ((((Blk.new' (by simp) _ _).ext _).alloc _).ext _)
    | exact (((Blk.new' (by simp) _ _).ext _).alloc _)
  ·first
    | exact (Blk.new' (by rw [hg8]; simp [size_ext]) _ _).ext _
    | exact (Blk.new' (by rw [hg8]; simp [size_ext]) _ _)
  clear hg8 HO7
  rintro W1 ⟨hbw, hbr, hba, hpp⟩
  have HBW := hd0 hbw
  have HBR := hd0 hbr
  have HBA := hd0 hba
  obtain ⟨a', c', e', m1, m2, hpc⟩ := hpp
  cases e'
  have HPC := hd0 hpc
  clear hbw hbr hba hpc
  go_loopw [9, 10] (fun v i wr => ∃ q : Nat, q ≤ P.length ∧ i = .int .i64 q ∧ (∃ x, wr = ext W1 x) ∧ wr.ownsRow W1.heap.size 38 3 v q (ptCells ((P.take q).map fun p => addPt A (imgP tx ty p)))) (fun _ i _ => P.length - (intOf i).toNat)
  case atStart => exact ⟨0, by omega, rfl, ext_of (Below.refl _ _), World.ownsRow_nil _ _ _ _⟩
  case round =>
   obtain ⟨q, hq, rfl, ⟨x, rfl⟩, hown⟩ := hrel
   have HO := hd0 hown
   obtain ⟨av, cv, rfl, hv1, hv2, -⟩ := own_shape hown
   have hv3 : cv ≤ 9223372036854775807 := hv2
   clear hown
   by_cases hlt : q < P.length
   ·have q1 : (0 : Int) ≤ (q : Int) := by omega
    have q2 : (q : Int) < (P.length : Int) := by omega
    obtain ⟨b0, off, rfl, hpt⟩ := HPC.out q hlt
    obtain ⟨p0, p1, p2⟩ := hpt.ext x
    have hmem := List.getElem_mem hlt
    have htk : (P.take (q + 1)).map (fun p => addPt A (imgP tx ty p)) = (P.take q).map (fun p => addPt A (imgP tx ty p)) ++ [addPt A (imgP tx ty P[q])] := by rw [List.take_succ_eq_append_getElem hlt, List.map_append]; rfl
    have hln : q = ((P.take q).map fun p => addPt A (imgP tx ty p)).length := by rw [List.length_map, List.length_take]; omega
    have HLN := hd0 hln
    obtain ⟨p, hp⟩ : ∃ p, P[q] = p := ⟨_, rfl⟩
    rw [hp] at p0 p1 p2 hmem htk
    have HIM := hd0 (fun w => HI.out p hmem w)
    have hin := HIN.out p hmem
    obtain ⟨I, hI⟩ : ∃ I, imgP tx ty p = I := ⟨_, rfl⟩
    rw [hI] at HIM hin htk
    have hat := HAT.out
    have HPI := hd0 (fun w => refPlus_c A I (by unfold NearP at *; omega) (by unfold NearP at *; omega) w)
    have HTK := hd0 htk
    have ba := HBA.out.ext x
    have br := HBR.out.ext x
    have g0 : (ext W1 x).cell? ⟨g8, 0, none⟩ = some (.int .i64 A.x) := ba.cell 0
    have g1 : (ext W1 x).cell? ⟨g8, 1, none⟩ = some (.int .i64 A.y) := ba.cell 1
    have g2 : (ext W1 x).cell? ⟨g8, 2, none⟩ = some (.int .i64 A.z) := ba.cell 2
    have t1 : (ext W1 x).cell? ⟨w.heap.size + 1, 1, none⟩ = some (.int .i64 tx) := br.cell 1
    have t2 : (ext W1 x).cell? ⟨w.heap.size + 1, 2, none⟩ = some (.int .i64 ty) := br.cell 2
    generalize addPt A I = R at *
    clear hpt hmem htk hln hp hin hI hat ba br
    go_wp2_with fail
    refine wp_region_app 10 (by kernel_rfl) (by kernel_rfl) rfl rfl (fun _ _ _ _ h => h) ?_; simp only [List.take_succ_cons, List.take_zero, List.drop_succ_cons, List.drop_zero]
    repeat (go_big_quiet_step (first
     | (go_at_call 212; exact Calls.quiet_ext (HIM.out _)) | (go_at_call 210; exact Calls.quiet_ext (HPI.out _))))
    refine wpQuiet_nil ?_; rintro _ ⟨xq, rfl⟩
    clear p0 p1 p2 g0 g1 g2 t1 t2
    go_wp2_with (at_builtin; refine app_own_b rfl _ _ 207 rfl 38 (.agg #[.int .i64 0, .int .i64 0, .int .i64 0]) 3 24 Tryz.underlying207 info_pt rfl (by decide) (W1.heap.size) (.slice av q cv) (q) (ptCells ((P.take q).map fun p => addPt A (imgP tx ty p))) _ rfl ((own_ext HO.out _).alloc _) _ 1 1 (ptCells [R]) rfl rfl (cells_new ?_ _ _ _ rfl) (ptCells_one _) (by omega) (by decide) ?_ ?_; (first | rfl | simp [size_ext]); (simp only [World.size_alloc, size_ext]; omega); intro v' w1 hown' hgrow; have HO2 := hd0 hown'; obtain ⟨a', c', rfl, _, hc2, -⟩ := own_shape hown'; have hc3 : c' ≤ 9223372036854775807 := hc2; have HGR := hd0 hgrow; clear hown' hgrow hc2)
    go_roundw
    case rel =>
     refine ⟨q + 1, by omega, by go_num, ?_, ?_⟩
     ·exact ext_grown2 (grow_alloc _ (grow_ext _ (below_ext _ _))) HGR.out (fun j e => (HO.out.lt j e).1)
     ·rw [HTK.out]
      have := own_pts2 HO2.out HLN.out
      rw [List.length_append, ← HLN.out] at this
      exact this
    case measure => simp [intOf]; omega
   ·obtain rfl : q = P.length := by omega
    go_wp2
    go_ret
    refine ⟨_, rfl, ?_, ext_of (HBW.out.trans ((below_ext W1 x).mono HBW.out.size))⟩
    have := HO.out
    rw [List.take_length] at this
    rw [HL.out, List.length_map]
    exact own_mono this HBW.out.size

set_option maxHeartbeats 2000000

set_option maxRecDepth 100000 in
theorem refNear16_v (l : List Pt) (v : Value) (r : Bool) (h : (l.all fun p => nearB p 1048576) = r) (w : World) (hl : Pts w v l) : Calls Tryz.prog 155 #[v] w (Ret w (.bool r)) := by
 obtain ⟨a, cap, rfl, h2, h3, h4⟩ := hl.shape
 have H4 := hd0 h4
 have HR := hd0 h
 clear hl h4 h
 go_enter Tryz.func155, Tryz.ntmps155
 go_wp2_with fail
 go_loopw [3] (fun i wr => ∃ k : Nat, k ≤ l.length ∧ i = .int .i64 k ∧ (∃ x, wr = ext w x) ∧ ∀ j (h : j < k) (h' : j < l.length), nearB l[j] 1048576 = true) (fun i _ => l.length - (intOf i).toNat)
 case atStart => exact ⟨0, by omega, rfl, ext_of (Below.refl _ _), fun j h => by omega⟩
 case round =>
  obtain ⟨k, hk, rfl, ⟨x, rfl⟩, hno⟩ := hrel
  have HNO := hd0 hno
  clear hno
  by_cases hlt : k < l.length
  ·obtain ⟨b, off, rfl, c0, c1, c2⟩ := H4.out k hlt
   have c0 := cell_ext_some c0 x
   have c1 := cell_ext_some c1 x
   have c2 := cell_ext_some c2 x
   have q1 : (0 : Int) ≤ (k : Int) := by omega
   have q2 : (k : Int) < (l.length : Int) := by omega
   have hf := fun h => all_near_false (m := 1048576) hlt h
   have ht := fun h => near_take_succ (m := 1048576) hlt HNO.out h
   obtain ⟨p, hp⟩ : ∃ p, l[k] = p := ⟨_, rfl⟩
   rw [hp] at c0 c1 c2 hf ht
   have HF := hd0 hf
   have HT := hd0 ht
   clear hp hf ht
   cases hn : nearB p 1048576
   ·obtain rfl : false = r := by rw [← HR.out]; exact (HF.out hn).symm
    have HN := hd0 hn
    clear hn
    go_wp2_with fail
    go_at_call 153; refine (refNear15_v p _ HN.out _).mono ?_; rintro e w' ⟨rfl, y1, rfl⟩
    go_wp2
    go_ret
    exact Ret.of gro
   ·have HX := hd0 (HT.out hn)
    have HN := hd0 hn
    clear hn
    go_wp2_with fail
    go_at_call 153; refine (refNear15_v p _ HN.out _).mono ?_; rintro e w' ⟨rfl, y1, rfl⟩
    go_wp2
    go_roundw
    case rel => exact ⟨k + 1, by omega, by go_num, ext_of gro, HX.out⟩
    case measure => simp [intOf]; omega
  ·obtain rfl : k = l.length := by omega
   obtain rfl : true = r := by rw [← HR.out]; exact (all_near_true fun j hj => HNO.out j hj hj).symm
   go_wp2
   go_ret
   exact Ret.of gro

theorem refTwice_v (p : Pt) (r : Bool) (h : nearB p 2097152 = r) (w : World) : Calls Tryz.prog 154 #[(.agg #[.int .i64 p.x, .int .i64 p.y, .int .i64 p.z])] w (Ret w (.bool r)) := by
 have HR := hd0 h
 clear h
 by_cases a1 : -2097152 ≤ p.x
 ·by_cases a2 : p.x ≤ 2097152
  ·by_cases a3 : -2097152 ≤ p.y
   ·by_cases a4 : p.y ≤ 2097152
    ·by_cases a5 : -2097152 ≤ p.z
     ·by_cases a6 : p.z ≤ 2097152
      ·obtain rfl : true = r := by rw [← HR.out]; exact (near_iff.2 ⟨⟨a1, a2⟩, ⟨a3, a4⟩, a5, a6⟩).symm
       go_enter Tryz.func154, Tryz.ntmps154
       go_wp2
       go_ret
       exact Ret.of gro
      ·obtain rfl : false = r := by rw [← HR.out]; symm; rw [Bool.eq_false_iff]; intro q; rw [near_iff] at q; unfold NearP at q; omega
       go_enter Tryz.func154, Tryz.ntmps154
       go_wp2
       go_ret
       exact Ret.of gro
     ·obtain rfl : false = r := by rw [← HR.out]; symm; rw [Bool.eq_false_iff]; intro q; rw [near_iff] at q; unfold NearP at q; omega
      go_enter Tryz.func154, Tryz.ntmps154
      go_wp2
      go_ret
      exact Ret.of gro
    ·obtain rfl : false = r := by rw [← HR.out]; symm; rw [Bool.eq_false_iff]; intro q; rw [near_iff] at q; unfold NearP at q; omega
     go_enter Tryz.func154, Tryz.ntmps154
     go_wp2
     go_ret
     exact Ret.of gro
   ·obtain rfl : false = r := by rw [← HR.out]; symm; rw [Bool.eq_false_iff]; intro q; rw [near_iff] at q; unfold NearP at q; omega
    go_enter Tryz.func154, Tryz.ntmps154
    go_wp2
    go_ret
    exact Ret.of gro
  ·obtain rfl : false = r := by rw [← HR.out]; symm; rw [Bool.eq_false_iff]; intro q; rw [near_iff] at q; unfold NearP at q; omega
   go_enter Tryz.func154, Tryz.ntmps154
   go_wp2
   go_ret
   exact Ret.of gro
 ·obtain rfl : false = r := by rw [← HR.out]; symm; rw [Bool.eq_false_iff]; intro q; rw [near_iff] at q; unfold NearP at q; omega
  go_enter Tryz.func154, Tryz.ntmps154
  go_wp2
  go_ret
  exact Ret.of gro

theorem refAxis_v (n : Int) (r : Bool) (h : (decide (n ≠ 0) && (decide (-3 ≤ n) && decide (n ≤ 3))) = r) (w : World) : Calls Tryz.prog 207 #[.int .i64 n] w (Ret w (.bool r)) := by
 have HR := hd0 h
 clear h
 by_cases a1 : -3 ≤ n
 ·by_cases a2 : n ≤ 3
  ·by_cases a3 : n = 0
   ·obtain rfl : false = r := by rw [← HR.out]; simp [a3]
    subst a3
    go_enter Tryz.func207, Tryz.ntmps207
    go_wp2
    go_ret
    exact Ret.of gro
   ·obtain rfl : true = r := by rw [← HR.out, decide_eq_true a3, decide_eq_true a1, decide_eq_true a2]; rfl
    have d3 : (n != 0) = true := by simpa using a3
    clear a3
    go_enter Tryz.func207, Tryz.ntmps207
    go_wp2
    go_ret
    exact Ret.of gro
  ·obtain rfl : false = r := by rw [← HR.out]; symm; rw [Bool.eq_false_iff]; intro q; simp only [Bool.and_eq_true, decide_eq_true_iff] at q; omega
   go_enter Tryz.func207, Tryz.ntmps207
   go_wp2
   go_ret
   exact Ret.of gro
 ·obtain rfl : false = r := by rw [← HR.out]; symm; rw [Bool.eq_false_iff]; intro q; simp only [Bool.and_eq_true, decide_eq_true_iff] at q; omega
  go_enter Tryz.func207, Tryz.ntmps207
  go_wp2
  go_ret
  exact Ret.of gro

theorem refTurn_v (tx ty : Int) (r : Bool) (h : turnB tx ty = r) (w : World) : Calls Tryz.prog 152 #[.agg #[.int .i64 tx, .int .i64 ty]] w (Ret w (.bool r)) := by
 have HX := hd0 (fun r h w => refAxis_v tx r h w)
 have HY := hd0 (fun r h w => refAxis_v ty r h w)
 unfold turnB at h
 cases h1 : (decide (tx ≠ 0) && (decide (-3 ≤ tx) && decide (tx ≤ 3)))
 ·rw [h1, Bool.false_and] at h
  subst h
  have H1 := hd0 h1
  clear h1
  go_enter Tryz.func152, Tryz.ntmps152
  go_wp2_with fail
  go_at_call 207; refine (HX.out _ H1.out _).mono ?_; rintro e w' ⟨rfl, x1, rfl⟩
  go_wp2
  go_ret
  exact Ret.of gro
 rw [h1, Bool.true_and] at h
 have H1 := hd0 h1
 have b1 : -3 ≤ tx ∧ tx ≤ 3 := by simp only [Bool.and_eq_true, decide_eq_true_iff] at h1; exact h1.2
 clear h1
 cases h2 : (decide (ty ≠ 0) && (decide (-3 ≤ ty) && decide (ty ≤ 3)))
 ·rw [h2, Bool.false_and] at h
  subst h
  have H2 := hd0 h2
  clear h2
  go_enter Tryz.func152, Tryz.ntmps152
  go_wp2_with fail
  go_at_call_of 207 (Value.int IntKind.i64 tx); refine (HX.out _ H1.out _).mono ?_; rintro e w' ⟨rfl, x1, rfl⟩
  go_wp2_with fail
  go_at_call 207; refine (HY.out _ H2.out _).mono ?_; rintro e w' ⟨rfl, x2, rfl⟩
  go_wp2
  go_ret
  exact Ret.of gro
 rw [h2, Bool.true_and] at h
 have H2 := hd0 h2
 have b2 : -3 ≤ ty ∧ ty ≤ 3 := by simp only [Bool.and_eq_true, decide_eq_true_iff] at h2; exact h2.2
 clear h2
 by_cases h3 : tx = ty
 ·subst h3
  rw [show decide (tx ≠ tx) = false by simp, Bool.false_and] at h
  subst h
  have d3 : (tx != tx) = false := by simp
  go_enter Tryz.func152, Tryz.ntmps152
  go_wp2_with fail
  go_at_call 207; refine (HX.out _ H1.out _).mono ?_; rintro e w' ⟨rfl, x1, rfl⟩
  go_wp2_with fail
  go_at_call 207; refine (HX.out _ H1.out _).mono ?_; rintro e w' ⟨rfl, x2, rfl⟩
  go_wp2
  go_ret
  exact Ret.of gro
 rw [show decide (tx ≠ ty) = true by simpa using h3, Bool.true_and] at h
 have d3 : (tx != ty) = true := by simpa using h3
 by_cases h4 : tx = -ty
 ·rw [show decide (tx ≠ -ty) = false by simpa using h4] at h
  subst h
  have d4 : (tx != -ty) = false := by simpa using h4
  clear h3 h4
  go_enter Tryz.func152, Tryz.ntmps152
  go_wp2_with fail
  go_at_call 207; refine (HX.out _ H1.out _).mono ?_; rintro e w' ⟨rfl, x1, rfl⟩
  go_wp2_with fail
  go_at_call 207; refine (HY.out _ H2.out _).mono ?_; rintro e w' ⟨rfl, x2, rfl⟩
  go_wp2
  go_ret
  exact Ret.of gro
 ·rw [show decide (tx ≠ -ty) = true by simpa using h4] at h
  subst h
  have d4 : (tx != -ty) = true := by simpa using h4
  clear h3 h4
  go_enter Tryz.func152, Tryz.ntmps152
  go_wp2_with fail
  go_at_call 207; refine (HX.out _ H1.out _).mono ?_; rintro e w' ⟨rfl, x1, rfl⟩
  go_wp2_with fail
  go_at_call 207; refine (HY.out _ H2.out _).mono ?_; rintro e w' ⟨rfl, x2, rfl⟩
  go_wp2
  go_ret
  exact Ret.of gro

end Go.Proofs.YtkjljneehgmmaaaGreat

