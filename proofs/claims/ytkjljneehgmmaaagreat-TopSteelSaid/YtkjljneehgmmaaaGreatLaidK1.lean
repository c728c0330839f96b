/- LaidD1, LaidD2, LaidD3, LaidD4, LaidD5 in one text. -/
import Derived.Test.YtkjljneehgmmaaaGreatLaidK0
import Derived.Test.YtkjljneehgmmaaaGreatExtK
import Derived.RegionTactic
import Derived.Deep.RegionHeld3
namespace Go.Proofs.YtkjljneehgmmaaaGreat
open Go.RowKit
set_option maxRecDepth 20000

theorem mul_small {a b m : Int} (ha : -1 ≤ a ∧ a ≤ 1) (hb : -m ≤ b ∧ b ≤ m) : -m ≤ a * b ∧ a * b ≤ m := by
 rcases (show a = -1 ∨ a = 0 ∨ a = 1 by omega) with rfl | rfl | rfl
 ·rw [Int.neg_one_mul]; omega
 ·rw [Int.zero_mul]; omega
 ·rw [Int.one_mul]; omega

theorem unit_c (n : Int) (h : n ≠ 0 ∧ -3 ≤ n ∧ n ≤ 3) (w : World) : Calls Tryz.prog 265 #[.int .i64 n] w (Ret w (.agg #[.int .i64 (unitP n).x, .int .i64 (unitP n).y, .int .i64 (unitP n).z])) := by
 rcases (show n = 1 ∨ n = 2 ∨ n = 3 ∨ n = -1 ∨ n = -2 ∨ n = -3 by omega) with rfl | rfl | rfl | rfl | rfl | rfl
 ·clear h
  go_enter Tryz.func265, Tryz.ntmps265
  go_wp2
  refine bodyPost_ret (v := .agg #[.int .i64 1, .int .i64 0, .int .i64 0]) (by simp [results, Tryz.results265, go_sem]) rfl ?_
  exact Ret.of gro
 ·clear h
  go_enter Tryz.func265, Tryz.ntmps265
  go_wp2
  refine bodyPost_ret (v := .agg #[.int .i64 0, .int .i64 1, .int .i64 0]) (by simp [results, Tryz.results265, go_sem]) rfl ?_
  exact Ret.of gro
 ·clear h
  go_enter Tryz.func265, Tryz.ntmps265
  go_wp2
  refine bodyPost_ret (v := .agg #[.int .i64 0, .int .i64 0, .int .i64 1]) (by simp [results, Tryz.results265, go_sem]) rfl ?_
  exact Ret.of gro
 ·clear h
  go_enter Tryz.func265, Tryz.ntmps265
  go_wp2
  refine bodyPost_ret (v := .agg #[.int .i64 (-1), .int .i64 0, .int .i64 0]) (by simp [results, Tryz.results265, go_sem]) rfl ?_
  exact Ret.of gro
 ·clear h
  go_enter Tryz.func265, Tryz.ntmps265
  go_wp2
  refine bodyPost_ret (v := .agg #[.int .i64 0, .int .i64 (-1), .int .i64 0]) (by simp [results, Tryz.results265, go_sem]) rfl ?_
  exact Ret.of gro
 ·clear h
  go_enter Tryz.func265, Tryz.ntmps265
  go_wp2
  refine bodyPost_ret (v := .agg #[.int .i64 0, .int .i64 0, .int .i64 (-1)]) (by simp [results, Tryz.results265, go_sem]) rfl ?_
  exact Ret.of gro
theorem unit_small {n : Int} (h : n ≠ 0 ∧ -3 ≤ n ∧ n ≤ 3) : NearP (unitP n) 1 := by
 rcases (show n = 1 ∨ n = 2 ∨ n = 3 ∨ n = -1 ∨ n = -2 ∨ n = -3 by omega) with rfl | rfl | rfl | rfl | rfl | rfl <;> (unfold NearP unitP; simp)

set_option maxHeartbeats 1000000 in
theorem cross_c (a b : Pt) (ha : NearP a 1) (hb : NearP b 1) (w : World) : Calls Tryz.prog 266 #[(.agg #[.int .i64 a.x, .int .i64 a.y, .int .i64 a.z]), (.agg #[.int .i64 b.x, .int .i64 b.y, .int .i64 b.z])] w (Ret w (.agg #[.int .i64 (crossP a b).x, .int .i64 (crossP a b).y, .int .i64 (crossP a b).z])) := by
 obtain ⟨a1, a2, a3⟩ := ha
 obtain ⟨b1, b2, b3⟩ := hb
 obtain ⟨s1, t1⟩ := mul_small a2 b3
 obtain ⟨s2, t2⟩ := mul_small a3 b2
 obtain ⟨s3, t3⟩ := mul_small a3 b1
 obtain ⟨s4, t4⟩ := mul_small a1 b3
 obtain ⟨s5, t5⟩ := mul_small a1 b2
 obtain ⟨s6, t6⟩ := mul_small a2 b1
 have v1 : wrap64 (a.y * b.z) = a.y * b.z := IntWalk.wrap64_in _ (by omega)
 have v2 : wrap64 (a.z * b.y) = a.z * b.y := IntWalk.wrap64_in _ (by omega)
 have v3 : wrap64 (a.z * b.x) = a.z * b.x := IntWalk.wrap64_in _ (by omega)
 have v4 : wrap64 (a.x * b.z) = a.x * b.z := IntWalk.wrap64_in _ (by omega)
 have v5 : wrap64 (a.x * b.y) = a.x * b.y := IntWalk.wrap64_in _ (by omega)
 have v6 : wrap64 (a.y * b.x) = a.y * b.x := IntWalk.wrap64_in _ (by omega)
 clear a1 a2 a3 b1 b2 b3
 go_enter Tryz.func266, Tryz.ntmps266
 go_wp2
 refine bodyPost_ret (v := (.agg #[.int .i64 (crossP a b).x, .int .i64 (crossP a b).y, .int .i64 (crossP a b).z])) (by simp [results, Tryz.results266, go_sem, crossP]) rfl ?_
 exact Ret.of gro



set_option maxHeartbeats 1000000 in
theorem columns_c (tx ty : Int) (h : turnB tx ty = true) (w : World) : Calls Tryz.prog 261 #[.agg #[.int .i64 tx, .int .i64 ty]] w (Ret w (.agg #[.int .i64 (unitP tx).x, .int .i64 (unitP tx).y, .int .i64 (unitP tx).z, .int .i64 (unitP ty).x, .int .i64 (unitP ty).y, .int .i64 (unitP ty).z, .int .i64 (crossP (unitP tx) (unitP ty)).x, .int .i64 (crossP (unitP tx) (unitP ty)).y, .int .i64 (crossP (unitP tx) (unitP ty)).z])) := by
 obtain ⟨ha, hb, hc⟩ := turn_iff.1 h
 have HU := hd0 (fun w => unit_c tx ha w)
 have HV := hd0 (fun w => unit_c ty hb w)
 have HC := hd0 (fun w => cross_c (unitP tx) (unitP ty) (unit_small ha) (unit_small hb) w)
 clear ha hb hc h
 generalize crossP (unitP tx) (unitP ty) = C at *
 generalize unitP tx = U at *
 generalize unitP ty = V at *
 go_enter Tryz.func261, Tryz.ntmps261
 go_wp2_with fail
 go_region_held3 (fun w' => w'.cell? ⟨w.heap.size, 0, none⟩ = some (.int .i64 tx) ∧ w'.cell? ⟨w.heap.size, 1, none⟩ = some (.int .i64 ty)) (simp [go_sem, *])
  (first
    | (go_at_call_of 265 (Value.int IntKind.i64 tx); refine Calls.mono (HU.out _) ?_; rintro e w' ⟨rfl, y1, rfl⟩)
    | (go_at_call_of 265 (Value.int IntKind.i64 ty); refine Calls.mono (HV.out _) ?_; rintro e w' ⟨rfl, y2, rfl⟩))
 all_goals
  go_wp2_with fail
  refine wp_region_tail 6 (by kernel_rfl) (by kernel_rfl) ?_; simp only [List.take_succ_cons, List.take_zero, List.drop_succ_cons, List.drop_zero]
  repeat (go_big_quiet_step ((go_at_call 266; exact Calls.quiet_ext (HC.out _))))
  refine wpQuiet_nil ?_; rintro _ ⟨xq, rfl⟩
  go_wp2
  refine bodyPost_ret (v := .agg #[.int .i64 U.x, .int .i64 U.y, .int .i64 U.z, .int .i64 V.x, .int .i64 V.y, .int .i64 V.z, .int .i64 C.x, .int .i64 C.y, .int .i64 C.z]) (by simp [results, Tryz.results261, go_sem]) rfl ?_
  exact Ret.of gro


theorem cross_small {tx ty : Int} (h : turnB tx ty = true) : NearP (crossP (unitP tx) (unitP ty)) 1 := by
 obtain ⟨⟨a1, a2, a3⟩, ⟨b1, b2, b3⟩, c1, c2⟩ := turn_iff.1 h
 have hx : tx = 1 ∨ tx = 2 ∨ tx = 3 ∨ tx = -1 ∨ tx = -2 ∨ tx = -3 := by omega
 have hy : ty = 1 ∨ ty = 2 ∨ ty = 3 ∨ ty = -1 ∨ ty = -2 ∨ ty = -3 := by omega
 rcases hx with rfl | rfl | rfl | rfl | rfl | rfl <;> rcases hy with rfl | rfl | rfl | rfl | rfl | rfl <;> (unfold NearP unitP crossP; simp)

set_option maxRecDepth 100000 in
set_option maxHeartbeats 4000000 in
theorem image_c (tx ty : Int) (p : Pt) (h : turnB tx ty = true) (hp : NearP p 1048576) (w : World) : Calls Tryz.prog 254 #[.agg #[.int .i64 tx, .int .i64 ty], (.agg #[.int .i64 p.x, .int .i64 p.y, .int .i64 p.z])] w (Ret w (.agg #[.int .i64 (imgP tx ty p).x, .int .i64 (imgP tx ty p).y, .int .i64 (imgP tx ty p).z])) := by
 obtain ⟨ha, hb, hc⟩ := turn_iff.1 h
 have HC := hd0 (fun w => columns_c tx ty h w)
 obtain ⟨a1, a2, a3⟩ := unit_small ha
 obtain ⟨b1, b2, b3⟩ := unit_small hb
 obtain ⟨c1, c2, c3⟩ := cross_small h
 have he : imgP tx ty p = ⟨(unitP tx).x * p.x + (unitP ty).x * p.y + (crossP (unitP tx) (unitP ty)).x * p.z, (unitP tx).y * p.x + (unitP ty).y * p.y + (crossP (unitP tx) (unitP ty)).y * p.z, (unitP tx).z * p.x + (unitP ty).z * p.y + (crossP (unitP tx) (unitP ty)).z * p.z⟩ := rfl
 generalize imgP tx ty p = I at *
 generalize crossP (unitP tx) (unitP ty) = C at *
 generalize unitP tx = U at *
 generalize unitP ty = V at *
 obtain ⟨p1, p2, p3⟩ := hp
 have s1 := mul_small a1 p1
 have s2 := mul_small b1 p2
 have s3 := mul_small c1 p3
 have s4 := mul_small a2 p1
 have s5 := mul_small b2 p2
 have s6 := mul_small c2 p3
 have s7 := mul_small a3 p1
 have s8 := mul_small b3 p2
 have s9 := mul_small c3 p3
 have v1 : wrap64 (U.x * p.x) = U.x * p.x := IntWalk.wrap64_in _ (by omega)
 have v2 : wrap64 (V.x * p.y) = V.x * p.y := IntWalk.wrap64_in _ (by omega)
 have v3 : wrap64 (C.x * p.z) = C.x * p.z := IntWalk.wrap64_in _ (by omega)
 have v4 : wrap64 (U.y * p.x) = U.y * p.x := IntWalk.wrap64_in _ (by omega)
 have v5 : wrap64 (V.y * p.y) = V.y * p.y := IntWalk.wrap64_in _ (by omega)
 have v6 : wrap64 (C.y * p.z) = C.y * p.z := IntWalk.wrap64_in _ (by omega)
 have v7 : wrap64 (U.z * p.x) = U.z * p.x := IntWalk.wrap64_in _ (by omega)
 have v8 : wrap64 (V.z * p.y) = V.z * p.y := IntWalk.wrap64_in _ (by omega)
 have v9 : wrap64 (C.z * p.z) = C.z * p.z := IntWalk.wrap64_in _ (by omega)
 have u1 : IntKind.i64.wrap (U.x * p.x) = U.x * p.x := IntWalk.i64_in _ (by omega)
 have u2 : IntKind.i64.wrap (V.x * p.y) = V.x * p.y := IntWalk.i64_in _ (by omega)
 have u3 : IntKind.i64.wrap (C.x * p.z) = C.x * p.z := IntWalk.i64_in _ (by omega)
 have u4 : IntKind.i64.wrap (U.y * p.x) = U.y * p.x := IntWalk.i64_in _ (by omega)
 have u5 : IntKind.i64.wrap (V.y * p.y) = V.y * p.y := IntWalk.i64_in _ (by omega)
 have u6 : IntKind.i64.wrap (C.y * p.z) = C.y * p.z := IntWalk.i64_in _ (by omega)
 have u7 : IntKind.i64.wrap (U.z * p.x) = U.z * p.x := IntWalk.i64_in _ (by omega)
 have u8 : IntKind.i64.wrap (V.z * p.y) = V.z * p.y := IntWalk.i64_in _ (by omega)
 have u9 : IntKind.i64.wrap (C.z * p.z) = C.z * p.z := IntWalk.i64_in _ (by omega)
 have rx1 : IntKind.i64.wrap (U.x * p.x + V.x * p.y) = U.x * p.x + V.x * p.y := IntWalk.i64_in _ (by omega)
 have rx2 : IntKind.i64.wrap (U.x * p.x + V.x * p.y + C.x * p.z) = U.x * p.x + V.x * p.y + C.x * p.z := IntWalk.i64_in _ (by omega)
 have ry1 : IntKind.i64.wrap (U.y * p.x + V.y * p.y) = U.y * p.x + V.y * p.y := IntWalk.i64_in _ (by omega)
 have ry2 : IntKind.i64.wrap (U.y * p.x + V.y * p.y + C.y * p.z) = U.y * p.x + V.y * p.y + C.y * p.z := IntWalk.i64_in _ (by omega)
 have rz1 : IntKind.i64.wrap (U.z * p.x + V.z * p.y) = U.z * p.x + V.z * p.y := IntWalk.i64_in _ (by omega)
 have rz2 : IntKind.i64.wrap (U.z * p.x + V.z * p.y + C.z * p.z) = U.z * p.x + V.z * p.y + C.z * p.z := IntWalk.i64_in _ (by omega)
 subst he
 clear ha hb hc h a1 a2 a3 b1 b2 b3 c1 c2 c3 p1 p2 p3
 go_enter Tryz.func254, Tryz.ntmps254
 go_wp2_with fail
 go_at_call 261; refine (HC.out _).mono ?_; rintro e w' ⟨rfl, x1, rfl⟩
 go_wp2_with fail
 refine wp_loop_rounds 4 ?_
 rw [rounds_succ]
 go_wp2_with fail
 refine wp_region_tail 25 (by kernel_rfl) (by kernel_rfl) ?_; simp only [List.take_succ_cons, List.take_zero, List.drop_succ_cons, List.drop_zero]
 repeat (go_big_quiet_step (fail))
 refine wpQuiet_nil ?_; rintro _ ⟨xq, rfl⟩
 go_wp2_with fail
 rw [rounds_succ]
 go_wp2_with fail
 refine wp_region_tail 25 (by kernel_rfl) (by kernel_rfl) ?_; simp only [List.take_succ_cons, List.take_zero, List.drop_succ_cons, List.drop_zero]
 repeat (go_big_quiet_step (fail))
 refine wpQuiet_nil ?_; rintro _ ⟨xq, rfl⟩
 go_wp2_with fail
 rw [rounds_succ]
 go_wp2_with fail
 refine wp_region_tail 25 (by kernel_rfl) (by kernel_rfl) ?_; simp only [List.take_succ_cons, List.take_zero, List.drop_succ_cons, List.drop_zero]
 repeat (go_big_quiet_step (fail))
 refine wpQuiet_nil ?_; rintro _ ⟨xq, rfl⟩
 go_wp2_with fail
 rw [rounds_succ]
 go_wp2
 refine bodyPost_ret (v := .agg #[.int .i64 (U.x * p.x + V.x * p.y + C.x * p.z), .int .i64 (U.y * p.x + V.y * p.y + C.y * p.z), .int .i64 (U.z * p.x + V.z * p.y + C.z * p.z)]) (by simp [results, Tryz.results254, go_sem]) rfl ?_
 exact Ret.of gro


set_option maxHeartbeats 1000000

theorem axis_v (n : Int) (r : Bool) (h : (decide (n ≠ 0) && (decide (-3 ≤ n) && decide (n ≤ 3))) = r) (w : World) : Calls Tryz.prog 237 #[.int .i64 n] w (Ret w (.bool r)) := by
 subst h
 by_cases h0 : n = 0
 ·subst h0
  go_enter Tryz.func237, Tryz.ntmps237
  go_wp2
  go_ret
  exact Ret.of gro
 ·have d0 : (n != 0) = true := by simpa using h0
  have e0 : decide (n ≠ 0) = true := by simpa using h0
  rw [e0, Bool.true_and]
  by_cases h1 : -3 ≤ n
  ·by_cases h2 : n ≤ 3
   ·rw [decide_eq_true h1, decide_eq_true h2]
    clear e0 h0
    go_enter Tryz.func237, Tryz.ntmps237
    go_wp2
    go_ret
    exact Ret.of gro
   ·rw [decide_eq_false h2, Bool.and_false]
    clear e0 h0
    go_enter Tryz.func237, Tryz.ntmps237
    go_wp2
    go_ret
    exact Ret.of gro
  ·rw [decide_eq_false h1, Bool.false_and]
   clear e0 h0
   go_enter Tryz.func237, Tryz.ntmps237
   go_wp2
   go_ret
   exact Ret.of gro

theorem frameValid_v (tx ty : Int) (r : Bool) (h : turnB tx ty = r) (w : World) : Calls Tryz.prog 192 #[.agg #[.int .i64 tx, .int .i64 ty]] w (Ret w (.bool r)) := by
 have HX := hd0 (fun r h w => axis_v tx r h w)
 have HY := hd0 (fun r h w => axis_v ty r h w)
 unfold turnB at h
 cases h1 : (decide (tx ≠ 0) && (decide (-3 ≤ tx) && decide (tx ≤ 3)))
 ·rw [h1, Bool.false_and] at h
  subst h
  have H1 := hd0 h1
  clear h1
  go_enter Tryz.func192, Tryz.ntmps192
  go_wp2_with fail
  go_at_call 237; refine (HX.out _ H1.out _).mono ?_; rintro e w' ⟨rfl, x1, rfl⟩
  go_wp2
  go_ret
  exact Ret.of gro
 rw [h1, Bool.true_and] at h
 have H1 := hd0 h1
 have b1 : -3 ≤ tx ∧ tx ≤ 3 := by simp only [Bool.and_eq_true, decide_eq_true_iff] at h1; exact h1.2
 clear h1
 cases h2 : (decide (ty ≠ 0) && (decide (-3 ≤ ty) && decide (ty ≤ 3)))
 ·rw [h2, Bool.false_and] at h
  subst h
  have H2 := hd0 h2
  clear h2
  go_enter Tryz.func192, Tryz.ntmps192
  go_wp2_with fail
  go_at_call_of 237 (Value.int IntKind.i64 tx); refine (HX.out _ H1.out _).mono ?_; rintro e w' ⟨rfl, x1, rfl⟩
  go_wp2_with fail
  go_at_call 237; refine (HY.out _ H2.out _).mono ?_; rintro e w' ⟨rfl, x2, rfl⟩
  go_wp2
  go_ret
  exact Ret.of gro
 rw [h2, Bool.true_and] at h
 have H2 := hd0 h2
 have b2 : -3 ≤ ty ∧ ty ≤ 3 := by simp only [Bool.and_eq_true, decide_eq_true_iff] at h2; exact h2.2
 clear h2
 by_cases h3 : tx = ty
 ·subst h3
  rw [show decide (tx ≠ tx) = false by simp, Bool.false_and] at h
  subst h
  have d3 : (tx != tx) = false := by simp
  go_enter Tryz.func192, Tryz.ntmps192
  go_wp2_with fail
  go_at_call 237; refine (HX.out _ H1.out _).mono ?_; rintro e w' ⟨rfl, x1, rfl⟩
  go_wp2_with fail
  go_at_call 237; refine (HX.out _ H1.out _).mono ?_; rintro e w' ⟨rfl, x2, rfl⟩
  go_wp2
  go_ret
  exact Ret.of gro
 rw [show decide (tx ≠ ty) = true by simpa using h3, Bool.true_and] at h
 have d3 : (tx != ty) = true := by simpa using h3
 by_cases h4 : tx = -ty
 ·rw [show decide (tx ≠ -ty) = false by simpa using h4] at h
  subst h
  have d4 : (tx != -ty) = false := by simpa using h4
  clear h3 h4
  go_enter Tryz.func192, Tryz.ntmps192
  go_wp2_with fail
  go_at_call 237; refine (HX.out _ H1.out _).mono ?_; rintro e w' ⟨rfl, x1, rfl⟩
  go_wp2_with fail
  go_at_call 237; refine (HY.out _ H2.out _).mono ?_; rintro e w' ⟨rfl, x2, rfl⟩
  go_wp2
  go_ret
  exact Ret.of gro
 ·rw [show decide (tx ≠ -ty) = true by simpa using h4] at h
  subst h
  have d4 : (tx != -ty) = true := by simpa using h4
  clear h3 h4
  go_enter Tryz.func192, Tryz.ntmps192
  go_wp2_with fail
  go_at_call 237; refine (HX.out _ H1.out _).mono ?_; rintro e w' ⟨rfl, x1, rfl⟩
  go_wp2_with fail
  go_at_call 237; refine (HY.out _ H2.out _).mono ?_; rintro e w' ⟨rfl, x2, rfl⟩
  go_wp2
  go_ret
  exact Ret.of gro


theorem placed_c (tx ty : Int) (p : Pt) (h : turnB tx ty = true) (hp : NearP p 1048576) (w : World) : Calls Tryz.prog 230 #[.agg #[.int .i64 tx, .int .i64 ty], .agg #[.int .i64 0, .int .i64 0, .int .i64 0], (.agg #[.int .i64 p.x, .int .i64 p.y, .int .i64 p.z])] w (Ret w (.agg #[.int .i64 (imgP tx ty p).x, .int .i64 (imgP tx ty p).y, .int .i64 (imgP tx ty p).z])) := by
 have HI := hd0 (fun w => image_c tx ty p h hp w)
 obtain ⟨i1, i2, i3⟩ := img_near h hp
 generalize imgP tx ty p = I at *
 clear h hp
 go_enter Tryz.func230, Tryz.ntmps230
 go_wp2_with fail
 go_at_call 254; refine (HI.out _).mono ?_; rintro e w' ⟨rfl, x1, rfl⟩
 go_wp2
 refine bodyPost_ret (v := (.agg #[.int .i64 I.x, .int .i64 I.y, .int .i64 I.z])) (by simp [results, Tryz.results230, go_sem]) rfl ?_
 exact Ret.of gro


end Go.Proofs.YtkjljneehgmmaaaGreat

