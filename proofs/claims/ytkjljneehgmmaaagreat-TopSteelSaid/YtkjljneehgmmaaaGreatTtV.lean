/- TopSteel: the references of steps and of rules, weak form. Printed by mkttv.py. -/
import Derived.Test.YtkjljneehgmmaaaGreatAbK3
import Derived.Test.YtkjljneehgmmaaaGreatAaK9
namespace Go.Proofs.YtkjljneehgmmaaaGreat
set_option linter.unusedVariables false
set_option linter.unusedSimpArgs false
open Go Go.RowKit
set_option maxRecDepth 20000

def RetQ (w : World) (P : Prop) : Ending → World → Prop := fun e W => ∃ q, e = .returned (.bool q) ∧ (q = true → P) ∧ ∃ x, W = ext w x
def RetW (w : World) (v : Value) : Ending → World → Prop := fun e W => e = .returned v ∧ W = w
theorem num24_w (n : Int) (r : Bool) (h : decide (1 ≤ n ∧ n ≤ 1000) = r) (w : World) : Calls Tryz.prog 100 #[.int .i64 n] w (RetW w (.bool r)) := by
 by_cases h1 : 1 ≤ n
 ·have d1 : decide ((1 : Int) ≤ n) = true := by simpa using h1
  have d2 : decide (n ≤ 1000) = r := by rw [← h]; apply decide_eq_decide.2; omega
  clear h
  go_enter Tryz.func100, Tryz.ntmps100
  go_wp2
  go_ret
  exact ⟨rfl, rfl⟩
 ·have d1 : decide ((1 : Int) ≤ n) = false := by simpa using h1
  obtain rfl : false = r := by rw [← h]; symm; simp; omega
  clear h
  go_enter Tryz.func100, Tryz.ntmps100
  go_wp2
  go_ret
  exact ⟨rfl, rfl⟩
set_option maxRecDepth 100000 in
set_option maxHeartbeats 8000000 in
theorem refRule_c (r : Rl) (w : World) : Calls Tryz.prog 53 #[.agg #[.int .i64 r.num, .int .i64 r.den, .int .i64 r.pn, .int .i64 r.pd, .int .i64 r.bn, .int .i64 r.bd, .int .i64 r.ln, .int .i64 r.ld, .int .i64 r.least]] w (RetQ w (ruOk r)) := by
 obtain ⟨num, den, pn, pd, bn, bd, ln, ld, least⟩ := r
 unfold ruOk
 simp only
 obtain ⟨b0, e0⟩ : ∃ b, decide (1 ≤ num ∧ num ≤ 1000) = b := ⟨_, rfl⟩
 have H0 := hd0 (num24_w num _ e0)
 have F0 := hd0 (show b0 = true → 1 ≤ num ∧ num ≤ 1000 from fun h => of_decide_eq_true (e0.trans h))
 clear e0
 obtain ⟨b1, e1⟩ : ∃ b, decide (1 ≤ den ∧ den ≤ 1000) = b := ⟨_, rfl⟩
 have H1 := hd0 (num24_w den _ e1)
 have F1 := hd0 (show b1 = true → 1 ≤ den ∧ den ≤ 1000 from fun h => of_decide_eq_true (e1.trans h))
 clear e1
 obtain ⟨b2, e2⟩ : ∃ b, decide (1 ≤ pn ∧ pn ≤ 1000) = b := ⟨_, rfl⟩
 have H2 := hd0 (num24_w pn _ e2)
 have F2 := hd0 (show b2 = true → 1 ≤ pn ∧ pn ≤ 1000 from fun h => of_decide_eq_true (e2.trans h))
 clear e2
 obtain ⟨b3, e3⟩ : ∃ b, decide (1 ≤ pd ∧ pd ≤ 1000) = b := ⟨_, rfl⟩
 have H3 := hd0 (num24_w pd _ e3)
 have F3 := hd0 (show b3 = true → 1 ≤ pd ∧ pd ≤ 1000 from fun h => of_decide_eq_true (e3.trans h))
 clear e3
 obtain ⟨b4, e4⟩ : ∃ b, decide (1 ≤ bn ∧ bn ≤ 1000) = b := ⟨_, rfl⟩
 have H4 := hd0 (num24_w bn _ e4)
 have F4 := hd0 (show b4 = true → 1 ≤ bn ∧ bn ≤ 1000 from fun h => of_decide_eq_true (e4.trans h))
 clear e4
 obtain ⟨b5, e5⟩ : ∃ b, decide (1 ≤ bd ∧ bd ≤ 1000) = b := ⟨_, rfl⟩
 have H5 := hd0 (num24_w bd _ e5)
 have F5 := hd0 (show b5 = true → 1 ≤ bd ∧ bd ≤ 1000 from fun h => of_decide_eq_true (e5.trans h))
 clear e5
 obtain ⟨b6, e6⟩ : ∃ b, decide (1 ≤ ln ∧ ln ≤ 1000) = b := ⟨_, rfl⟩
 have H6 := hd0 (num24_w ln _ e6)
 have F6 := hd0 (show b6 = true → 1 ≤ ln ∧ ln ≤ 1000 from fun h => of_decide_eq_true (e6.trans h))
 clear e6
 obtain ⟨b7, e7⟩ : ∃ b, decide (1 ≤ ld ∧ ld ≤ 1000) = b := ⟨_, rfl⟩
 have H7 := hd0 (num24_w ld _ e7)
 have F7 := hd0 (show b7 = true → 1 ≤ ld ∧ ld ≤ 1000 from fun h => of_decide_eq_true (e7.trans h))
 clear e7
 go_enter Tryz.func53, Tryz.ntmps53
 go_wp2_with fail
 go_at_call 100; refine (H0.out _).mono ?_; rintro e W ⟨rfl, rfl⟩
 cases b0
 ·go_wp2
  go_ret
  exact ⟨false, rfl, fun h => (by cases h), ext_of gro⟩
 go_wp2_with fail
 go_at_call 100; refine (H1.out _).mono ?_; rintro e W ⟨rfl, rfl⟩
 cases b1
 ·go_wp2
  go_ret
  exact ⟨false, rfl, fun h => (by cases h), ext_of gro⟩
 go_wp2_with fail
 go_at_call 100; refine (H2.out _).mono ?_; rintro e W ⟨rfl, rfl⟩
 cases b2
 ·go_wp2
  go_ret
  exact ⟨false, rfl, fun h => (by cases h), ext_of gro⟩
 go_wp2_with fail
 go_at_call 100; refine (H3.out _).mono ?_; rintro e W ⟨rfl, rfl⟩
 cases b3
 ·go_wp2
  go_ret
  exact ⟨false, rfl, fun h => (by cases h), ext_of gro⟩
 go_wp2_with fail
 go_at_call 100; refine (H4.out _).mono ?_; rintro e W ⟨rfl, rfl⟩
 cases b4
 ·go_wp2
  go_ret
  exact ⟨false, rfl, fun h => (by cases h), ext_of gro⟩
 go_wp2_with fail
 go_at_call 100; refine (H5.out _).mono ?_; rintro e W ⟨rfl, rfl⟩
 cases b5
 ·go_wp2
  go_ret
  exact ⟨false, rfl, fun h => (by cases h), ext_of gro⟩
 go_wp2_with fail
 go_at_call 100; refine (H6.out _).mono ?_; rintro e W ⟨rfl, rfl⟩
 cases b6
 ·go_wp2
  go_ret
  exact ⟨false, rfl, fun h => (by cases h), ext_of gro⟩
 go_wp2_with fail
 go_at_call 100; refine (H7.out _).mono ?_; rintro e W ⟨rfl, rfl⟩
 cases b7
 ·go_wp2
  go_ret
  exact ⟨false, rfl, fun h => (by cases h), ext_of gro⟩
 cases e0 : decide (pd ≤ pn)
 ·go_wp2
  go_ret
  exact ⟨false, rfl, fun h => (by cases h), ext_of gro⟩
 cases e1 : decide (ld ≤ ln)
 ·go_wp2
  go_ret
  exact ⟨false, rfl, fun h => (by cases h), ext_of gro⟩
 cases e2 : decide (bn ≤ bd)
 ·go_wp2
  go_ret
  exact ⟨false, rfl, fun h => (by cases h), ext_of gro⟩
 cases e3 : decide ((0 : Int) ≤ least)
 ·go_wp2
  go_ret
  exact ⟨false, rfl, fun h => (by cases h), ext_of gro⟩
 cases e4 : decide (least ≤ 1000)
 ·go_wp2
  go_ret
  exact ⟨false, rfl, fun h => (by cases h), ext_of gro⟩
 have HF := hd0 (show pd ≤ pn ∧ ld ≤ ln ∧ bn ≤ bd ∧ (0 : Int) ≤ least ∧ least ≤ 1000 from ⟨of_decide_eq_true e0, of_decide_eq_true e1, of_decide_eq_true e2, of_decide_eq_true e3, of_decide_eq_true e4⟩)
 go_wp2
 go_ret
 exact ⟨true, rfl, fun _ => ⟨F0.out (by trivial), F1.out (by trivial), F2.out (by trivial), F3.out (by trivial), F4.out (by trivial), F5.out (by trivial), F6.out (by trivial), F7.out (by trivial), HF.out⟩, ext_of gro⟩
end Go.Proofs.YtkjljneehgmmaaaGreat
