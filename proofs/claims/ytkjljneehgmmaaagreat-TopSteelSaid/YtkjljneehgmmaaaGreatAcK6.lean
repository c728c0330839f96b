/- TtW, TtX, TtY, TtZ, TuA in one text. -/
import Derived.Test.YtkjljneehgmmaaaGreatAbK3
import Derived.Test.YtkjljneehgmmaaaGreatAaK9
import Derived.Deep.DeepCutAuto
import Derived.Test.YtkjljneehgmmaaaGreatNameK
import Derived.Test.YtkjljneehgmmaaaGreatAaK5
namespace Go.Proofs.YtkjljneehgmmaaaGreat
set_option linter.unusedVariables false
set_option linter.unusedSimpArgs false
open Go Go.RowKit
set_option maxRecDepth 20000

def RetP' (w : World) (P : Prop) : Ending → World → Prop := fun e W => ∃ q, e = .returned (.bool q) ∧ (q = true → P) ∧ ∃ x, W = ext w x
theorem betw10_w (n a b : Int) (r : Bool) (h : decide (a ≤ n ∧ n ≤ b) = r) (w : World) : Calls Tryz.prog 160 #[.int .i64 n, .int .i64 a, .int .i64 b] w (Ret w (.bool r)) := by
 by_cases h1 : a ≤ n
 ·have d1 : decide (a ≤ n) = true := by simpa using h1
  have d2 : decide (n ≤ b) = r := by rw [← h]; apply decide_eq_decide.2; omega
  clear h
  go_enter Tryz.func160, Tryz.ntmps160
  go_wp2
  go_ret
  exact Ret.of gro
 ·have d1 : decide (a ≤ n) = false := by simpa using h1
  obtain rfl : false = r := by rw [← h]; symm; simp; omega
  clear h
  go_enter Tryz.func160, Tryz.ntmps160
  go_wp2
  go_ret
  exact Ret.of gro
theorem plc10_w (n : Int) (r : Bool) (h : decide (-1048576 ≤ n ∧ n ≤ 1048576) = r) (w : World) : Calls Tryz.prog 159 #[.int .i64 n] w (Ret w (.bool r)) := by
 have HB := hd0 (betw10_w n (-1048576) 1048576 r h)
 clear h
 go_enter Tryz.func159, Tryz.ntmps159
 go_wp2_with fail
 go_at_call 160; refine (HB.out _).mono ?_; rintro e w' ⟨rfl, x1, rfl⟩
 go_wp2
 go_ret
 exact Ret.of gro
def stOne (s : Int × Int) : Prop := (-1048576 ≤ s.1 ∧ s.1 ≤ 1048576) ∧ 0 ≤ s.2 ∧ s.2 ≤ 1099511627776
set_option maxRecDepth 100000 in
set_option maxHeartbeats 8000000 in
theorem refSteps_c (l : List (Int × Int)) (v : Value) (w : World) (hl : Prs w v l) : Calls Tryz.prog 99 #[v] w (RetP' w (StOk l)) := by
 obtain ⟨a, cap, rfl, h2, h3, h4⟩ := hl
 have H4 := hd0 h4
 clear h4
 by_cases hlen : l.length ≤ 200
 ·have d1 : decide ((200 : Int) < (l.length : Int)) = false := by simp; omega
  go_enter Tryz.func99, Tryz.ntmps99
  go_wp2_with fail
  go_loopw [3] (fun i wr => ∃ k : Nat, k ≤ l.length ∧ i = .int .i64 k ∧ (∀ j (hj : j < l.length), j < k → stOne l[j]) ∧ (∀ j (hj : j + 1 < l.length), j + 1 < k → (l[j]).1 < (l[j + 1]).1) ∧ ∃ x, wr = ext w x) (fun i _ => l.length - (intOf i).toNat)
  case atStart => exact ⟨0, by omega, rfl, fun j _ h => by omega, fun j _ h => by omega, ext_of gro⟩
  case round =>
   obtain ⟨k, hk, rfl, hone, hasc, x, rfl⟩ := hrel
   have HONE := hd0 hone
   have HASC := hd0 hasc
   clear hone hasc d1
   by_cases hlt : k < l.length
   ·obtain ⟨b, o, rfl, c0, c1⟩ := H4.out k hlt
    have c0 := cell_ext_some c0 x
    have c1 := cell_ext_some c1 x
    have i1 : (0 : Int) ≤ (k : Int) := by omega
    have i2 : (k : Int) < (l.length : Int) := by omega
    rcases Nat.eq_zero_or_pos k with rfl | hpos
    ·simp only [Nat.zero_mul, Nat.add_zero] at c0 c1
     obtain ⟨f, u, es⟩ : ∃ f u, l[0] = (f, u) := ⟨_, _, rfl⟩
     rw [es] at c0 c1
     simp only at c0 c1
     have HES := hd0 es
     clear es
     cases e1 : decide (-1048576 ≤ f ∧ f ≤ 1048576)
     ·have HP := hd0 (plc10_w f _ e1)
      clear e1
      go_upto_region 6 with fail
      refine wp_region_grows (by kernel_rfl) (by kernel_rfl) ?_
      repeat (go_big_quiet_step (first | (go_at_call 159; exact Calls.quiet_ext (HP.out _))))
      refine wpQuiet_nil ?_; rintro _ ⟨xq, rfl⟩
      go_wp2
      go_ret
      exact ⟨false, rfl, fun h => (by cases h), ext_of gro⟩
     have HP := hd0 (plc10_w f _ e1)
     have HA1 := hd0 (of_decide_eq_true e1)
     clear e1
     cases e2 : decide (0 ≤ u ∧ u ≤ 1099511627776)
     ·have HQ := hd0 (betw10_w u 0 1099511627776 _ e2)
      clear e2
      go_upto_region 6 with fail
      refine wp_region_grows (by kernel_rfl) (by kernel_rfl) ?_
      repeat (go_big_quiet_step (first | (go_at_call 159; exact Calls.quiet_ext (HP.out _)) | (go_at_call 160; exact Calls.quiet_ext (HQ.out _))))
      refine wpQuiet_nil ?_; rintro _ ⟨xq, rfl⟩
      go_wp2
      go_ret
      exact ⟨false, rfl, fun h => (by cases h), ext_of gro⟩
     have HQ := hd0 (betw10_w u 0 1099511627776 _ e2)
     have HA2 := hd0 (of_decide_eq_true e2)
     have HN1 := hd0 (show ∀ j (hj : j < l.length), j < 0 + 1 → stOne l[j] from by
      intro j hj hjk
      rcases Nat.lt_or_ge j (0) with hj1 | hj1
      ·exact HONE.out j hj hj1
      ·obtain rfl : j = 0 := by omega
       unfold stOne
       rw [HES.out]
       exact ⟨HA1.out, HA2.out.1, HA2.out.2⟩)
     have HN2 := hd0 (show ∀ j (hj : j + 1 < l.length), j + 1 < 0 + 1 → (l[j]).1 < (l[j + 1]).1 from fun j hj hjk => by omega)
     clear e2
     go_upto_region 6 with fail
     refine wp_region_grows (by kernel_rfl) (by kernel_rfl) ?_
     repeat (go_big_quiet_step (first | (go_at_call 159; exact Calls.quiet_ext (HP.out _)) | (go_at_call 160; exact Calls.quiet_ext (HQ.out _))))
     refine wpQuiet_nil ?_; rintro _ ⟨xq, rfl⟩
     go_wp2
     go_roundw
     case rel => exact ⟨0 + 1, by omega, by go_num, HN1.out, HN2.out, ext_of gro⟩
     case measure => simp [intOf] <;> omega
    ·obtain ⟨m, rfl⟩ : ∃ m, k = m + 1 := ⟨k - 1, by omega⟩
     clear hpos
     obtain ⟨b', o', e', c2, c3⟩ := H4.out m (by omega)
     cases e'
     have c2 := cell_ext_some c2 x
     have c3 := cell_ext_some c3 x
     obtain ⟨f, u, es⟩ : ∃ f u, l[m + 1] = (f, u) := ⟨_, _, rfl⟩
     rw [es] at c0 c1
     obtain ⟨f', u', et⟩ : ∃ f u, l[m] = (f, u) := ⟨_, _, rfl⟩
     rw [et] at c2 c3
     have HET := hd0 et
     clear et
     simp only at c0 c1 c2 c3
     have HES := hd0 es
     clear es
     cases e1 : decide (-1048576 ≤ f ∧ f ≤ 1048576)
     ·have HP := hd0 (plc10_w f _ e1)
      clear e1
      go_upto_region 6 with fail
      refine wp_region_grows (by kernel_rfl) (by kernel_rfl) ?_
      repeat (go_big_quiet_step (first | (go_at_call 159; exact Calls.quiet_ext (HP.out _))))
      refine wpQuiet_nil ?_; rintro _ ⟨xq, rfl⟩
      go_wp2
      go_ret
      exact ⟨false, rfl, fun h => (by cases h), ext_of gro⟩
     have HP := hd0 (plc10_w f _ e1)
     have HA1 := hd0 (of_decide_eq_true e1)
     clear e1
     cases e2 : decide (0 ≤ u ∧ u ≤ 1099511627776)
     ·have HQ := hd0 (betw10_w u 0 1099511627776 _ e2)
      clear e2
      go_upto_region 6 with fail
      refine wp_region_grows (by kernel_rfl) (by kernel_rfl) ?_
      repeat (go_big_quiet_step (first | (go_at_call 159; exact Calls.quiet_ext (HP.out _)) | (go_at_call 160; exact Calls.quiet_ext (HQ.out _))))
      refine wpQuiet_nil ?_; rintro _ ⟨xq, rfl⟩
      go_wp2
      go_ret
      exact ⟨false, rfl, fun h => (by cases h), ext_of gro⟩
     have HQ := hd0 (betw10_w u 0 1099511627776 _ e2)
     have HA2 := hd0 (of_decide_eq_true e2)
     have HN1 := hd0 (show ∀ j (hj : j < l.length), j < m + 1 + 1 → stOne l[j] from by
      intro j hj hjk
      rcases Nat.lt_or_ge j (m + 1) with hj1 | hj1
      ·exact HONE.out j hj hj1
      ·obtain rfl : j = m + 1 := by omega
       unfold stOne
       rw [HES.out]
       exact ⟨HA1.out, HA2.out.1, HA2.out.2⟩)
     clear e2
     have g1 : decide ((0 : Int) < ((m + 1 : Nat) : Int)) = true := decide_eq_true (by omega)
     cases e3 : decide (f ≤ f')
     ·have HA3 := hd0 (show f' < f by simpa using e3)
      have HN2 := hd0 (show ∀ j (hj : j + 1 < l.length), j + 1 < m + 1 + 1 → (l[j]).1 < (l[j + 1]).1 from by
       intro j hj hjk
       rcases Nat.lt_or_ge (j + 1) (m + 1) with hj1 | hj1
       ·exact HASC.out j hj hj1
       ·obtain rfl : j = m := by omega
        rw [HES.out, HET.out]
        exact HA3.out)
      go_upto_region 6 with fail
      refine wp_region_grows (by kernel_rfl) (by kernel_rfl) ?_
      repeat (go_big_quiet_step (first | (go_at_call 159; exact Calls.quiet_ext (HP.out _)) | (go_at_call 160; exact Calls.quiet_ext (HQ.out _))))
      refine wpQuiet_nil ?_; rintro _ ⟨xq, rfl⟩
      go_wp2
      go_roundw
      case rel => exact ⟨m + 1 + 1, by omega, by go_num, HN1.out, HN2.out, ext_of gro⟩
      case measure => simp [intOf] <;> omega
     go_upto_region 6 with fail
     refine wp_region_grows (by kernel_rfl) (by kernel_rfl) ?_
     repeat (go_big_quiet_step (first | (go_at_call 159; exact Calls.quiet_ext (HP.out _)) | (go_at_call 160; exact Calls.quiet_ext (HQ.out _))))
     refine wpQuiet_nil ?_; rintro _ ⟨xq, rfl⟩
     go_wp2
     go_ret
     exact ⟨false, rfl, fun h => (by cases h), ext_of gro⟩
   ·obtain rfl : k = l.length := by omega
    go_wp2
    go_ret
    exact ⟨true, rfl, fun _ => ⟨hlen, fun i hi => HONE.out i hi hi, fun i hi => HASC.out i hi hi⟩, ext_of gro⟩
 ·have d1 : decide ((200 : Int) < (l.length : Int)) = true := by simp; omega
  go_enter Tryz.func99, Tryz.ntmps99
  go_wp2
  go_ret
  exact ⟨false, rfl, fun h => (by cases h), ext_of gro⟩
set_option maxHeartbeats 8000000
set_option maxRecDepth 100000

def RetFn (w : World) (l : List Dm) (m : ByteArray) : Ending → World → Prop := fun e W => ∃ r : Int, e = .returned (.int .i64 r) ∧ (∀ k : Nat, r = k → ∀ j (_ : j < k) (h' : j < l.length), (l[j].name.toList == m.toList) = false) ∧ ∃ x, W = ext w x
theorem refFind23_c (l : List Dm) (v : Value) (m : ByteArray) (w : World) (hl : Dms w v l) : Calls Tryz.prog 97 #[v, .string m] w (RetFn w l m) := by
 obtain ⟨a, cap, rfl, h2, h3, h4⟩ := hl.shape
 have H4 := hd0 h4
 clear hl h4
 go_enter Tryz.func97, Tryz.ntmps97
 go_wp2_with fail
 go_loopw [5] (fun i wr => ∃ k : Nat, k ≤ l.length ∧ i = .int .i64 k ∧ (∃ x, wr = ext w x) ∧ ∀ j (h : j < k) (h' : j < l.length), (l[j].name.toList == m.toList) = false) (fun i _ => l.length - (intOf i).toNat)
 case atStart => exact ⟨0, by omega, rfl, ext_of (Below.refl _ _), fun j h => by omega⟩
 case round =>
  obtain ⟨k, hk, rfl, ⟨x, rfl⟩, hno⟩ := hrel
  have HNO := hd0 hno
  clear hno
  by_cases hlt : k < l.length
  ·obtain ⟨_, b0, off, rfl, hbr⟩ := H4.out k hlt
   have q1 : (0 : Int) ≤ (k : Int) := by omega
   have q2 : (k : Int) < (l.length : Int) := by omega
   obtain ⟨b, hb⟩ : ∃ b, b = l[k] := ⟨_, rfl⟩
   rw [← hb] at hbr
   obtain ⟨c0, c1, c2, c3, c4, c5, c6, c7⟩ := hbr.ext x
   have HB := hd0 hb
   clear hb hbr
   cases hp : (b.name.toList == m.toList)
   ·have HP := hd0 (show (l[k].name.toList == m.toList) = false by rw [← HB.out]; exact hp)
    go_wp2
    go_roundw
    case rel => exact ⟨k + 1, by omega, by go_num, ext_of gro, fun j h1 h2 => by
     rcases Nat.lt_or_ge j k with h | h
     ·exact HNO.out j h h2
     ·obtain rfl : j = k := by omega
      exact HP.out⟩
    case measure => simp [intOf]; omega
   ·go_wp2
    go_ret
    exact ⟨_, rfl, fun k' e => (by obtain rfl : k = k' := by omega
                                   exact HNO.out), ext_of gro⟩
  ·go_wp2
   go_ret
   exact ⟨_, rfl, fun k' e => (by omega), ext_of gro⟩
theorem refVal_v (b : Bx) (r : Bool) (h : validB b = r) (w : World) : Calls Tryz.prog 98 #[(.agg #[.int .i64 b.lx, .int .i64 b.ly, .int .i64 b.lz, .int .i64 b.hx, .int .i64 b.hy, .int .i64 b.hz])] w (Ret w (.bool r)) := by subst h; exact refValid_c b w
def DmsV (l : List Dm) : Prop := l.length ≤ 20 ∧ (∀ j (hj : j < l.length), DmV l[j]) ∧ ∀ i j (hi : i < l.length) (hj : j < l.length), i < j → ((l[i]).name.toList == (l[j]).name.toList) = false
theorem refDemands_c (l : List Dm) (v : Value) (w : World) (hl : Dms w v l) : Calls Tryz.prog 52 #[v] w (RetP' w (DmsV l)) := by
 have HL := hd0 hl
 obtain ⟨a, cap, rfl, h2, h3, h4⟩ := hl.shape
 have HF := hd0 (fun m w hl => refFind23_c l (.slice a l.length cap) m w hl)
 have H4 := hd0 h4
 clear h4 hl
 by_cases hlen : l.length ≤ 20
 ·have d1 : decide ((20 : Int) < (l.length : Int)) = false := by simp; omega
  go_enter Tryz.func52, Tryz.ntmps52
  go_wp2_with fail
  go_loopw [3] (fun i wr => ∃ k : Nat, k ≤ l.length ∧ i = .int .i64 k ∧ (∀ j (hj : j < l.length), j < k → DmV l[j] ∧ ∀ i (h : i < j) (h' : i < l.length), (l[i].name.toList == l[j].name.toList) = false) ∧ ∃ x, wr = ext w x) (fun i _ => l.length - (intOf i).toNat)
  case atStart => exact ⟨0, by omega, rfl, fun j _ h => by omega, ext_of gro⟩
  case round =>
   obtain ⟨k, hk, rfl, hone, x, rfl⟩ := hrel
   have HONE := hd0 hone
   clear hone d1
   by_cases hlt : k < l.length
   ·obtain ⟨ok, b, o, rfl, hbr⟩ := H4.out k hlt
    have i1 : (0 : Int) ≤ (k : Int) := by omega
    have i2 : (k : Int) < (l.length : Int) := by omega
    obtain ⟨f, hf⟩ : ∃ f, l[k] = f := ⟨_, rfl⟩
    rw [hf] at ok hbr
    obtain ⟨c0, c1, c2, c3, c4, c5, c6, c7⟩ := hbr.ext x
    obtain ⟨sa, sc, ev, -, -, -⟩ := ok.steps
    obtain ⟨name, zone, steps, dv⟩ := f
    simp only at ev c0 c1 c2 c3 c4 c5 c6 c7
    subst ev
    have HOK := hd0 ok
    have HES := hd0 hf
    clear ok hf hbr
    cases n1 : nameB name
    ·have HN := hd0 n1
     clear n1
     go_wp2_with fail
     go_at_call 92; refine (refIsName_v name _ HN.out HOK.out.name _).mono ?_; rintro e w' ⟨rfl, y1, rfl⟩
     go_wp2
     go_ret
     exact ⟨false, rfl, fun h => (by cases h), ext_of gro⟩
    have HN := hd0 n1
    clear n1
    go_wp2_with fail
    go_at_call 92; refine (refIsName_v name _ HN.out HOK.out.name _).mono ?_; rintro e w' ⟨rfl, y1, rfl⟩
    go_wp2_with fail
    go_at_call 97; refine (HF.out name _ (HL.out.below gro)).mono ?_; rintro e W ⟨r, rfl, hr, y2, rfl⟩
    have HR := hd0 hr
    clear hr
    by_cases hrk : r = (k : Int)
    ·subst hrk
     cases n2 : validB zone
     ·have HZ := hd0 n2
      clear n2
      go_wp2_with fail
      go_at_call 98; refine (refVal_v zone _ HZ.out _).mono ?_; rintro e w' ⟨rfl, y3, rfl⟩
      go_wp2
      go_ret
      exact ⟨false, rfl, fun h => (by cases h), ext_of gro⟩
     have HZ := hd0 n2
     clear n2
     go_wp2_with fail
     go_at_call 98; refine (refVal_v zone _ HZ.out _).mono ?_; rintro e w' ⟨rfl, y3, rfl⟩
     go_wp2_with fail
     go_at_call 99; refine (refSteps_c steps _ _ (HOK.out.steps.below gro)).mono ?_; rintro e W ⟨q, rfl, hq, y4, rfl⟩
     have HQ := hd0 hq
     clear hq
     cases q
     ·go_wp2
      go_ret
      exact ⟨false, rfl, fun h => (by cases h), ext_of gro⟩
     ·have HNW := hd0 (show ∀ j (hj : j < l.length), j < k + 1 → DmV l[j] ∧ ∀ i (h : i < j) (h' : i < l.length), (l[i].name.toList == l[j].name.toList) = false from by
       intro j hj hjk
       rcases Nat.lt_or_ge j k with h | h
       ·exact HONE.out j hj h
       ·obtain rfl : j = k := by omega
        rw [HES.out]
        exact ⟨⟨HN.out, HZ.out, HQ.out rfl⟩, fun i hi hil => HR.out j rfl i hi hil⟩)
      go_wp2
      go_roundw
      case rel => exact ⟨k + 1, by omega, by go_num, HNW.out, ext_of gro⟩
      case measure => simp [intOf] <;> omega
    ·have d2 : (r != (k : Int)) = true := by simpa using hrk
     go_wp2
     go_ret
     exact ⟨false, rfl, fun h => (by cases h), ext_of gro⟩
   ·obtain rfl : k = l.length := by omega
    go_wp2
    go_ret
    exact ⟨true, rfl, fun _ => ⟨hlen, fun j hj => (HONE.out j hj hj).1, fun i j hi hj hij => (HONE.out j hj hj).2 i hij hi⟩, ext_of gro⟩
 ·have d1 : decide ((20 : Int) < (l.length : Int)) = true := by simp; omega
  go_enter Tryz.func52, Tryz.ntmps52
  go_wp2
  go_ret
  exact ⟨false, rfl, fun h => (by cases h), ext_of gro⟩

set_option maxHeartbeats 4000000 in
theorem refMain24_c (b : Bx) (r : Bool) (hr : mainB b = r) (w : World) : Calls Tryz.prog 215 #[(.agg #[.int .i64 b.lx, .int .i64 b.ly, .int .i64 b.lz, .int .i64 b.hx, .int .i64 b.hy, .int .i64 b.hz])] w (Ret w (.bool r)) := by
 unfold mainB at hr
 obtain ⟨lx, ly, lz, hx, hy, hz⟩ := b
 simp only at hr
 cases e1 : decide (lx < hx)
 ·obtain rfl : false = r := by rw [← hr, e1]; rfl
  clear hr
  go_enter Tryz.func215, Tryz.ntmps215
  go_wp2
  go_ret
  exact Ret.of gro
 cases e2 : ly == hy
 ·obtain rfl : false = r := by rw [← hr, decide_eq_false (show ¬ ly = hy by simpa using e2)]; simp
  clear hr
  go_enter Tryz.func215, Tryz.ntmps215
  go_wp2
  go_ret
  exact Ret.of gro
 obtain ⟨e3, h3⟩ : ∃ e, (lz == hz) = e := ⟨_, rfl⟩
 obtain rfl : e3 = r := by rw [← hr, e1, decide_eq_true (show ly = hy by simpa using e2), ← h3, Bool.true_and, Bool.true_and]; rfl
 clear hr
 go_enter Tryz.func215, Tryz.ntmps215
 go_wp2
 go_ret
 exact Ret.of gro

def RetMl (w : World) (l : List Bx) : Ending → World → Prop := fun e W => ∃ r : Int, e = .returned (.int .i64 r) ∧ ((r = -1 ∧ l.find? mainB = none) ∨ ∃ (k : Nat) (hk : k < l.length), r = k ∧ l.find? mainB = some l[k]) ∧ ∃ x, W = ext w x
set_option maxRecDepth 100000 in
set_option maxHeartbeats 4000000 in
theorem refMainLeg_c (l : List Bx) (v : Value) (w : World) (hl : Boxes w v l) : Calls Tryz.prog 162 #[v] w (RetMl w l) := by
 obtain ⟨a, cap, rfl, h2, h3, h4⟩ := hl
 have H4 := hd0 h4
 clear h4
 go_enter Tryz.func162, Tryz.ntmps162
 go_wp2_with fail
 go_loopw [3] (fun i wr => ∃ k : Nat, k ≤ l.length ∧ i = .int .i64 k ∧ (∃ x, wr = ext w x) ∧ ∀ j (h : j < k) (h' : j < l.length), mainB l[j] = false) (fun i _ => l.length - (intOf i).toNat)
 case atStart => exact ⟨0, by omega, rfl, ext_of (Below.refl _ _), fun j h => by omega⟩
 case round =>
  obtain ⟨k, hk, rfl, ⟨x, rfl⟩, hno⟩ := hrel
  have HNO := hd0 hno
  clear hno
  by_cases hlt : k < l.length
  ·obtain ⟨b0, off, rfl, hbr⟩ := H4.out k hlt
   have q1 : (0 : Int) ≤ (k : Int) := by omega
   have q2 : (k : Int) < (l.length : Int) := by omega
   obtain ⟨b, hb⟩ : ∃ b, b = l[k] := ⟨_, rfl⟩
   rw [← hb] at hbr
   obtain ⟨c0, c1, c2, c3, c4, c5⟩ := hbr
   have c0 := cell_ext_some c0 x
   have c1 := cell_ext_some c1 x
   have c2 := cell_ext_some c2 x
   have c3 := cell_ext_some c3 x
   have c4 := cell_ext_some c4 x
   have c5 := cell_ext_some c5 x
   have HB := hd0 hb
   clear hb
   cases hp : mainB b
   ·have HP := hd0 hp
    clear hp
    go_wp2_with fail
    go_at_call 215; refine (refMain24_c b _ HP.out _).mono ?_; rintro e w' ⟨rfl, y1, rfl⟩
    go_wp2
    go_roundw
    case rel => exact ⟨k + 1, by omega, by go_num, ext_of gro, fun j h1 h2 => by
     rcases Nat.lt_or_ge j k with h | h
     ·exact HNO.out j h h2
     ·obtain rfl : j = k := by omega
      rw [← HB.out]
      exact HP.out⟩
    case measure => simp [intOf]; omega
   ·have HP := hd0 hp
    clear hp
    go_wp2_with fail
    go_at_call 215; refine (refMain24_c b _ HP.out _).mono ?_; rintro e w' ⟨rfl, y1, rfl⟩
    go_wp2
    go_ret
    exact ⟨_, rfl, .inr ⟨k, hlt, rfl, List.find?_eq_some_iff_getElem.2 ⟨(by rw [← HB.out]; exact HP.out), k, hlt, rfl, fun j hj => (by rw [HNO.out j hj (by omega)]; rfl)⟩⟩, ext_of gro⟩
  ·go_wp2
   go_ret
   exact ⟨_, rfl, .inl ⟨rfl, List.find?_eq_none.2 fun z hz => (by obtain ⟨j, hj, rfl⟩ := List.getElem_of_mem hz; rw [HNO.out j (by omega) hj]; decide)⟩, ext_of gro⟩

theorem laid_len {l : List Br} {rs : List Rn} (h : laidB l rs = true) : rs.length ≤ 60 := by
 unfold laidB at h
 simp only [Bool.and_eq_true, decide_eq_true_iff] at h
 omega
set_option maxRecDepth 100000 in
set_option maxHeartbeats 4000000 in
theorem refCount25_c (x : Dt) (hlaid : laidB x.l x.rs = true) (w : World) (h : DtAt w x) : Calls Tryz.prog 101 #[(.agg #[.string x.q.name, x.q.u, x.q.t, .int .i64 x.q.cover, .int .i64 x.q.agg, .int .i64 x.q.poker, x.lv, x.rv, x.pv, x.dv, .int .i64 x.ru.num, .int .i64 x.ru.den, .int .i64 x.ru.pn, .int .i64 x.ru.pd, .int .i64 x.ru.bn, .int .i64 x.ru.bd, .int .i64 x.ru.ln, .int .i64 x.ru.ld, .int .i64 x.ru.least])] w (Ret w (.int .i64 (countS x.rs))) := by
 have HX := hd0 h
 have HC := hd0 (fun w hr => refCount16_c x.rs x.rv (laid_len hlaid) (laid_counts hlaid) w hr)
 clear h hlaid
 go_enter Tryz.func101, Tryz.ntmps101
 go_upto_region 1 with fail
 refine world_mask (fun W => Below w.heap.size w W ∧ Blk W w.heap.size (dtC x) 34) _ ⟨gro, Blk.new _ _ _⟩ ?_
 rintro W1 ⟨hb1, K1⟩
 have HB1 := hd0 hb1
 have e7 : W1.cell? ⟨w.heap.size, 7, none⟩ = some x.rv := K1.cell 7
 clear hb1 K1
 go_wp2_with fail
 go_at_call 96; refine (HC.out _ (HX.out.rs.below HB1.out)).mono ?_; rintro e w' ⟨rfl, x1, rfl⟩
 go_wp2
 go_ret
 exact Ret.of (grob HB1.out)
end Go.Proofs.YtkjljneehgmmaaaGreat

