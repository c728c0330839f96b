/- TsB, TsC, TsD, TsE, InvL in one text. -/
import Derived.Test.YtkjljneehgmmaaaGreatAaK6
import Derived.Test.YtkjljneehgmmaaaGreatAaK7
import Derived.Test.YtkjljneehgmmaaaGreatAaK5
import Derived.Test.YtkjljneehgmmaaaGreatNameK
import Derived.Test.YtkjljneehgmmaaaGreatBoxK
import Derived.Test.YtkjljneehgmmaaaGreatAaK3
import Derived.Test.YtkjljneehgmmaaaGreatAbK2
namespace Go.Proofs.YtkjljneehgmmaaaGreat
set_option linter.unusedVariables false
set_option linter.unusedSimpArgs false
open Go.RowKit
set_option maxRecDepth 20000
set_option maxHeartbeats 4000000
set_option maxRecDepth 100000

theorem info_st : (Tryz.prog.info? 109).map (fun i => (i.zero, i.size, i.bytes)) = some (some (.agg #[.int .i64 0, .int .i64 0]), 2, 16) := by kernel_rfl
theorem pairCells_one (l : List (Int × Int)) : ∀ u ∈ pairCells l, u.oneCell' = true := by
 intro u hu
 unfold pairCells at hu
 obtain ⟨b, _, hb⟩ := List.mem_flatMap.1 hu
 simp only [List.mem_cons, List.not_mem_nil, or_false] at hb
 rcases hb with rfl | rfl <;> rfl
theorem pairCells_app (a b : List (Int × Int)) : pairCells (a ++ b) = pairCells a ++ pairCells b := by unfold pairCells; rw [List.flatMap_append]
theorem StOk.lt {l : List (Int × Int)} (h : StOk l) {i j : Nat} (hi : i < l.length) (hj : j < l.length) (hij : i < j) : l[i].1 < l[j].1 := by
 obtain ⟨d, rfl⟩ : ∃ d, j = i + 1 + d := ⟨j - i - 1, by omega⟩
 clear hij
 induction d with
 | zero => exact h.asc i hj
 | succ d ih => exact Int.lt_trans (ih (by omega)) (h.asc (i + 1 + d) hj)
theorem asc_split {l : List (Int × Int)} (h : StOk l) (x : Int) : ∃ k, k ≤ l.length ∧ (∀ j (hj : j < l.length), j < k → l[j].1 ≤ x) ∧ (∀ j (hj : j < l.length), k ≤ j → x < l[j].1) ∧ (k = 0 → atS l x = 0) ∧ (∀ j (hj : j < l.length), k = j + 1 → atS l x = l[j].2) := by
 let p : Int × Int → Bool := fun s => decide (x < s.1)
 have h1 : ∀ j (hj : j < l.length), j < l.findIdx p → l[j].1 ≤ x := fun j hj hk => by
  have := List.not_of_lt_findIdx hk
  simpa [p] using this
 have h2 : ∀ j (hj : j < l.length), l.findIdx p ≤ j → x < l[j].1 := fun j hj hk => by
  have hlt : l.findIdx p < l.length := by omega
  have := List.findIdx_getElem (w := hlt)
  have h3 : x < (l[l.findIdx p]).1 := by simpa [p] using this
  rcases Nat.lt_or_ge (l.findIdx p) j with h4 | h4
  ·exact Int.lt_trans h3 (h.lt hlt hj h4)
  ·have : j = l.findIdx p := by omega
   subst this; exact h3
 refine ⟨l.findIdx p, List.findIdx_le_length, h1, h2, fun h0 => ?_, fun j hj h0 => ?_⟩
 ·refine atF_none (fun s hs => ?_) 0
  obtain ⟨j, hj, rfl⟩ := List.getElem_of_mem hs
  exact h2 j hj (by omega)
 ·exact atF_at hj (fun i hi h3 => h1 i hi (by omega)) (fun i hi h3 => h2 i hi (by omega)) 0
theorem place_ok (n : Int) (h : -1048576 ≤ n ∧ n ≤ 1048576) (w : World) : Calls Tryz.prog 105 #[.int .i64 n] w (Ret w (.bool true)) := by
 have d1 : decide (-1048576 ≤ n) = true := by simpa using h.1
 have d2 : decide (n ≤ 1048576) = true := by simpa using h.2
 clear h
 go_enter Tryz.func105, Tryz.ntmps105
 go_wp2
 go_ret
 exact Ret.of gro
theorem stepsValid_ok (l : List (Int × Int)) (v : Value) (h : StOk l) (w : World) (hl : Prs w v l) : Calls Tryz.prog 56 #[v] w (Ret w (.bool true)) := by
 obtain ⟨a, cap, rfl, h2, h3, h4⟩ := hl.shape
 have H4 := hd0 h4
 have HV := hd0 h
 have d1 : decide ((200 : Int) < (l.length : Int)) = false := by have := h.len; simp; omega
 clear hl h h4
 go_enter Tryz.func56, Tryz.ntmps56
 go_wp2_with fail
 go_loopw [10] (fun i wr => ∃ k : Nat, k ≤ l.length ∧ i = .int .i64 k ∧ (∃ x, wr = ext w x)) (fun i _ => l.length - (intOf i).toNat)
 case atStart => exact ⟨0, Nat.zero_le _, rfl, ext_of gro⟩
 case round =>
  obtain ⟨k, hk, rfl, ⟨x, rfl⟩⟩ := hrel
  clear d1
  by_cases hlt : k < l.length
  ·obtain ⟨b, off, rfl, c0, c1⟩ := H4.out k hlt
   obtain ⟨⟨p1, p2⟩, p3, p4⟩ := HV.out.one k hlt
   have c0 := cell_ext_some c0 x
   have c1 := cell_ext_some c1 x
   have q1 : (0 : Int) ≤ (k : Int) := by omega
   have q2 : (k : Int) < (l.length : Int) := by omega
   have HPL := hd0 (fun w => place_ok l[k].1 ⟨p1, p2⟩ w)
   rcases Nat.eq_zero_or_pos k with rfl | hpos
   ·simp only [Nat.zero_mul, Nat.add_zero] at c0 c1
    generalize l[0] = s at *
    obtain ⟨f, u⟩ := s
    simp only at *
    have d2 : decide (u < 0) = false := by simpa using p3
    have d3 : decide (1099511627776 < u) = false := by simpa using p4
    clear p1 p2 p3 p4
    go_upto_region 6 with fail
    refine wp_region_grows (by kernel_rfl) (by kernel_rfl) ?_
    repeat (go_big_quiet_step ((go_at_call 105; exact Calls.quiet_ext (HPL.out _))))
    refine wpQuiet_nil ?_; rintro _ ⟨xq, rfl⟩
    go_wp2
    go_roundw
    case rel => exact ⟨1, by omega, by go_num, ext_of gro⟩
    case measure => simp [intOf]; omega
   ·obtain ⟨j, rfl⟩ : ∃ j, k = j + 1 := ⟨k - 1, by omega⟩
    obtain ⟨b', off', e', c2, c3⟩ := H4.out j (by omega)
    cases e'
    have c2 := cell_ext_some c2 x
    have hasc := HV.out.asc j hlt
    generalize l[j + 1] = s at *
    generalize l[j] = s' at *
    obtain ⟨f, u⟩ := s
    obtain ⟨f', u'⟩ := s'
    simp only at *
    have d2 : decide (u < 0) = false := by simpa using p3
    have d3 : decide (1099511627776 < u) = false := by simpa using p4
    have d4 : decide (f ≤ f') = false := by simp; omega
    have q3 : (0 : Int) ≤ (j : Int) := by omega
    have q4 : (j : Int) < (l.length : Int) := by omega
    have q5 : (0 : Int) < ((j + 1 : Nat) : Int) := by omega
    clear p1 p2 p3 p4 hasc c3 hpos
    go_upto_region 6 with fail
    refine wp_region_grows (by kernel_rfl) (by kernel_rfl) ?_
    repeat (go_big_quiet_step ((go_at_call 105; exact Calls.quiet_ext (HPL.out _))))
    refine wpQuiet_nil ?_; rintro _ ⟨xq, rfl⟩
    go_wp2
    go_roundw
    case rel => exact ⟨j + 1 + 1, by omega, by go_num, ext_of gro⟩
    case measure => simp [intOf]; omega
  ·obtain rfl : k = l.length := by omega
   go_wp2
   go_ret
   exact Ret.of gro
theorem at1_c (l : List (Int × Int)) (v : Value) (x : Int) (g1 g2 j : Nat) (hj : j < l.length) (w : World) (hl : Prs w v l) (h1 : w.cell? ⟨g1, 0, none⟩ = some v) (h2 : w.cell? ⟨g2, 0, none⟩ = some (.int .i64 x)) :
  Calls Tryz.prog 107 #[.int .i64 j, .pointer (some ⟨g1, 0, none⟩), .pointer (some ⟨g2, 0, none⟩)] w (Ret w (.bool (decide (x < (l.getD j (0, 0)).1)))) := by
 obtain ⟨a, cap, rfl, -, -, h4⟩ := hl.shape
 obtain ⟨b, off, rfl, c0, c1⟩ := h4 j hj
 rw [← List.getElem_eq_getD (h := hj)]
 have q1 : (0 : Int) ≤ (j : Int) := by omega
 have q2 : (j : Int) < (l.length : Int) := by omega
 clear hl h4
 generalize l[j] = s at *
 obtain ⟨f, u⟩ := s
 simp only at *
 go_enter Tryz.func107, Tryz.ntmps107
 go_wp2_with fail
 refine wp_region_grows (by kernel_rfl) (by kernel_rfl) ?_
 repeat (go_big_quiet_step (fail))
 refine wpQuiet_nil ?_; rintro _ ⟨xq, rfl⟩
 go_wp2
 go_ret
 exact Ret.of gro
theorem enters_at1 : Enters 107 := enters_of Tryz.func107 (by decide) (by simp [Tryz.f107])
theorem stepsAt_c (l : List (Int × Int)) (v : Value) (x : Int) (h : StOk l) (w : World) (hl : Prs w v l) : Calls Tryz.prog 57 #[v, .int .i64 x] w (Ret w (.int .i64 (atS l x))) := by
 obtain ⟨k, hk, h1, h2, he1, he2⟩ := asc_split h x
 have hlen := h.len
 have HL := hd0 hl
 obtain ⟨a, cap, rfl, h5, h3, h4⟩ := hl.shape
 have H4 := hd0 h4
 have HS := hd0 (fun (w : World) (g1 g2 : Nat) hf => search_c 107 enters_at1 #[.pointer (some ⟨g1, 0, none⟩), .pointer (some ⟨g2, 0, none⟩)] l.length k (fun j => decide (x < (l.getD j (0, 0)).1)) (by omega) hk (fun j hj => by simp only [decide_eq_false_iff_not]; rw [← List.getElem_eq_getD (h := by omega)]; have := h1 j (by omega) hj; omega) (fun j hj hj2 => by simp only [decide_eq_true_eq]; rw [← List.getElem_eq_getD (h := hj2)]; exact h2 j hj2 hj) w hf)
 have HE1 := hd0 he1
 have HE2 := hd0 he2
 clear h hl h4 h1 h2 he1 he2 h5 h3
 generalize atS l x = r at *
 go_enter Tryz.func57, Tryz.ntmps57
 go_wp2_with fail
 go_at_call 106; refine (HS.out _ _ _ (fun j y hj => at1_c l _ x _ _ j hj _ (HL.out.below gro) (by simp [go_sem]) (by simp [go_sem]))).mono ?_; rintro e w' ⟨rfl, x1, rfl⟩
 rcases Nat.eq_zero_or_pos k with rfl | hpos
 ·obtain rfl := HE1.out rfl
  go_wp2
  go_ret
  exact Ret.of gro
 ·obtain ⟨j, rfl⟩ : ∃ j, k = j + 1 := ⟨k - 1, by omega⟩
  have hj : j < l.length := by omega
  have e0 := HE2.out j hj rfl
  obtain ⟨b, off, rfl, c0, c1⟩ := H4.out j hj
  have q1 : (0 : Int) ≤ (j : Int) := by omega
  have q2 : (j : Int) < (l.length : Int) := by omega
  have q3 : (((j + 1 : Nat) : Int) == 0) = false := by simp; omega
  have q5 : (j : Int) ≤ 200 := by omega
  clear hlen hk hpos
  generalize l[j] = s at *
  obtain ⟨f, u⟩ := s
  simp only at *
  subst e0
  go_wp2
  go_ret
  exact Ret.of gro
theorem StepsAt_c (l : List (Int × Int)) (v : Value) (x : Int) (h : StOk l) (w : World) (hl : Prs w v l) : Calls Tryz.prog 22 #[v, .int .i64 x] w (Ret w (.tuple #[.int .i64 (atS l x), .int .i64 0])) := by
 have HV := hd0 (fun w hl => stepsValid_ok l v h w hl)
 have HA := hd0 (fun w hl => stepsAt_c l v x h w hl)
 have HL := hd0 hl
 obtain ⟨a, cap, rfl, -, -, -⟩ := hl.shape
 clear h hl
 generalize atS l x = r at *
 go_enter Tryz.func22, Tryz.ntmps22
 go_wp2_with fail
 go_at_call 56; refine (HV.out _ (HL.out.below gro)).mono ?_; rintro e w' ⟨rfl, x1, rfl⟩
 go_wp2_with fail
 go_at_call 57; refine (HA.out _ (HL.out.below gro)).mono ?_; rintro e w' ⟨rfl, x2, rfl⟩
 go_wp2
 go_ret2
 exact Ret.of gro

def lastF (l : List (Int × Int)) (a : Int) : Int := l.foldl (fun _ s => s.2) a
theorem lastF_snoc (l : List (Int × Int)) (s : Int × Int) (a : Int) : lastF (l ++ [s]) a = s.2 := by unfold lastF; rw [List.foldl_append]; rfl
theorem shortF_snoc (l : List (Int × Int)) (s : Int × Int) (a : Int) : shortF (l ++ [s]) a = shortF l a ++ (if s.2 ≠ lastF l a then [s] else []) := by
 induction l generalizing a with
 | nil => by_cases h : s.2 = a <;> simp [shortF, lastF, h]
 | cons t l ih =>
   have e : lastF (t :: l) a = lastF l t.2 := rfl
   rw [List.cons_append, e]
   unfold shortF
   split
   ·rw [ih, List.cons_append]
   ·exact ih _
theorem stepsShort_c (l : List (Int × Int)) (v : Value) (hlen : l.length ≤ 1000) (w : World) (hl : Prs w v l) : Calls Tryz.prog 135 #[v] w (RetOwn w 109 2 (shortF l 0).length (pairCells (shortF l 0))) := by
 obtain ⟨a, cap, rfl, h2, h3, h4⟩ := hl.shape
 have H4 := hd0 h4
 clear hl h4
 go_enter Tryz.func135, Tryz.ntmps135
 go_wp2_with fail
 go_loopw [9, 3, 4] (fun i v3 s4 wr => ∃ k : Nat, k ≤ l.length ∧ i = .int .i64 k ∧ s4 = .int .i64 (lastF (l.take k) 0) ∧ (shortF (l.take k) 0).length ≤ k ∧ wr.ownsRow w.heap.size 109 2 v3 (shortF (l.take k) 0).length (pairCells (shortF (l.take k) 0)) ∧ (∃ x, wr = ext w x)) (fun i _ _ _ => l.length - (intOf i).toNat)
 case atStart => exact ⟨0, Nat.zero_le _, rfl, rfl, Nat.le_refl _, World.ownsRow_nil _ _ _ _, ext_of gro⟩
 case round =>
  obtain ⟨k, hk, rfl, rfl, hsl, hown, ⟨x, rfl⟩⟩ := hrel
  by_cases hlt : k < l.length
  ·obtain ⟨b, off, rfl, c0, c1⟩ := H4.out k hlt
   have c0 := cell_ext_some c0 x
   have c1 := cell_ext_some c1 x
   have q1 : (0 : Int) ≤ (k : Int) := by omega
   have q2 : (k : Int) < (l.length : Int) := by omega
   have HT := hd0 (show lastF (l.take (k + 1)) 0 = l[k].2 by rw [List.take_succ_eq_append_getElem hlt, lastF_snoc])
   have HT2 := hd0 (show shortF (l.take (k + 1)) 0 = shortF (l.take k) 0 ++ (if l[k].2 ≠ lastF (l.take k) 0 then [l[k]] else []) by rw [List.take_succ_eq_append_getElem hlt, shortF_snoc])
   have HO := hd0 hown
   obtain ⟨av, cv, rfl, -, hv2, -⟩ := own_shape hown
   have hv3 : cv ≤ 9223372036854775807 := hv2
   have HSL := hd0 hsl
   generalize shortF (l.take k) 0 = R at *
   generalize lastF (l.take k) 0 = la at *
   generalize l[k] = s at *
   obtain ⟨f, u⟩ := s
   simp only at *
   clear hown hsl hv2
   by_cases hne : u = la
   ·have d1 : (u != la) = false := by simp [hne]
    go_wp2_with fail
    go_roundw
    case rel => exact ⟨k + 1, by omega, by go_num, by rw [HT.out, hne], by rw [HT2.out]; simp [hne]; have := HSL.out; omega, by rw [HT2.out]; simp only [hne, ne_eq, not_true_eq_false, if_false, List.append_nil]; first | exact own_ext (HO.out.alloc _) _ | exact HO.out.alloc _, ext_of gro⟩
    case measure => simp [intOf]; omega
   ·have d1 : (u != la) = true := by simp [hne]
    have hm : R.length ≤ 1000 := by have := HSL.out; omega
    go_wp2_with (at_builtin; refine app_own_b rfl _ _ 41 rfl 109 (.agg #[.int .i64 0, .int .i64 0]) 2 16 Tryz.underlying41 info_st rfl (by decide) (w.heap.size) (.slice av R.length cv) (R.length) (pairCells R) _ rfl ((HO.out.alloc _).alloc _) _ 1 1 (pairCells [(f, u)]) rfl rfl (cells_new ?_ _ _ _ rfl) (pairCells_one _) (by omega) (by decide) ?_ ?_; (first | rfl | simp [size_ext]); (simp only [World.size_alloc, size_ext]; omega); intro v' w1 hown' hgrow; have HO2 := hd0 hown'; obtain ⟨a', c', rfl, _, hc2, -⟩ := own_shape hown'; have hc3 : c' ≤ 9223372036854775807 := hc2; have HGR := hd0 hgrow; clear hown' hgrow hc2; have kq : w1.cell? ⟨w.heap.size + x.heap.size, 1, none⟩ = some (.int .i64 u) := (Blk.grown (Blk.alloc (Blk.new' (k := w.heap.size + x.heap.size) (by rw [size_ext]) #[.int .i64 f, .int .i64 u] 109) _) HGR.out (fun e => by have := (HO.out.lt _ e.symm).2; rw [size_ext] at this; omega)).cell 1)
    go_roundw
    case rel => exact ⟨k + 1, by omega, by go_num, by rw [HT.out], by rw [HT2.out]; simp [hne]; have := HSL.out; omega, by rw [HT2.out]; simp only [ne_eq, hne, not_false_eq_true, if_true, pairCells_app, List.length_append]; exact HO2.out, ext_of (Below.grown gro HGR.out (by simp only [World.size_alloc, size_ext]; omega) (fun j e => (HO.out.lt j e).1))⟩
    case measure => simp [intOf]; omega
  ·obtain rfl : k = l.length := by omega
   rw [List.take_length] at hown
   go_wp2
   go_ret
   exact ⟨_, rfl, hown, _, rfl⟩
theorem StepsShort_c (l : List (Int × Int)) (v : Value) (h : StOk l) (w : World) (hl : Prs w v l) : Calls Tryz.prog 78 #[v] w (fun e W => ∃ v', e = .returned (.tuple #[v', .int .i64 0]) ∧ W.ownsRow w.heap.size 109 2 v' (shortF l 0).length (pairCells (shortF l 0)) ∧ ∃ x, W = ext w x) := by
 have HV := hd0 (fun w hl => stepsValid_ok l v h w hl)
 have HA := hd0 (fun w hl => stepsShort_c l v (by have := h.len; omega) w hl)
 have HL := hd0 hl
 obtain ⟨a, cap, rfl, -, -, -⟩ := hl.shape
 clear h hl
 generalize shortF l 0 = R at *
 go_enter Tryz.func78, Tryz.ntmps78
 go_wp2_with fail
 go_at_call 56; refine (HV.out _ (HL.out.below gro)).mono ?_; rintro e w' ⟨rfl, x1, rfl⟩
 go_wp2_with fail
 go_at_call 135; refine (HA.out _ (HL.out.below gro)).mono ?_; rintro e w' ⟨v2, rfl, hown, x2, rfl⟩
 obtain ⟨av, cv, rfl, -, -, -⟩ := own_shape hown
 have HO := hd0 hown
 clear hown
 go_wp2
 go_ret2
 exact ⟨_, rfl, own_mono HO.out (by simp [size_ext] <;> omega), ext_of gro⟩
set_option maxHeartbeats 4000000
set_option maxRecDepth 100000

theorem indexFunc_cDm (F : Nat) (hE : Enters F) (caps : Array Value) (p : Dm → Bool) (l : List Dm) (v : Value) (w : World) (hl : Dms w v l)
  (hf : ∀ b x, b ∈ l → Calls Tryz.prog F (#[(.agg #[.string b.name, .int .i64 b.zone.lx, .int .i64 b.zone.ly, .int .i64 b.zone.lz, .int .i64 b.zone.hx, .int .i64 b.zone.hy, .int .i64 b.zone.hz, b.v])] ++ caps) (ext w x) (Ret (ext w x) (.bool (p b)))) :
  Calls Tryz.prog 227 #[v, .func (.func F) #[] caps] w (Ret w (.int .i64 (((l.findIdx? p).map (fun i : Nat => (i : Int))).getD (-1)))) := by
 obtain ⟨a, cap, rfl, h2, h3, h4⟩ := hl
 have HF := hd0 hf
 have hn : l.length ≤ 9223372036854775807 := by omega
 have H4 := hd0 h4
 clear hf h4
 go_enter Tryz.func227, Tryz.ntmps227
 go_wp2_with fail
 go_loopw [8, 5] (fun i j wr => ∃ k : Nat, k ≤ l.length ∧ i = .int .i64 k ∧ (∃ x, wr = ext w x) ∧ ∀ j (h : j < k) (h' : j < l.length), p l[j] = false) (fun i j _ => l.length - (intOf i).toNat)
 case atStart => exact ⟨0, by omega, rfl, ext_of (Below.refl _ _), fun j h => by omega⟩
 case round =>
  obtain ⟨k, hk, rfl, ⟨x, rfl⟩, hno⟩ := hrel
  have HNO := hd0 hno
  clear hno
  by_cases hlt : k < l.length
  ·obtain ⟨b, off, rfl, hb⟩ := (H4.out k hlt).2
   obtain ⟨c0, c1, c2, c3, c4, c5, c6, c7⟩ := hb.ext x
   have hcall := HF.out l[k] x (List.getElem_mem hlt)
   have q1 : (0 : Int) ≤ (k : Int) := by omega
   have q2 : (k : Int) < (l.length : Int) := by omega
   obtain ⟨f, hf⟩ : ∃ f, f = l[k] := ⟨_, rfl⟩
   rw [← hf] at c0 c1 c2 c3 c4 c5 c6 c7 hcall
   have HK := hd0 hf
   have HC := hd0 hcall
   clear hf hb hcall
   go_wp2_with fail
   rw [show ∀ (a : Array Value) (w : World), (callFunc F a).run Tryz.prog w = .ok (.enter F a) w from hE, Oper.upon_enter]
   refine HC.out.mono ?_
   rintro e w' ⟨rfl, y, rfl⟩
   clear c0 c1 c2 c3 c4 c5 c6 c7
   cases hp : p f
   ·have HP := hd0 (show p l[k] = false by rw [← HK.out]; exact hp)
    clear hp
    go_wp2
    go_roundw
    case rel => exact ⟨k + 1, by omega, by go_num, ⟨_, ext_ext _ _ _⟩, fun j h1 h2 => by
     rcases Nat.lt_or_ge j k with h | h
     ·exact HNO.out j h h2
     ·obtain rfl : j = k := by omega
      exact HP.out⟩
    case measure => simp [intOf]; omega
   ·have he : l.findIdx? p = some k := by
     rw [List.findIdx?_eq_some_iff_getElem]
     exact ⟨hlt, by rw [← HK.out]; exact hp, fun j hj => by simp [HNO.out j hj (by omega)]⟩
    have HE := hd0 he
    clear he hp
    go_wp2
    go_ret
    rw [HE.out]
    exact Ret.of gro
  ·have he : l.findIdx? p = none := by
    rw [List.findIdx?_eq_none_iff]
    intro z hz
    obtain ⟨j, hj, rfl⟩ := List.getElem_of_mem hz
    exact HNO.out j (by omega) hj
   have HE := hd0 he
   clear he
   go_wp2
   go_ret
   rw [HE.out]
   exact Ret.of gro
theorem find_anyDm {p : Dm → Bool} {l : List Dm} : (decide (0 ≤ (((l.findIdx? p).map (fun i : Nat => (i : Int))).getD (-1)))) = l.any p := by
 cases h : l.findIdx? p with
 | none =>
   have := List.findIdx?_eq_none_iff.1 h
   simp only [Option.map_none, Option.getD_none]
   rw [show (decide ((0 : Int) ≤ -1)) = false from rfl]
   symm; rw [List.any_eq_false]; intro x hx; simp [this x hx]
 | some k =>
   rw [List.findIdx?_eq_some_iff_getElem] at h
   obtain ⟨hk, hp, _⟩ := h
   simp only [Option.map_some, Option.getD_some]
   rw [show decide ((0 : Int) ≤ (k : Int)) = true from by simp]
   symm; rw [List.any_eq_true]; exact ⟨_, List.getElem_mem hk, hp⟩
theorem containsFunc_cDm (F : Nat) (hE : Enters F) (caps : Array Value) (p : Dm → Bool) (l : List Dm) (v : Value) (w : World) (hl : Dms w v l)
  (hf : ∀ b x, b ∈ l → Calls Tryz.prog F (#[(.agg #[.string b.name, .int .i64 b.zone.lx, .int .i64 b.zone.ly, .int .i64 b.zone.lz, .int .i64 b.zone.hx, .int .i64 b.zone.hy, .int .i64 b.zone.hz, b.v])] ++ caps) (ext w x) (Ret (ext w x) (.bool (p b)))) :
  Calls Tryz.prog 179 #[v, .func (.func F) #[] caps] w (Ret w (.bool (l.any p))) := by
 have hfa := hd0 (@find_anyDm p l)
 have hi := hd0 (indexFunc_cDm F hE caps p l v w hl hf)
 clear hf hl
 go_enter Tryz.func179, Tryz.ntmps179
 go_wp2_with fail
 refine hi.out.mono ?_; rintro e w' ⟨rfl, x, rfl⟩
 generalize (((l.findIdx? p).map (fun i : Nat => (i : Int))).getD (-1)) = r at hfa ⊢
 go_wp2
 go_ret
 rw [← hfa.out]
 exact Ret.of gro
theorem demRight_ok (f : Dm) (h : DmV f) (w : World) (hf : DmOk w f) : Calls Tryz.prog 21 #[(.agg #[.string f.name, .int .i64 f.zone.lx, .int .i64 f.zone.ly, .int .i64 f.zone.lz, .int .i64 f.zone.hx, .int .i64 f.zone.hy, .int .i64 f.zone.hz, f.v])] w (Ret w (.bool true)) := by
 obtain ⟨name, zone, steps, v⟩ := f
 obtain ⟨hn, hz, hs⟩ := h
 obtain ⟨hname, hst⟩ := hf
 simp only at *
 have HN := hd0 (fun w => isName_c name hname w)
 rw [hn] at HN
 have HZ := hd0 (fun w => valid_c zone w)
 rw [hz] at HZ
 have HL := hd0 hst
 have HS := hd0 (fun w hl => stepsValid_ok steps v hs w hl)
 obtain ⟨av, cv, rfl, -, -, -⟩ := hst.shape
 clear hn hz hs hname hst
 go_enter Tryz.func21, Tryz.ntmps21
 go_wp2_with fail
 go_at_call 55; refine (HN.out _).mono ?_; rintro e w' ⟨rfl, x1, rfl⟩
 go_wp2_with fail
 go_at_call 29; refine (HZ.out _).mono ?_; rintro e w' ⟨rfl, x2, rfl⟩
 go_wp2_with fail
 go_at_call 56; refine (HS.out _ (HL.out.below gro)).mono ?_; rintro e w' ⟨rfl, x3, rfl⟩
 go_wp2
 go_ret
 exact Ret.of gro
theorem demAt_c (f : Dm) (x : Int) (h : DmV f) (w : World) (hf : DmOk w f) : Calls Tryz.prog 6 #[(.agg #[.string f.name, .int .i64 f.zone.lx, .int .i64 f.zone.ly, .int .i64 f.zone.lz, .int .i64 f.zone.hx, .int .i64 f.zone.hy, .int .i64 f.zone.hz, f.v]), .int .i64 x] w (Ret w (.tuple #[.int .i64 (atS f.steps x), .int .i64 0])) := by
 have HR := hd0 (fun w hf => demRight_ok f h w hf)
 have HF := hd0 hf
 have hs := h.steps
 have hst := hf.steps
 obtain ⟨name, zone, steps, v⟩ := f
 simp only at *
 have HA := hd0 (fun w hl => StepsAt_c steps v x hs w hl)
 have HL := hd0 hst
 obtain ⟨av, cv, rfl, -, -, -⟩ := hst.shape
 clear h hf hs hst
 generalize atS steps x = r at *
 go_enter Tryz.func6, Tryz.ntmps6
 go_wp2_with fail
 go_at_call 21; refine (HR.out _ (HF.out.below gro)).mono ?_; rintro e w' ⟨rfl, x1, rfl⟩
 go_wp2_with fail
 go_at_call 22; refine (HA.out _ (HL.out.below gro)).mono ?_; rintro e w' ⟨rfl, x2, rfl⟩
 go_wp2
 go_ret2
 exact Ret.of gro
def withinB (a b c d : Int) : Bool := decide (c ≤ a) && decide (b ≤ d)
theorem within_c (a b c d : Int) (w : World) : Calls Tryz.prog 71 #[.int .i64 a, .int .i64 b, .int .i64 c, .int .i64 d] w (Ret w (.bool (withinB a b c d))) := by
 unfold withinB
 cases h1 : decide (c ≤ a)
 ·go_enter Tryz.func71, Tryz.ntmps71
  go_wp2
  go_ret
  exact Ret.of gro
 ·cases h2 : decide (b ≤ d)
  all_goals
   go_enter Tryz.func71, Tryz.ntmps71
   go_wp2
   go_ret
   exact Ret.of gro
def insideB (a b : Bx) : Bool := withinB a.ly a.hy b.ly b.hy && withinB a.lz a.hz b.lz b.hz
theorem inside_c (a b : Bx) (w : World) : Calls Tryz.prog 30 #[(.agg #[.int .i64 a.lx, .int .i64 a.ly, .int .i64 a.lz, .int .i64 a.hx, .int .i64 a.hy, .int .i64 a.hz]), (.agg #[.int .i64 b.lx, .int .i64 b.ly, .int .i64 b.lz, .int .i64 b.hx, .int .i64 b.hy, .int .i64 b.hz])] w (Ret w (.bool (insideB a b))) := by
 unfold insideB
 have H1 := hd0 (fun w => within_c a.ly a.hy b.ly b.hy w)
 have H2 := hd0 (fun w => within_c a.lz a.hz b.lz b.hz w)
 generalize withinB a.ly a.hy b.ly b.hy = p at *
 generalize withinB a.lz a.hz b.lz b.hz = q at *
 cases p
 ·go_enter Tryz.func30, Tryz.ntmps30
  go_wp2_with fail
  go_at_call 71; refine (H1.out _).mono ?_; rintro e w' ⟨rfl, x1, rfl⟩
  go_wp2
  go_ret
  exact Ret.of gro
 ·go_enter Tryz.func30, Tryz.ntmps30
  go_wp2_with fail
  go_at_call 71; refine (H1.out _).mono ?_; rintro e w' ⟨rfl, x1, rfl⟩
  go_wp2_with fail
  go_at_call 71; refine (H2.out _).mono ?_; rintro e w' ⟨rfl, x2, rfl⟩
  go_wp2
  go_ret
  exact Ret.of gro
def zoneB (f : Dm) (g : Bx) : Bool := decide (g.ly = g.hy) && (decide (g.lz = g.hz) && insideB g f.zone)
theorem demIn_c (f : Dm) (g : Bx) (h : DmV f) (hg : validB g = true) (w : World) (hf : DmOk w f) : Calls Tryz.prog 10 #[(.agg #[.string f.name, .int .i64 f.zone.lx, .int .i64 f.zone.ly, .int .i64 f.zone.lz, .int .i64 f.zone.hx, .int .i64 f.zone.hy, .int .i64 f.zone.hz, f.v]), (.agg #[.int .i64 g.lx, .int .i64 g.ly, .int .i64 g.lz, .int .i64 g.hx, .int .i64 g.hy, .int .i64 g.hz])] w (Ret w (.tuple #[.bool (zoneB f g), .int .i64 0])) := by
 have HR := hd0 (fun w hf => demRight_ok f h w hf)
 have HF := hd0 hf
 have hst := hf.steps
 have HV := hd0 (fun w => valid_c g w)
 rw [hg] at HV
 have HI := hd0 (fun w => inside_c g f.zone w)
 unfold zoneB
 obtain ⟨name, zone, steps, v⟩ := f
 simp only at *
 obtain ⟨av, cv, rfl, -, -, -⟩ := hst.shape
 generalize insideB g zone = r at *
 clear h hf hst hg
 by_cases e1 : g.ly = g.hy
 ·by_cases e2 : g.lz = g.hz
  ·have d1 : (g.ly == g.hy) = true := by simp [e1]
   have d2 : (g.lz == g.hz) = true := by simp [e2]
   rw [decide_eq_true e1, decide_eq_true e2, Bool.true_and, Bool.true_and]
   clear e1 e2
   go_enter Tryz.func10, Tryz.ntmps10
   go_wp2_with fail
   go_at_call 21; refine (HR.out _ (HF.out.below gro)).mono ?_; rintro e w' ⟨rfl, x1, rfl⟩
   go_wp2_with fail
   go_at_call 29; refine (HV.out _).mono ?_; rintro e w' ⟨rfl, x2, rfl⟩
   go_wp2_with fail
   go_at_call 30; refine (HI.out _).mono ?_; rintro e w' ⟨rfl, x3, rfl⟩
   go_wp2
   go_ret2
   exact Ret.of gro
  ·have d1 : (g.ly == g.hy) = true := by simp [e1]
   have d2 : (g.lz == g.hz) = false := by simp [e2]
   rw [decide_eq_true e1, decide_eq_false e2, Bool.false_and, Bool.and_false]
   clear e1 e2
   go_enter Tryz.func10, Tryz.ntmps10
   go_wp2_with fail
   go_at_call 21; refine (HR.out _ (HF.out.below gro)).mono ?_; rintro e w' ⟨rfl, x1, rfl⟩
   go_wp2_with fail
   go_at_call 29; refine (HV.out _).mono ?_; rintro e w' ⟨rfl, x2, rfl⟩
   go_wp2
   go_ret2
   exact Ret.of gro
 ·have d1 : (g.ly == g.hy) = false := by simp [e1]
  rw [decide_eq_false e1, Bool.false_and]
  clear e1
  go_enter Tryz.func10, Tryz.ntmps10
  go_wp2_with fail
  go_at_call 21; refine (HR.out _ (HF.out.below gro)).mono ?_; rintro e w' ⟨rfl, x1, rfl⟩
  go_wp2_with fail
  go_at_call 29; refine (HV.out _).mono ?_; rintro e w' ⟨rfl, x2, rfl⟩
  go_wp2
  go_ret2
  exact Ret.of gro
theorem demValid1_c (f : Dm) (m : ByteArray) (g : Nat) (w : World) (hf : DmOk w f) (hg : w.cell? ⟨g, 0, none⟩ = some (.string m)) : Calls Tryz.prog 180 #[(.agg #[.string f.name, .int .i64 f.zone.lx, .int .i64 f.zone.ly, .int .i64 f.zone.lz, .int .i64 f.zone.hx, .int .i64 f.zone.hy, .int .i64 f.zone.hz, f.v]), .pointer (some ⟨g, 0, none⟩)] w (Ret w (.bool (f.name.toList == m.toList))) := by
 obtain ⟨name, zone, steps, v⟩ := f
 have hst := hf.steps
 simp only at *
 obtain ⟨av, cv, rfl, -, -, -⟩ := hst.shape
 clear hf hst
 go_enter Tryz.func180, Tryz.ntmps180
 go_wp2
 go_ret
 exact Ret.of gro
theorem enters_demValid1 : Enters 180 := enters_of Tryz.func180 (by decide) (by simp [Tryz.f180])
theorem Dms.take {w : World} {l : List Dm} {a : Option Addr} {n cap : Nat} (h : Dms w (.slice a n cap) l) {k : Nat} (hk : k ≤ l.length) : Dms w (.slice a k cap) (l.take k) := by
 obtain ⟨a', cap', e, h2, h3, h4⟩ := h
 cases e
 refine ⟨a, cap, by rw [List.length_take, Nat.min_eq_left hk], by rw [List.length_take]; omega, h3, fun i hi => ?_⟩
 have hi' : i < k := by rw [List.length_take] at hi; omega
 obtain ⟨q, b, off, e, hb⟩ := h4 i (by omega)
 refine ⟨by simpa using q, b, off, e, by simpa using hb⟩
theorem demValid_ok (l : List Dm) (v : Value) (h1 : l.length ≤ 20) (h2 : ∀ f ∈ l, DmV f) (h3 : ∀ i j (hi : i < l.length) (hj : j < l.length), i < j → ((l[i]).name.toList == (l[j]).name.toList) = false) (w : World) (hl : Dms w v l) :
  Calls Tryz.prog 124 #[v] w (Ret w (.bool true)) := by
 have HL := hd0 hl
 obtain ⟨a, cap, rfl, h5, h6, h4⟩ := hl.shape
 have H4 := hd0 h4
 have H2 := hd0 h2
 have H3 := hd0 h3
 have d1 : decide ((20 : Int) < (l.length : Int)) = false := by simp; omega
 have hcap : (l.length : Int) ≤ (cap : Int) := by omega
 clear hl h4 h2 h3
 go_enter Tryz.func124, Tryz.ntmps124
 go_wp2_with fail
 go_loopw [10] (fun i wr => ∃ k : Nat, k ≤ l.length ∧ i = .int .i64 k ∧ (∃ x, wr = ext w x)) (fun i _ => l.length - (intOf i).toNat)
 case atStart => exact ⟨0, Nat.zero_le _, rfl, ext_of gro⟩
 case round =>
  obtain ⟨k, hk, rfl, ⟨x, rfl⟩⟩ := hrel
  clear d1
  by_cases hlt : k < l.length
  ·obtain ⟨hok, b, off, rfl, hb⟩ := H4.out k hlt
   obtain ⟨c0, c1, c2, c3, c4, c5, c6, c7⟩ := hb.ext x
   have q1 : (0 : Int) ≤ (k : Int) := by omega
   have q2 : (k : Int) < (l.length : Int) := by omega
   have q3 : (k : Int) ≤ (cap : Int) := by omega
   have HOK := hd0 hok
   have HRT := hd0 (fun (w : World) (hfo : DmOk w (l[k]'hlt)) => demRight_ok (l[k]'hlt) (H2.out _ (List.getElem_mem hlt)) w hfo)
   have HCF := hd0 (fun (w : World) (g : Nat) hl2 hf2 => containsFunc_cDm 180 enters_demValid1 #[.pointer (some ⟨g, 0, none⟩)] (fun f => f.name.toList == (l[k]'hlt).name.toList) (l.take k) (.slice (some ⟨b, off, none⟩) k cap) w hl2 hf2)
   have hany : ((l.take k).any fun f => f.name.toList == (l[k]).name.toList) = false := by
    rw [List.any_eq_false]
    intro f hf
    obtain ⟨j, hj, rfl⟩ := List.getElem_of_mem hf
    have hj' : j < k := by rw [List.length_take] at hj; omega
    have := H3.out j k (by omega) hlt hj'
    simpa using this
   rw [hany] at HCF
   have hst := hok.steps
   obtain ⟨f, hf⟩ : ∃ f, l[k] = f := ⟨_, rfl⟩
   rw [hf] at c0 c1 c2 c3 c4 c5 c6 c7 HRT HCF HOK hst
   obtain ⟨name, zone, steps, v⟩ := f
   simp only at *
   obtain ⟨av, cv, rfl, -, -, -⟩ := hst.shape
   clear hok hb hany hf hst
   go_wp2_with fail
   go_at_call 21; refine (HRT.out _ (HOK.out.below gro)).mono ?_; rintro e w' ⟨rfl, x1, rfl⟩
   go_wp2_with fail
   go_at_call 179; refine (HCF.out _ _ ((HL.out.take hk).below gro) (fun f y hf => demValid1_c f name _ _ (by obtain ⟨j, hj, e⟩ := List.getElem_of_mem hf; rw [← e, List.getElem_take]; exact (H4.out j (by rw [List.length_take] at hj; omega)).1.below gro) (by simp [go_sem]))).mono ?_; rintro e w' ⟨rfl, x2, rfl⟩
   go_wp2
   go_roundw
   case rel => exact ⟨k + 1, by omega, by go_num, ext_of gro⟩
   case measure => simp [intOf]; omega
  ·obtain rfl : k = l.length := by omega
   go_wp2
   go_ret
   exact Ret.of gro
set_option maxHeartbeats 2000000
set_option maxRecDepth 100000

def Nts (w : World) (v : Value) (l : List Int) : Prop :=
 ∃ a cap, v = .slice a l.length cap ∧ l.length ≤ cap ∧ cap ≤ 9223372036854775807 ∧ ∀ i (h : i < l.length), ∃ b off, a = some ⟨b, off, none⟩ ∧ w.cell? ⟨b, off + i, none⟩ = some (.int .i64 l[i])
theorem Nts.ext {w : World} {v : Value} {l : List Int} (h : Nts w v l) (y : World) : Nts (ext w y) v l := by
 obtain ⟨a, cap, h1, h2, h3, h4⟩ := h
 exact ⟨a, cap, h1, h2, h3, fun i hi => let ⟨b, off, e, hb⟩ := h4 i hi; ⟨b, off, e, cell_ext_some hb y⟩⟩
theorem Nts.below {w w' : World} {v : Value} {l : List Int} (h : Nts w v l) (hb : Below w.heap.size w w') : Nts w' v l := by
 obtain ⟨x, rfl⟩ := ext_of hb
 exact h.ext x
theorem Nts.shape {w : World} {v : Value} {l : List Int} (h : Nts w v l) : ∃ a cap, v = .slice a l.length cap ∧ l.length ≤ cap ∧ cap ≤ 9223372036854775807 ∧ ∀ i (h : i < l.length), ∃ b off, a = some ⟨b, off, none⟩ ∧ w.cell? ⟨b, off + i, none⟩ = some (.int .i64 l[i]) := h
theorem Nts.of_own {w : World} {base n : Nat} {e : TypeId} {v : Value} {l : List Int} (h : w.ownsRow base e 1 v n (l.map (Value.int .i64))) (hn : n = l.length) : Nts w v l := by
 subst hn
 obtain ⟨a, cap, rfl, h1, h2, h3⟩ := own_shape h
 unfold maxLen at h2
 refine ⟨a, cap, rfl, h1, by omega, fun i hi => ?_⟩
 obtain ⟨g, rfl, _, hc⟩ := h3 (by omega)
 exact ⟨g, 0, rfl, by rw [Nat.zero_add, hc _ (by omega)]; simp [hi]⟩
theorem indexFunc_cI (F : Nat) (hE : Enters F) (caps : Array Value) (p : Int → Bool) (l : List Int) (v : Value) (w : World) (hl : Nts w v l)
  (hf : ∀ b x, b ∈ l → Calls Tryz.prog F (#[.int .i64 b] ++ caps) (ext w x) (Ret (ext w x) (.bool (p b)))) :
  Calls Tryz.prog 170 #[v, .func (.func F) #[] caps] w (Ret w (.int .i64 (((l.findIdx? p).map (fun i : Nat => (i : Int))).getD (-1)))) := by
 obtain ⟨a, cap, rfl, h2, h3, h4⟩ := hl
 have HF := hd0 hf
 have hn : l.length ≤ 9223372036854775807 := by omega
 have H4 := hd0 h4
 clear hf h4
 go_enter Tryz.func170, Tryz.ntmps170
 go_wp2_with fail
 go_loopw [8, 5] (fun i j wr => ∃ k : Nat, k ≤ l.length ∧ i = .int .i64 k ∧ (∃ x, wr = ext w x) ∧ ∀ j (h : j < k) (h' : j < l.length), p l[j] = false) (fun i j _ => l.length - (intOf i).toNat)
 case atStart => exact ⟨0, by omega, rfl, ext_of (Below.refl _ _), fun j h => by omega⟩
 case round =>
  obtain ⟨k, hk, rfl, ⟨x, rfl⟩, hno⟩ := hrel
  have HNO := hd0 hno
  clear hno
  by_cases hlt : k < l.length
  ·obtain ⟨b, off, rfl, hb⟩ := (H4.out k hlt)
   have c0 := cell_ext_some hb x
   have hcall := HF.out l[k] x (List.getElem_mem hlt)
   have q1 : (0 : Int) ≤ (k : Int) := by omega
   have q2 : (k : Int) < (l.length : Int) := by omega
   obtain ⟨f, hf⟩ : ∃ f, f = l[k] := ⟨_, rfl⟩
   rw [← hf] at c0 hcall
   have HK := hd0 hf
   have HC := hd0 hcall
   clear hf hb hcall
   go_wp2_with fail
   rw [show ∀ (a : Array Value) (w : World), (callFunc F a).run Tryz.prog w = .ok (.enter F a) w from hE, Oper.upon_enter]
   refine HC.out.mono ?_
   rintro e w' ⟨rfl, y, rfl⟩
   clear c0
   cases hp : p f
   ·have HP := hd0 (show p l[k] = false by rw [← HK.out]; exact hp)
    clear hp
    go_wp2
    go_roundw
    case rel => exact ⟨k + 1, by omega, by go_num, ⟨_, ext_ext _ _ _⟩, fun j h1 h2 => by
     rcases Nat.lt_or_ge j k with h | h
     ·exact HNO.out j h h2
     ·obtain rfl : j = k := by omega
      exact HP.out⟩
    case measure => simp [intOf]; omega
   ·have he : l.findIdx? p = some k := by
     rw [List.findIdx?_eq_some_iff_getElem]
     exact ⟨hlt, by rw [← HK.out]; exact hp, fun j hj => by simp [HNO.out j hj (by omega)]⟩
    have HE := hd0 he
    clear he hp
    go_wp2
    go_ret
    rw [HE.out]
    exact Ret.of gro
  ·have he : l.findIdx? p = none := by
    rw [List.findIdx?_eq_none_iff]
    intro z hz
    obtain ⟨j, hj, rfl⟩ := List.getElem_of_mem hz
    exact HNO.out j (by omega) hj
   have HE := hd0 he
   clear he
   go_wp2
   go_ret
   rw [HE.out]
   exact Ret.of gro
theorem find_anyI {p : Int → Bool} {l : List Int} : (decide (0 ≤ (((l.findIdx? p).map (fun i : Nat => (i : Int))).getD (-1)))) = l.any p := by
 cases h : l.findIdx? p with
 | none =>
   have := List.findIdx?_eq_none_iff.1 h
   simp only [Option.map_none, Option.getD_none]
   rw [show (decide ((0 : Int) ≤ -1)) = false from rfl]
   symm; rw [List.any_eq_false]; intro x hx; simp [this x hx]
 | some k =>
   rw [List.findIdx?_eq_some_iff_getElem] at h
   obtain ⟨hk, hp, _⟩ := h
   simp only [Option.map_some, Option.getD_some]
   rw [show decide ((0 : Int) ≤ (k : Int)) = true from by simp]
   symm; rw [List.any_eq_true]; exact ⟨_, List.getElem_mem hk, hp⟩
theorem containsFunc_cI (F : Nat) (hE : Enters F) (caps : Array Value) (p : Int → Bool) (l : List Int) (v : Value) (w : World) (hl : Nts w v l)
  (hf : ∀ b x, b ∈ l → Calls Tryz.prog F (#[.int .i64 b] ++ caps) (ext w x) (Ret (ext w x) (.bool (p b)))) :
  Calls Tryz.prog 109 #[v, .func (.func F) #[] caps] w (Ret w (.bool (l.any p))) := by
 have hfa := hd0 (@find_anyI p l)
 have hi := hd0 (indexFunc_cI F hE caps p l v w hl hf)
 clear hf hl
 go_enter Tryz.func109, Tryz.ntmps109
 go_wp2_with fail
 refine hi.out.mono ?_; rintro e w' ⟨rfl, x, rfl⟩
 generalize (((l.findIdx? p).map (fun i : Nat => (i : Int))).getD (-1)) = r at hfa ⊢
 go_wp2
 go_ret
 rw [← hfa.out]
 exact Ret.of gro
theorem within1_ok (n : Int) (h : 1 ≤ n ∧ n ≤ 1000) (w : World) : Calls Tryz.prog 228 #[.int .i64 n] w (Ret w (.bool false)) := by
 have d1 : decide (n < 1) = false := by simp; omega
 have d2 : decide (1000 < n) = false := by simp; omega
 clear h
 go_enter Tryz.func228, Tryz.ntmps228
 go_wp2
 go_ret
 exact Ret.of gro
theorem enters_within1 : Enters 228 := enters_of Tryz.func228 (by decide) (by simp [Tryz.f228])
theorem any_none {α : Type} (l : List α) : (l.any fun _ => false) = false := by induction l <;> simp_all
theorem anchorWithin_ok (l : List Int) (v : Value) (h : ∀ n ∈ l, 1 ≤ n ∧ n ≤ 1000) (w : World) (hl : Nts w v l) : Calls Tryz.prog 181 #[v] w (Ret w (.bool true)) := by
 have HC := hd0 (containsFunc_cI 228 enters_within1 #[] (fun _ => false) l v w hl (fun b x hb => within1_ok b (h b hb) _))
 rw [any_none] at HC
 obtain ⟨a, cap, rfl, -, -, -⟩ := hl.shape
 clear hl h
 go_enter Tryz.func181, Tryz.ntmps181
 go_wp2_with fail
 go_at_call 109; refine (HC.out).mono ?_; rintro e w' ⟨rfl, x1, rfl⟩
 go_wp2
 go_ret
 exact Ret.of gro
theorem nts_lit (w : World) (l : List Int) (g : Nat) (hg : g = w.heap.size) (hn : l.length ≤ 1000) (t : TypeId) : Nts (w.alloc (.cells (l.map (Value.int .i64)).toArray t)) (.slice (some ⟨g, 0, none⟩) l.length l.length) l := by
 subst hg
 refine ⟨_, l.length, rfl, Nat.le_refl _, by omega, fun i hi => ⟨_, 0, rfl, ?_⟩⟩
 rw [Nat.zero_add, World.cell?_alloc_new]
 simp [hi]
theorem ruValid_ok (r : Rl) (h : ruOk r) (w : World) : Calls Tryz.prog 125 #[(.agg #[.int .i64 r.num, .int .i64 r.den, .int .i64 r.pn, .int .i64 r.pd, .int .i64 r.bn, .int .i64 r.bd, .int .i64 r.ln, .int .i64 r.ld, .int .i64 r.least])] w (Ret w (.bool true)) := by
 obtain ⟨num, den, pn, pd, bn, bd, ln, ld, least⟩ := r
 obtain ⟨h1, h2, h3, h4, h5, h6, h7, h8, h9, h10, h11, h12, h13⟩ := h
 simp only at *
 have HW := hd0 (fun v w hl => anchorWithin_ok [num, den, pn, pd, bn, bd, ln, ld] v (by intro n hn; simp only [List.mem_cons, List.not_mem_nil, or_false] at hn; rcases hn with rfl | rfl | rfl | rfl | rfl | rfl | rfl | rfl <;> assumption) w hl)
 have d1 : decide (pd ≤ pn) = true := by simpa using h9
 have d2 : decide (ld ≤ ln) = true := by simpa using h10
 have d3 : decide (bn ≤ bd) = true := by simpa using h11
 have d4 : decide (0 ≤ least) = true := by simpa using h12
 have d5 : decide (least ≤ 1000) = true := by simpa using h13
 clear h1 h2 h3 h4 h5 h6 h7 h8 h9 h10 h11 h12 h13
 go_enter Tryz.func125, Tryz.ntmps125
 go_wp2_with fail
 go_at_call 181; refine (HW.out _ _ (nts_lit _ [num, den, pn, pd, bn, bd, ln, ld] _ (by simp) (by simp) _)).mono ?_; rintro e w' ⟨rfl, x1, rfl⟩
 go_wp2
 go_ret
 exact Ret.of gro
def upI (n a b : Int) : Int := (n * a + b - 1) / b
theorem upI_range {n a b N : Int} (h0 : 0 ≤ n) (hn : n ≤ N) (ha : 1 ≤ a ∧ a ≤ 1000) (hb : 1 ≤ b ∧ b ≤ 1000) : 0 ≤ n * a ∧ n * a ≤ N * 1000 ∧ 0 ≤ upI n a b ∧ upI n a b ≤ N * 1000 + 1 := by
 have e1 : 0 ≤ n * a := Int.mul_nonneg h0 (by omega)
 have e2 : n * a ≤ N * 1000 := Int.mul_le_mul hn ha.2 (by omega) (by omega)
 refine ⟨e1, e2, Int.ediv_nonneg (by omega) (by omega), ?_⟩
 unfold upI
 have : (n * a + b - 1) / b ≤ n * a + 1 := by
  apply Int.ediv_le_of_le_mul (by omega)
  have : (n * a + 1) * 1 ≤ (n * a + 1) * b := Int.mul_le_mul_of_nonneg_left hb.1 (by omega)
  have e3 : (n * a + 1) * b = n * a * b + b := by rw [Int.add_mul, Int.one_mul]
  have e4 : n * a ≤ n * a * b := by
   have := Int.mul_le_mul_of_nonneg_left hb.1 e1
   omega
  omega
 omega
theorem up_c (n a b r : Int) (hr : upI n a b = r) (h0 : 0 ≤ n) (hn : n ≤ 1000000000) (ha : 1 ≤ a ∧ a ≤ 1000) (hb : 1 ≤ b ∧ b ≤ 1000) (w : World) : Calls Tryz.prog 253 #[.int .i64 n, .int .i64 a, .int .i64 b] w (Ret w (.int .i64 r)) := by
 obtain ⟨e1, e2, -, -⟩ := upI_range h0 hn ha hb
 have v1 : wrap64 (n * a) = n * a := IntWalk.wrap64_in _ (by omega)
 have v2 : wrap64 (n * a + b) = n * a + b := IntWalk.wrap64_in _ (by omega)
 have v3 : wrap64 (n * a + b - 1) = n * a + b - 1 := IntWalk.wrap64_in _ (by omega)
 have hz : (b == 0) = false := by simp; omega
 have hd : (n * a + b - 1).tdiv b = r := by rw [Int.tdiv_eq_ediv_of_nonneg (by omega)]; exact hr
 have hne : ¬ b = 0 := by omega
 obtain ⟨-, -, q1, q2⟩ := upI_range h0 hn ha hb
 rw [hr] at q1 q2
 have q3 : r ≤ 1000000000001 := by omega
 clear q2
 clear hr h0 hn ha hb e1 e2
 go_enter Tryz.func253, Tryz.ntmps253
 go_wp2
 go_ret
 exact Ret.of gro
set_option maxHeartbeats 4000000

def basicI (r : Rl) (d : Int) : Int := max r.least (upI d r.num r.den)
def poorN (r : Rl) (n : Int) (poor : Bool) : Int := if poor then upI n r.pn r.pd else n
def bentN (r : Rl) (n : Int) (bent : Bool) : Int := if bent then upI n r.bn r.bd else n
def lengthI (r : Rl) (d : Int) (poor bent : Bool) : Int := max (bentN r (poorN r (basicI r d) poor) bent) r.least
theorem basic_range {r : Rl} (h : ruOk r) {d : Int} (hd : 1 ≤ d ∧ d ≤ 50) : 0 ≤ upI d r.num r.den ∧ upI d r.num r.den ≤ 50001 ∧ 0 ≤ basicI r d ∧ basicI r d ≤ 50001 := by
 obtain ⟨h1, h2, -, -, -, -, -, -, -, -, -, h12, h13⟩ := h
 obtain ⟨-, -, q1, q2⟩ := upI_range (N := 50) (by omega) hd.2 h1 h2
 unfold basicI
 omega
theorem poor_range {r : Rl} (h : ruOk r) {d : Int} (hd : 1 ≤ d ∧ d ≤ 50) (poor : Bool) : 0 ≤ poorN r (basicI r d) poor ∧ poorN r (basicI r d) poor ≤ 50001001 := by
 obtain ⟨-, -, b1, b2⟩ := basic_range h hd
 obtain ⟨h1, h2, h3, h4, -, -, -, -, -, -, -, h12, h13⟩ := h
 unfold poorN
 split
 ·obtain ⟨-, -, q1, q2⟩ := upI_range b1 b2 h3 h4
  omega
 ·omega
theorem length_range {r : Rl} (h : ruOk r) {d : Int} (hd : 1 ≤ d ∧ d ≤ 50) (poor bent : Bool) : 0 ≤ lengthI r d poor bent ∧ lengthI r d poor bent ≤ 50001002001 := by
 obtain ⟨b1, b2⟩ := poor_range h hd poor
 obtain ⟨h1, h2, h3, h4, h5, h6, -, -, -, -, -, h12, h13⟩ := h
 unfold lengthI bentN
 split
 ·obtain ⟨-, -, q1, q2⟩ := upI_range b1 b2 h5 h6
  omega
 ·omega
theorem basic_c (r : Rl) (d n : Int) (h : ruOk r) (hd : 1 ≤ d ∧ d ≤ 50) (hn : basicI r d = n) (w : World) : Calls Tryz.prog 252 #[(.agg #[.int .i64 r.num, .int .i64 r.den, .int .i64 r.pn, .int .i64 r.pd, .int .i64 r.bn, .int .i64 r.bd, .int .i64 r.ln, .int .i64 r.ld, .int .i64 r.least]), .int .i64 d] w (Ret w (.int .i64 n)) := by
 obtain ⟨u, hu⟩ : ∃ u, upI d r.num r.den = u := ⟨_, rfl⟩
 have HU := hd0 (fun w => up_c d r.num r.den u hu (by omega) (by omega) h.1 h.2.1 w)
 unfold basicI at hn
 rw [hu] at hn
 obtain ⟨num, den, pn, pd, bn, bd, ln, ld, least⟩ := r
 simp only at *
 clear h hd hu
 subst hn
 go_enter Tryz.func252, Tryz.ntmps252
 go_wp2_with fail
 refine wp_region_grows (by kernel_rfl) (by kernel_rfl) ?_
 repeat (go_big_quiet_step ((go_at_call 253; exact Calls.quiet_ext (HU.out _))))
 refine wpQuiet_nil ?_; rintro _ ⟨xq, rfl⟩
 go_wp2
 go_ret
 exact Ret.of gro
theorem length_c (r : Rl) (d n : Int) (poor bent : Bool) (h : ruOk r) (hd : 1 ≤ d ∧ d ≤ 50) (hn : lengthI r d poor bent = n) (w : World) : Calls Tryz.prog 223 #[(.agg #[.int .i64 r.num, .int .i64 r.den, .int .i64 r.pn, .int .i64 r.pd, .int .i64 r.bn, .int .i64 r.bd, .int .i64 r.ln, .int .i64 r.ld, .int .i64 r.least]), .int .i64 d, .bool poor, .bool bent] w (Ret w (.int .i64 n)) := by
 obtain ⟨b, hb⟩ : ∃ b, basicI r d = b := ⟨_, rfl⟩
 have HB := hd0 (fun w => basic_c r d b h hd hb w)
 have b1 := (basic_range h hd).2.2
 have p1 := poor_range h hd poor
 obtain ⟨p, hp⟩ : ∃ p, poorN r (basicI r d) poor = p := ⟨_, rfl⟩
 rw [hp] at p1
 rw [hb] at b1
 have HP := hd0 (fun u (hu : upI b r.pn r.pd = u) w => up_c b r.pn r.pd u hu b1.1 (by omega) h.2.2.1 h.2.2.2.1 w)
 have HN := hd0 (fun u (hu : upI p r.bn r.bd = u) w => up_c p r.bn r.bd u hu p1.1 (by omega) h.2.2.2.2.1 h.2.2.2.2.2.1 w)
 unfold lengthI at hn
 rw [hp] at hn
 rw [hb] at hp
 unfold poorN at hp
 unfold bentN at hn
 obtain ⟨num, den, pn, pd, bn, bd, ln, ld, least⟩ := r
 simp only at *
 clear h hd hb b1 p1
 cases poor <;> cases bent <;> simp only [if_true, if_false, Bool.false_eq_true] at hp hn
 ·subst hp
  subst hn
  go_enter Tryz.func223, Tryz.ntmps223
  go_wp2_with fail
  go_at_call 252; refine (HB.out _).mono ?_; rintro e w' ⟨rfl, x1, rfl⟩
  go_wp2
  go_ret
  exact Ret.of gro
 ·subst hp
  obtain ⟨u, hu⟩ : ∃ u, upI b bn bd = u := ⟨_, rfl⟩
  have HU := hd0 (HN.out u hu)
  rw [hu] at hn
  clear hu HN
  subst hn
  go_enter Tryz.func223, Tryz.ntmps223
  go_wp2_with fail
  go_at_call 252; refine (HB.out _).mono ?_; rintro e w' ⟨rfl, x1, rfl⟩
  go_wp2_with fail
  go_at_call 253; refine (HU.out _).mono ?_; rintro e w' ⟨rfl, x2, rfl⟩
  go_wp2
  go_ret
  exact Ret.of gro
 ·have HV := hd0 (HP.out p hp)
  clear hp
  subst hn
  go_enter Tryz.func223, Tryz.ntmps223
  go_wp2_with fail
  go_at_call 252; refine (HB.out _).mono ?_; rintro e w' ⟨rfl, x1, rfl⟩
  go_wp2_with fail
  go_at_call 253; refine (HV.out _).mono ?_; rintro e w' ⟨rfl, x2, rfl⟩
  go_wp2
  go_ret
  exact Ret.of gro
 ·have HV := hd0 (HP.out p hp)
  obtain ⟨u, hu⟩ : ∃ u, upI p bn bd = u := ⟨_, rfl⟩
  have HU := hd0 (HN.out u hu)
  rw [hu] at hn
  clear hp hu HN
  subst hn
  go_enter Tryz.func223, Tryz.ntmps223
  go_wp2_with fail
  go_at_call 252; refine (HB.out _).mono ?_; rintro e w' ⟨rfl, x1, rfl⟩
  go_wp2_with fail
  go_at_call 253; refine (HV.out _).mono ?_; rintro e w' ⟨rfl, x2, rfl⟩
  go_wp2_with fail
  go_at_call 253; refine (HU.out _).mono ?_; rintro e w' ⟨rfl, x3, rfl⟩
  go_wp2
  go_ret
  exact Ret.of gro
def poorI (q : Mb) (g : Bx) : Bool := decide (250 < wrap64 (g.lz - (hullS q.l q.m).1.lz))
theorem poor_c (q : Mb) (g : Bx) (w : World) (hq : MbAt w q) : Calls Tryz.prog 201 #[(.agg #[.string q.name, q.u, q.t, .int .i64 q.cover, .int .i64 q.agg, .int .i64 q.poker]), (.agg #[.int .i64 g.lx, .int .i64 g.ly, .int .i64 g.lz, .int .i64 g.hx, .int .i64 g.hy, .int .i64 g.hz])] w (Ret w (.bool (poorI q g))) := by
 have HH := hd0 (fun w hl hm => solidHull_c q.l q.m q.u q.t w hl hm)
 have HQ := hd0 hq
 unfold poorI
 generalize hullS q.l q.m = H at *
 obtain ⟨H, e⟩ := H
 simp only at *
 clear hq
 go_enter Tryz.func201, Tryz.ntmps201
 go_wp2_with fail
 go_at_call 242; refine (HH.out _ (HQ.out.boxes.below gro) (HQ.out.holes.below gro)).mono ?_; rintro e w' ⟨rfl, x1, rfl⟩
 go_wp2
 go_ret
 exact Ret.of gro
theorem isMain_c (g : Bx) (w : World) : Calls Tryz.prog 221 #[(.agg #[.int .i64 g.lx, .int .i64 g.ly, .int .i64 g.lz, .int .i64 g.hx, .int .i64 g.hy, .int .i64 g.hz])] w (Ret w (.bool (mainB g))) := by
 unfold mainB
 cases h1 : decide (g.lx < g.hx)
 ·go_enter Tryz.func221, Tryz.ntmps221
  go_wp2
  go_ret
  exact Ret.of gro
 ·rw [show decide (g.ly = g.hy) = (g.ly == g.hy) by rw [Bool.eq_iff_iff]; simp, show decide (g.lz = g.hz) = (g.lz == g.hz) by rw [Bool.eq_iff_iff]; simp]
  cases h2 : (g.ly == g.hy)
  ·go_enter Tryz.func221, Tryz.ntmps221
   go_wp2
   go_ret
   exact Ret.of gro
  ·cases h3 : (g.lz == g.hz)
   all_goals
    go_enter Tryz.func221, Tryz.ntmps221
    go_wp2
    go_ret
    exact Ret.of gro
theorem enters_isMain : Enters 221 := enters_of Tryz.func221 (by decide) (by simp [Tryz.f221])
theorem ends1_ok (g : Bx) (h : validB g = true) (w : World) : Calls Tryz.prog 220 #[(.agg #[.int .i64 g.lx, .int .i64 g.ly, .int .i64 g.lz, .int .i64 g.hx, .int .i64 g.hy, .int .i64 g.hz])] w (Ret w (.bool false)) := by
 have HV := hd0 (fun w => valid_c g w)
 rw [h] at HV
 clear h
 go_enter Tryz.func220, Tryz.ntmps220
 go_wp2_with fail
 go_at_call 29; refine (HV.out _).mono ?_; rintro e w' ⟨rfl, x1, rfl⟩
 go_wp2
 go_ret
 exact Ret.of gro
theorem enters_ends1 : Enters 220 := enters_of Tryz.func220 (by decide) (by simp [Tryz.f220])
end Go.Proofs.YtkjljneehgmmaaaGreat

namespace Go.Proofs.YtkjljneehgmmaaaGreat
set_option linter.unusedVariables false
set_option linter.unusedSimpArgs false
open Go Go.RowKit
set_option maxRecDepth 20000

structure LtJ (T : TypeId) (W1 : World) (G kS : Nat) (z fin : Array Value) (L : Array Bool) (_vs : List Value) (W : World) : Prop where
 blk0 : L.getD kS true = false → Blk W G z T
 blk1 : L.getD kS true = true → Blk W G fin T
 os : W.os = W1.os
 tape : W.tape = W1.tape
 output : W.output = W1.output
 size : W1.heap.size ≤ W.heap.size
 frame : ∀ k, k < W1.heap.size → k ≠ G → W.heap[k]? = W1.heap[k]?
section
variable {T : TypeId} {W1 W W' : World} {G kS : Nat} {z fin : Array Value} {L : Array Bool} {vs : List Value}
theorem LtJ.part : PartG [kS] (LtJ T W1 G kS z fin) :=
 ⟨fun L vs L' vs' W hk h => by
  have s := (hk kS (by simp)).1
  exact ⟨by rw [← s]; exact h.blk0, by rw [← s]; exact h.blk1, h.os, h.tape, h.output, h.size, h.frame⟩,
 fun L vs W x h => by
  have hb := below_ext W x
  exact ⟨fun e => (h.blk0 e).below hb, fun e => (h.blk1 e).below hb, hb.os.trans h.os, hb.tape.trans h.tape, hb.output.trans h.output, Nat.le_trans h.size hb.size, fun k h1 h2 => by rw [hb.block k (Nat.lt_of_lt_of_le h1 h.size)]; exact h.frame k h1 h2⟩⟩
theorem LtJ.init (hL : L.getD kS true = false) (hb : Blk W1 G z T) : LtJ T W1 G kS z fin L vs W1.drew :=
 ⟨fun _ => hb, fun e => (by rw [hL] at e; cases e), rfl, rfl, rfl, Nat.le_refl _, fun _ _ _ => rfl⟩
theorem LtJ.cell (h : LtJ T W1 G kS z fin L vs W) {a : Addr} {v : Value} (hc : W1.cell? a = some v) (hne : a.block ≠ G) : W.cell? a = some v := by
 rw [World.cell?_of_block (w := W1) (h.frame a.block (World.block_lt_of_cell? W1 a hc) hne)]
 exact hc
theorem LtJ.store (h : LtJ T W1 G kS z fin L vs W) (hoth : ∀ k, k ≠ G → W'.heap[k]? = W.heap[k]?) (hs : W'.heap.size = W.heap.size) (hr : W'.os = W.os ∧ W'.tape = W.tape ∧ W'.output = W.output) (hb : Blk W' G fin T) : LtJ T W1 G kS z fin (L.setIfInBounds kS true) vs W' :=
 ⟨fun e => (by rw [getD_self] at e; cases e), fun _ => hb, hr.1.trans h.os, hr.2.1.trans h.tape, hr.2.2.trans h.output, by rw [hs]; exact h.size, fun k h1 h2 => by rw [hoth k h2]; exact h.frame k h1 h2⟩
theorem repL {n k : Nat} (h : k < n) : (Array.replicate n false).getD k true = false := by simp [Array.getD, h]
end
def putL (W : World) (G : Nat) : Nat → List Value → World
 | _, [] => W
 | i, v :: l => putL (W.setCell ⟨G, i, none⟩ v) G (i + 1) l
theorem putL_other (G : Nat) (l : List Value) (W : World) (i k : Nat) (hk : k ≠ G) : (putL W G i l).heap[k]? = W.heap[k]? := by
 induction l generalizing W i with
 | nil => rfl
 | cons v l ih => rw [putL, ih, Below.heap_setCell _ _ _ _ hk]
theorem putL_size (G : Nat) (l : List Value) (W : World) (i : Nat) : (putL W G i l).heap.size = W.heap.size := by
 induction l generalizing W i with
 | nil => rfl
 | cons v l ih => rw [putL, ih]; simp [World.setCell]
theorem putL_rest (G : Nat) (l : List Value) (W : World) (i : Nat) : (putL W G i l).os = W.os ∧ (putL W G i l).tape = W.tape ∧ (putL W G i l).output = W.output := by
 induction l generalizing W i with
 | nil => exact ⟨rfl, rfl, rfl⟩
 | cons v l ih => rw [putL]; exact ih _ _
end Go.Proofs.YtkjljneehgmmaaaGreat

