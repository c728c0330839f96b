/- RefL1, RefL2, RefL3, RefL4 in one text. -/
import Derived.Test.YtkjljneehgmmaaaGreatLaidK3
import Derived.Test.YtkjljneehgmmaaaGreatAaK1
import Derived.Test.YtkjljneehgmmaaaGreatNameK
import Derived.Test.YtkjljneehgmmaaaGreatExtK
import Derived.Test.YtkjljneehgmmaaaGreatLaidK4
namespace Go.Proofs.YtkjljneehgmmaaaGreat
open Go.RowKit
set_option maxRecDepth 20000
set_option maxHeartbeats 4000000

def dims12 (c : Int) : Int := if c = 0 then 1 else if c = 11 then 2 else if c = 21 ∨ c = 26 ∨ c = 31 ∨ c = 51 ∨ c = 98 then 3 else if c = 41 then 5 else 0
theorem dims12_eq (c : Int) : (dimsR c).1 = dims12 c ∧ ((dimsR c).2 = 0 ↔ dims12 c ≠ 0) ∧ 0 ≤ dims12 c ∧ dims12 c ≤ 5 := by
 rcases legs_cases c with rfl | rfl | rfl | rfl | rfl | rfl | rfl | rfl | ⟨⟨d0, d11, d21, d26, d31, d41, d51, d98⟩, he⟩
 all_goals first
  | exact ⟨by decide, by decide, by decide, by decide⟩
  | (have hz : dims12 c = 0 := by
       unfold dims12
       simp only [beq_eq_false_iff_ne] at d0 d11 d21 d26 d31 d41 d51 d98
       simp [d0, d11, d21, d26, d31, d41, d51, d98]
     rw [hz]
     unfold dimsR
     rw [he]
     exact ⟨by decide, by decide, by decide, by decide⟩)

theorem refDims_v (c r : Int) (h : dims12 c = r) (w : World) : Calls Tryz.prog 206 #[.int .i64 c] w (Ret w (.int .i64 r)) := by
 subst h
 rcases legs_cases c with rfl | rfl | rfl | rfl | rfl | rfl | rfl | rfl | ⟨⟨d0, d11, d21, d26, d31, d41, d51, d98⟩, he⟩
 ·go_enter Tryz.func206, Tryz.ntmps206
  go_wp2
  go_ret
  exact Ret.of gro
 ·go_enter Tryz.func206, Tryz.ntmps206
  go_wp2
  go_ret
  exact Ret.of gro
 ·go_enter Tryz.func206, Tryz.ntmps206
  go_wp2
  go_ret
  exact Ret.of gro
 ·go_enter Tryz.func206, Tryz.ntmps206
  go_wp2
  go_ret
  exact Ret.of gro
 ·go_enter Tryz.func206, Tryz.ntmps206
  go_wp2
  go_ret
  exact Ret.of gro
 ·go_enter Tryz.func206, Tryz.ntmps206
  go_wp2
  go_ret
  exact Ret.of gro
 ·go_enter Tryz.func206, Tryz.ntmps206
  go_wp2
  go_ret
  exact Ret.of gro
 ·go_enter Tryz.func206, Tryz.ntmps206
  go_wp2
  go_ret
  exact Ret.of gro
 ·have hz := hd0 (show dims12 c = 0 by
   unfold dims12
   simp only [beq_eq_false_iff_ne] at d0 d11 d21 d26 d31 d41 d51 d98
   simp [d0, d11, d21, d26, d31, d41, d51, d98])
  clear he
  go_enter Tryz.func206, Tryz.ntmps206
  go_wp2
  go_ret
  rw [hz.out]
  exact Ret.of gro

def sumD : List Int → Int
 | [] => 0
 | n :: l => n + sumD l
theorem sumD_append (a b : List Int) : sumD (a ++ b) = sumD a + sumD b := by
 induction a with
 | nil => simp [sumD]
 | cons x a ih => simp only [List.cons_append, sumD, ih]; omega
theorem restB_iff {r : Int} {l : List Int} (hr : 0 ≤ r ∧ r ≤ 1048576) : restB r l = true ↔ (∀ n ∈ l, 1 ≤ n ∧ n ≤ 1048576) ∧ sumD l ≤ r := by
 induction l generalizing r with
 | nil => simp [restB, sumD]; omega
 | cons n l ih =>
   rw [restB_cons]
   constructor
   ·rintro ⟨h1, h2, h3⟩
    obtain ⟨h4, h5⟩ := (ih (by omega)).1 h3
    refine ⟨fun x hx => ?_, by simp only [sumD]; omega⟩
    rcases List.mem_cons.1 hx with rfl | hx
    ·omega
    ·exact h4 x hx
   ·rintro ⟨h1, h2⟩
    have h3 := h1 n List.mem_cons_self
    have h5 : 0 ≤ sumD l := by
     have : ∀ (l : List Int), (∀ n ∈ l, 1 ≤ n ∧ n ≤ 1048576) → 0 ≤ sumD l := by
      intro l
      induction l with
      | nil => intro _; exact Int.le_refl _
      | cons a l ih => intro h; have := h a List.mem_cons_self; have := ih fun x hx => h x (List.mem_cons_of_mem _ hx); simp only [sumD]; omega
     exact this l fun x hx => h1 x (List.mem_cons_of_mem _ hx)
    simp only [sumD] at h2
    exact ⟨h3.1, by omega, (ih (by omega)).2 ⟨fun x hx => h1 x (List.mem_cons_of_mem _ hx), by omega⟩⟩
theorem restB_bad {l : List Int} {n : Int} (h : n ∈ l) (hn : ¬ (1 ≤ n ∧ n ≤ 1048576)) : restB 262144 l = false := by
 rw [Bool.eq_false_iff]; intro e; exact hn (((restB_iff (by omega)).1 e).1 n h)

set_option maxRecDepth 100000 in
theorem ref12Valid_ok (b : Br) (q : Bool) (h1 : nameB b.mark = true) (h2 : sizeB b.size = true) (h3 : 1 ≤ b.count) (h4 : b.count ≤ 1000) (h5 : dims12 b.code ≠ 0) (h6 : (b.dims.length : Int) = dims12 b.code) (hq : restB 262144 b.dims = q) (w : World) (hb : BrOk w b) :
  Calls Tryz.prog 150 #[(.agg #[.string b.mark, .int .i64 b.size, .int .i64 b.count, .int .i64 b.code, b.dv])] w (Ret w (.bool q)) := by
 have HD := hd0 (fun w => refDims_v b.code _ h6.symm w)
 have HN := hd0 (fun w => refIsName_v b.mark true h1 hb.mark w)
 have HS := hd0 (fun w => refSize_v b.size true h2 w)
 obtain ⟨a, cap, ev, k2, k3, k4⟩ := hb.dims
 have K4 := hd0 k4
 have HQ := hd0 hq
 have hl5 := (dims12_eq b.code).2.2.2
 have hl0 : (b.dims.length : Int) ≠ 0 := by rw [h6]; exact h5
 have d1 : ((b.dims.length : Int) == 0) = false := by simpa using hl0
 have d2 : ((b.dims.length : Int) != (b.dims.length : Int)) = false := by simp
 rw [← h6] at hl5
 clear h1 h2 h5 h6 hb k4 hq hl0
 obtain ⟨mark, size, count, code, dims, dv⟩ := b
 simp only at *
 subst ev
 have dc1 : decide (count < 1) = false := by simp; omega
 have dc2 : decide (1000 < count) = false := by simp; omega
 go_enter Tryz.func150, Tryz.ntmps150
 go_wp2_with fail
 refine wp_region_grows (by kernel_rfl) (by kernel_rfl) ?_
 repeat (go_big_quiet_step (first
  | (go_at_call 92; exact Calls.quiet_ext (HN.out _))
  | (go_at_call 205; exact Calls.quiet_ext (HS.out _))
  | (go_at_call 206; exact Calls.quiet_ext (HD.out _))))
 refine wpQuiet_nil ?_; rintro _ ⟨xq, rfl⟩
 go_wp2_with fail
 refine world_mask (fun W => (∃ x, W = ext w x) ∧ W.cell? ⟨w.heap.size, 4, none⟩ = some (.slice a dims.length cap)) _ ⟨ext_of gro, by simp [go_sem]⟩ ?_
 rintro W1 ⟨⟨z, rfl⟩, hc4⟩
 have HC4 := hd0 hc4
 clear hc4 dc1 dc2 d1 d2
 go_loopw [3, 4] (fun m i wr => ∃ (k : Nat) (S : Int), k ≤ dims.length ∧ i = .int .i64 k ∧ m = .int .i64 S ∧ (0 ≤ S ∧ S ≤ 1048576 * k) ∧ S = sumD (dims.take k) ∧ (∃ x, wr = ext (ext w z) x) ∧ ∀ n ∈ dims.take k, 1 ≤ n ∧ n ≤ 1048576) (fun _ i _ => dims.length - (intOf i).toNat)
 case atStart => exact ⟨0, 0, by omega, rfl, rfl, by omega, rfl, ext_of (Below.refl _ _), fun n h => by cases h⟩
 case round =>
  obtain ⟨k, S, hk, rfl, rfl, hS, hsum, ⟨x, rfl⟩, hall⟩ := hrel
  have HSUM := hd0 hsum
  have HALL := hd0 hall
  obtain ⟨s0, s1⟩ := hS
  have c4 := cell_ext_some HC4.out x
  have hk5 : (k : Int) ≤ 5 := by omega
  have s2 : S ≤ 5242880 := by omega
  clear hsum hall
  by_cases hlt : k < dims.length
  ·obtain ⟨bb, off, rfl, c0⟩ := K4.out k hlt
   have c0 := cell_ext_some (cell_ext_some c0 z) x
   have q1 : (0 : Int) ≤ (k : Int) := by omega
   have q2 : (k : Int) < (dims.length : Int) := by omega
   have hmem := List.getElem_mem hlt
   have htk : dims.take (k + 1) = dims.take k ++ [dims[k]] := List.take_succ_eq_append_getElem hlt
   obtain ⟨n, hn⟩ : ∃ n, dims[k] = n := ⟨_, rfl⟩
   rw [hn] at c0 hmem htk
   have HMEM := hd0 hmem
   have HTK := hd0 htk
   clear hn hmem htk
   by_cases g1 : 1 ≤ n
   ·by_cases g2 : n ≤ 1048576
    ·go_wp2
     go_roundw
     case rel => exact ⟨k + 1, S + n, by omega, by go_num, rfl, by omega, by rw [HTK.out, sumD_append, ← HSUM.out]; simp [sumD], ext_of gro, fun y hy => by
      rw [HTK.out] at hy
      rcases List.mem_append.1 hy with h | h
      ·exact HALL.out y h
      ·obtain rfl : y = n := by simpa using h
       exact ⟨g1, g2⟩⟩
     case measure => simp [intOf]; omega
    ·obtain rfl : false = q := by rw [← HQ.out]; exact (restB_bad HMEM.out (fun h => g2 h.2)).symm
     go_wp2
     go_ret
     exact Ret.of gro
   ·obtain rfl : false = q := by rw [← HQ.out]; exact (restB_bad HMEM.out (fun h => g1 h.1)).symm
    go_wp2
    go_ret
    exact Ret.of gro
  ·obtain rfl : k = dims.length := by omega
   have hf : decide (S ≤ 262144) = q := by
    have h1 := HSUM.out
    have h2 := HALL.out
    rw [List.take_length] at h1 h2
    rw [← HQ.out, h1, Bool.eq_iff_iff, decide_eq_true_iff, restB_iff (by omega)]
    exact ⟨fun h => ⟨h2, h⟩, fun h => h.2⟩
   have HF := hd0 hf
   clear hf
   go_wp2
   go_ret
   rw [HF.out]
   exact Ret.of gro

set_option maxHeartbeats 4000000
set_option maxRecDepth 100000

theorem ref12Valid_v (b : Br) (r : Bool) (h : shapeB b = r) (w : World) (hb : BrOk w b) : Calls Tryz.prog 150 #[(.agg #[.string b.mark, .int .i64 b.size, .int .i64 b.count, .int .i64 b.code, b.dv])] w (Ret w (.bool r)) := by
 have HN := hd0 (fun r h w => refIsName_v b.mark r h hb.mark w)
 have HS := hd0 (fun r h w => refSize_v b.size r h w)
 have HD := hd0 (fun r h w => refDims_v b.code r h w)
 obtain ⟨e1, e2, e3, e4⟩ := dims12_eq b.code
 unfold shapeB at h
 rw [e1] at h
 obtain ⟨a, cap, ev, _, _, _⟩ := hb.dims
 by_cases hall : nameB b.mark = true ∧ sizeB b.size = true ∧ 1 ≤ b.count ∧ b.count ≤ 1000 ∧ dims12 b.code ≠ 0 ∧ (b.dims.length : Int) = dims12 b.code
 ·obtain ⟨h1, h2, h3, h4, h5, h6⟩ := hall
  rw [decide_eq_true (e2.2 h5), h1, h2, decide_eq_true h3, decide_eq_true h4, decide_eq_true h6] at h
  simp only [Bool.true_and] at h
  exact ref12Valid_ok b r h1 h2 h3 h4 h5 h6 h w hb
 obtain rfl : false = r := by
  rw [← h]; symm; rw [Bool.eq_false_iff]; intro hh
  simp only [Bool.and_eq_true, decide_eq_true_iff] at hh
  exact hall ⟨hh.2.1, hh.2.2.1, hh.2.2.2.1, hh.2.2.2.2.1, e2.1 hh.1, hh.2.2.2.2.2.1⟩
 clear h hb
 obtain ⟨mark, size, count, code, dims, dv⟩ := b
 simp only at *
 subst ev
 cases h1 : nameB mark
 ·have H1 := hd0 h1
  clear h1
  clear e1 e2 e3 e4 hall
  go_enter Tryz.func150, Tryz.ntmps150
  go_wp2_with fail
  refine wp_region_grows (by kernel_rfl) (by kernel_rfl) ?_
  repeat (go_big_quiet_step (first | (go_at_call 92; exact Calls.quiet_ext (HN.out _ H1.out _))))
  refine wpQuiet_nil ?_; rintro _ ⟨xq, rfl⟩
  go_wp2
  go_ret
  exact Ret.of gro
 have H1 := hd0 h1
 cases h2 : sizeB size
 ·have H2 := hd0 h2
  clear h1 h2
  clear e1 e2 e3 e4 hall
  go_enter Tryz.func150, Tryz.ntmps150
  go_wp2_with fail
  refine wp_region_grows (by kernel_rfl) (by kernel_rfl) ?_
  repeat (go_big_quiet_step (first | (go_at_call 92; exact Calls.quiet_ext (HN.out _ H1.out _)) | (go_at_call 205; exact Calls.quiet_ext (HS.out _ H2.out _))))
  refine wpQuiet_nil ?_; rintro _ ⟨xq, rfl⟩
  go_wp2
  go_ret
  exact Ret.of gro
 have H2 := hd0 h2
 by_cases h3 : 1 ≤ count
 rotate_left
 ·have d3 : decide (count < 1) = true := by simp; omega
  clear h1 h2 h3
  clear e1 e2 e3 e4 hall
  go_enter Tryz.func150, Tryz.ntmps150
  go_wp2_with fail
  refine wp_region_grows (by kernel_rfl) (by kernel_rfl) ?_
  repeat (go_big_quiet_step (first | (go_at_call 92; exact Calls.quiet_ext (HN.out _ H1.out _)) | (go_at_call 205; exact Calls.quiet_ext (HS.out _ H2.out _))))
  refine wpQuiet_nil ?_; rintro _ ⟨xq, rfl⟩
  go_wp2
  go_ret
  exact Ret.of gro
 have d3 : decide (count < 1) = false := by simp; omega
 by_cases h4 : count ≤ 1000
 rotate_left
 ·have d4 : decide (1000 < count) = true := by simp; omega
  clear h1 h2 h3 h4
  clear e1 e2 e3 e4 hall
  go_enter Tryz.func150, Tryz.ntmps150
  go_wp2_with fail
  refine wp_region_grows (by kernel_rfl) (by kernel_rfl) ?_
  repeat (go_big_quiet_step (first | (go_at_call 92; exact Calls.quiet_ext (HN.out _ H1.out _)) | (go_at_call 205; exact Calls.quiet_ext (HS.out _ H2.out _))))
  refine wpQuiet_nil ?_; rintro _ ⟨xq, rfl⟩
  go_wp2
  go_ret
  exact Ret.of gro
 have d4 : decide (1000 < count) = false := by simp; omega
 by_cases h5 : dims12 code = 0
 ·have H5 := hd0 h5
  have d5 : ((0 : Int) == 0) = true := rfl
  clear h1 h2 h3 h4 h5
  clear e1 e2 e3 e4 hall
  go_enter Tryz.func150, Tryz.ntmps150
  go_wp2_with fail
  refine wp_region_grows (by kernel_rfl) (by kernel_rfl) ?_
  repeat (go_big_quiet_step (first | (go_at_call 92; exact Calls.quiet_ext (HN.out _ H1.out _)) | (go_at_call 205; exact Calls.quiet_ext (HS.out _ H2.out _)) | (go_at_call 206; exact Calls.quiet_ext (HD.out _ H5.out _))))
  refine wpQuiet_nil ?_; rintro _ ⟨xq, rfl⟩
  go_wp2
  go_ret
  exact Ret.of gro
 have h6 : ¬ (dims.length : Int) = dims12 code := fun h6 => hall ⟨h1, h2, h3, h4, h5, h6⟩
 obtain ⟨E, hE⟩ : ∃ E, dims12 code = E := ⟨_, rfl⟩
 have H5 := hd0 hE
 rw [hE] at h5 h6
 have d5 : (E == 0) = false := by simpa using h5
 have d6 : ((dims.length : Int) != E) = true := by simpa using h6
 clear h1 h2 h3 h4 h5 h6 hE
 clear e1 e2 e3 e4 hall
 go_enter Tryz.func150, Tryz.ntmps150
 go_wp2_with fail
 refine wp_region_grows (by kernel_rfl) (by kernel_rfl) ?_
 repeat (go_big_quiet_step (first | (go_at_call 92; exact Calls.quiet_ext (HN.out _ H1.out _)) | (go_at_call 205; exact Calls.quiet_ext (HS.out _ H2.out _)) | (go_at_call 206; exact Calls.quiet_ext (HD.out _ H5.out _))))
 refine wpQuiet_nil ?_; rintro _ ⟨xq, rfl⟩
 go_wp2
 go_ret
 exact Ret.of gro

theorem refFind_c (l : List Br) (v : Value) (m : ByteArray) (w : World) (hl : Bars w v l) : Calls Tryz.prog 151 #[v, .string m] w (Ret w (.int .i64 (findI l m))) := by
 obtain ⟨a, cap, rfl, h2, h3, h4⟩ := hl.shape
 have H4 := hd0 h4
 clear hl h4
 go_enter Tryz.func151, Tryz.ntmps151
 go_wp2_with fail
 go_loopw [5] (fun i wr => ∃ k : Nat, k ≤ l.length ∧ i = .int .i64 k ∧ (∃ x, wr = ext w x) ∧ ∀ j (h : j < k) (h' : j < l.length), (l[j].mark.toList == m.toList) = false) (fun i _ => l.length - (intOf i).toNat)
 case atStart => exact ⟨0, by omega, rfl, ext_of (Below.refl _ _), fun j h => by omega⟩
 case round =>
  obtain ⟨k, hk, rfl, ⟨x, rfl⟩, hno⟩ := hrel
  have HNO := hd0 hno
  clear hno
  by_cases hlt : k < l.length
  ·obtain ⟨_, b0, off, rfl, hbr⟩ := H4.out k hlt
   have q1 : (0 : Int) ≤ (k : Int) := by omega
   have q2 : (k : Int) < (l.length : Int) := by omega
   obtain ⟨b, hb⟩ : ∃ b, b = l[k] := ⟨_, rfl⟩
   rw [← hb] at hbr
   obtain ⟨c0, c1, c2, c3, c4⟩ := hbr.ext x
   have HB := hd0 hb
   clear hb hbr
   cases hp : (b.mark.toList == m.toList)
   ·have HP := hd0 (show (l[k].mark.toList == m.toList) = false by rw [← HB.out]; exact hp)
    go_wp2
    go_roundw
    case rel => exact ⟨k + 1, by omega, by go_num, ext_of gro, fun j h1 h2 => by
     rcases Nat.lt_or_ge j k with h | h
     ·exact HNO.out j h h2
     ·obtain rfl : j = k := by omega
      exact HP.out⟩
    case measure => simp [intOf]; omega
   ·have HE := hd0 (show findI l m = k from findI_some hlt (by rw [← HB.out]; exact hp) (fun j hj => HNO.out j hj (by omega)))
    go_wp2
    go_ret
    rw [HE.out]
    exact Ret.of gro
  ·have HE := hd0 (show findI l m = -1 from findI_none fun j hj => HNO.out j (by omega) hj)
   go_wp2
   go_ret
   rw [HE.out]
   exact Ret.of gro

theorem ref14Valid_v (l : List Br) (v : Value) (q : Bool) (hq : schedB l = q) (w : World) (hl : Bars w v l) : Calls Tryz.prog 94 #[v] w (Ret w (.bool q)) := by
 have HX := hd0 (fun m w hl => refFind_c l v m w hl)
 have HL := hd0 hl
 have HQ := hd0 hq
 obtain ⟨a, cap, rfl, h2, h3, h4⟩ := hl.shape
 have H4 := hd0 h4
 clear hl hq h4
 by_cases h60 : l.length ≤ 60
 ·have d1 : decide ((60 : Int) < (l.length : Int)) = false := by simp; omega
  go_enter Tryz.func94, Tryz.ntmps94
  go_wp2_with fail
  go_loopw [3] (fun i wr => ∃ k : Nat, k ≤ l.length ∧ i = .int .i64 k ∧ (∃ x, wr = ext w x) ∧ ∀ j, j < k → barOk l j = true) (fun i _ => l.length - (intOf i).toNat)
  case atStart => exact ⟨0, by omega, rfl, ext_of (Below.refl _ _), fun j h => by omega⟩
  case round =>
   obtain ⟨k, hk, rfl, ⟨x, rfl⟩, hno⟩ := hrel
   have HNO := hd0 hno
   clear hno
   by_cases hlt : k < l.length
   ·obtain ⟨hok, b0, off, rfl, hbr⟩ := H4.out k hlt
    have q1 : (0 : Int) ≤ (k : Int) := by omega
    have q2 : (k : Int) < (l.length : Int) := by omega
    have hbo : barOk l k = (shapeB l[k] && decide (findI l l[k].mark = k)) := by unfold barOk; rw [show l.getD k noBar = l[k] by simp [List.getD, hlt]]
    obtain ⟨b, hb⟩ : ∃ b, l[k] = b := ⟨_, rfl⟩
    rw [hb] at hbo hok hbr
    obtain ⟨c0, c1, c2, c3, c4⟩ := hbr.ext x
    obtain ⟨ad, cd, ev, _, _, _⟩ := hok.dims
    obtain ⟨mark, size, count, code, dims, dv⟩ := b
    simp only at ev c0 c1 c2 c3 c4 hbo
    subst ev
    have HOK := hd0 hok
    have HBO := hd0 hbo
    clear hb hbr hok hbo
    cases hs : shapeB ⟨mark, size, count, code, dims, .slice ad dims.length cd⟩
    ·obtain rfl : false = q := by rw [← HQ.out]; exact (schedB_false hlt (by rw [HBO.out, hs]; rfl)).symm
     have HS := hd0 hs
     clear hs
     go_wp2_with fail
     go_at_call 150; refine (ref12Valid_v _ _ HS.out _ (HOK.out.below gro)).mono ?_; rintro e w' ⟨rfl, y1, rfl⟩
     go_wp2
     go_ret
     exact Ret.of gro
    ·have HS := hd0 hs
     clear hs
     obtain ⟨K, hK⟩ : ∃ K, findI l mark = K := ⟨_, rfl⟩
     have HK := hd0 hK
     clear hK
     by_cases hKk : K = k
     ·have HN : Hid (∀ j, j < k + 1 → barOk l j = true) := fun j hj => by
       rcases Nat.lt_or_ge j k with h | h
       ·exact HNO.out j h
       ·obtain rfl : j = k := by omega
        rw [HBO.out, HS.out, HK.out, decide_eq_true hKk]; rfl
      have e1 : (K != (k : Int)) = false := by simpa using hKk
      have HKK := hd0 hKk
      clear hKk
      go_wp2_with fail
      go_at_call 150; refine (ref12Valid_v _ _ HS.out _ (HOK.out.below gro)).mono ?_; rintro e w' ⟨rfl, y1, rfl⟩
      go_wp2_with fail
      go_at_call 151; refine (HX.out mark _ (HL.out.below gro)).mono ?_; rintro e w' ⟨rfl, y2, rfl⟩
      rw [HK.out]
      go_wp2
      go_roundw
      case rel => exact ⟨k + 1, by omega, by go_num, ext_of gro, HN.out⟩
      case measure => simp [intOf]; omega
     ·obtain rfl : false = q := by rw [← HQ.out]; exact (schedB_false hlt (by rw [HBO.out, HK.out, decide_eq_false hKk, Bool.and_false])).symm
      have e1 : (K != (k : Int)) = true := by simpa using hKk
      clear hKk
      go_wp2_with fail
      go_at_call 150; refine (ref12Valid_v _ _ HS.out _ (HOK.out.below gro)).mono ?_; rintro e w' ⟨rfl, y1, rfl⟩
      go_wp2_with fail
      go_at_call 151; refine (HX.out mark _ (HL.out.below gro)).mono ?_; rintro e w' ⟨rfl, y2, rfl⟩
      rw [HK.out]
      go_wp2
      go_ret
      exact Ret.of gro
   ·obtain rfl : k = l.length := by omega
    obtain rfl : true = q := by rw [← HQ.out]; exact (schedB_true h60 HNO.out).symm
    go_wp2
    go_ret
    exact Ret.of gro
 ·have d1 : decide ((60 : Int) < (l.length : Int)) = true := by simp; omega
  obtain rfl : false = q := by rw [← HQ.out]; unfold schedB; rw [decide_eq_false h60, Bool.false_and]
  go_enter Tryz.func94, Tryz.ntmps94
  go_wp2
  go_ret
  exact Ret.of gro

set_option maxHeartbeats 4000000
set_option maxRecDepth 100000

theorem lenD1 {l : List Int} (h : (l.length : Int) = 1) : ∃ a, l = [a] := by match l, h with | [a], _ => exact ⟨a, rfl⟩
theorem lenD2 {l : List Int} (h : (l.length : Int) = 2) : ∃ a b, l = [a, b] := by match l, h with | [a, b], _ => exact ⟨a, b, rfl⟩
theorem lenD3 {l : List Int} (h : (l.length : Int) = 3) : ∃ a b c, l = [a, b, c] := by match l, h with | [a, b, c], _ => exact ⟨a, b, c, rfl⟩
theorem lenD5 {l : List Int} (h : (l.length : Int) = 5) : ∃ a b c d e, l = [a, b, c, d, e] := by match l, h with | [a, b, c, d, e], _ => exact ⟨a, b, c, d, e, rfl⟩
def movesL (b : Br) : List Pt := (legsC b.code).map (addP b.dims ⟨0, 0, 0⟩)
theorem pts_new {w : World} {g : Nat} (hg : g = w.heap.size) (l : List Pt) (cs : Array Value) (hc : cs.toList = ptCells l) (hl : l.length ≤ 1000) : Pts (w.alloc (.cells cs 38)) (.slice (some ⟨g, 0, none⟩) l.length l.length) l := by
 refine ⟨_, _, rfl, Nat.le_refl _, by omega, fun i hi => ⟨g, 0, rfl, ?_⟩⟩
 have hb : Blk (w.alloc (.cells cs 38)) g cs 38 := Blk.new' hg _ _
 have hcs : ∀ j, cs[j]? = (ptCells l)[j]? := fun j => by rw [← hc, Array.getElem?_toList]
 obtain ⟨e0, e1, e2⟩ := ptCells_get l i hi
 rw [Nat.zero_add]
 exact ⟨by rw [hb.cell, hcs, e0], by rw [hb.cell, hcs, e1], by rw [hb.cell, hcs, e2]⟩
theorem dims_cells {w : World} {a : Option Addr} {l : List Int} (h : ∀ i (h : i < l.length), ∃ b off, a = some ⟨b, off, none⟩ ∧ w.cell? ⟨b, off + i, none⟩ = some (.int .i64 l[i])) (h0 : 0 < l.length) :
  ∃ b off, a = some ⟨b, off, none⟩ ∧ ∀ i (h : i < l.length), w.cell? ⟨b, off + i, none⟩ = some (.int .i64 l[i]) := by
 obtain ⟨b, off, rfl, _⟩ := h 0 h0
 exact ⟨b, off, rfl, fun i hi => by obtain ⟨b', off', e, hc⟩ := h i hi; cases e; exact hc⟩

theorem moves_0 (mark : ByteArray) (size count : Int) (a : Int) (cap : Nat) (b0 off : Nat) (hcap : 1 ≤ cap ∧ cap ≤ 9223372036854775807) (hs : ∀ n ∈ [a], 1 ≤ n ∧ n ≤ 262144) (w : World)
  (hc : ∀ i (h : i < [a].length), w.cell? ⟨b0, off + i, none⟩ = some (.int .i64 ([a][i]))) :
  Calls Tryz.prog 245 #[.agg #[.string mark, .int .i64 size, .int .i64 count, .int .i64 0, .slice (some ⟨b0, off, none⟩) 1 cap]] w (fun e W => ∃ v, e = .returned v ∧ Pts W v ([⟨a, 0, 0⟩] : List Pt) ∧ ∃ x, W = ext w x) := by
 have c0 : w.cell? ⟨b0, off, none⟩ = some (.int .i64 a) := hc 0 (by simp)
 obtain ⟨r0, s0⟩ := hs a (by simp)
 obtain ⟨k1, k2⟩ := hcap
 clear hc hs
 go_enter Tryz.func245, Tryz.ntmps245
 go_wp2
 go_ret
 exact ⟨_, rfl, pts_new (by simp) ([⟨a, 0, 0⟩] : List Pt) _ rfl (by simp), ext_of gro⟩

theorem moves_11 (mark : ByteArray) (size count : Int) (a b : Int) (cap : Nat) (b0 off : Nat) (hcap : 2 ≤ cap ∧ cap ≤ 9223372036854775807) (hs : ∀ n ∈ [a, b], 1 ≤ n ∧ n ≤ 262144) (w : World)
  (hc : ∀ i (h : i < [a, b].length), w.cell? ⟨b0, off + i, none⟩ = some (.int .i64 ([a, b][i]))) :
  Calls Tryz.prog 245 #[.agg #[.string mark, .int .i64 size, .int .i64 count, .int .i64 11, .slice (some ⟨b0, off, none⟩) 2 cap]] w (fun e W => ∃ v, e = .returned v ∧ Pts W v ([⟨a, 0, 0⟩, ⟨0, b, 0⟩] : List Pt) ∧ ∃ x, W = ext w x) := by
 have c0 : w.cell? ⟨b0, off, none⟩ = some (.int .i64 a) := hc 0 (by simp)
 obtain ⟨r0, s0⟩ := hs a (by simp)
 have c1 : w.cell? ⟨b0, off + 1, none⟩ = some (.int .i64 b) := hc 1 (by simp)
 obtain ⟨r1, s1⟩ := hs b (by simp)
 obtain ⟨k1, k2⟩ := hcap
 clear hc hs
 go_enter Tryz.func245, Tryz.ntmps245
 go_wp2_with fail
 refine wp_region_tail 8 (by kernel_rfl) (by kernel_rfl) ?_; simp only [List.take_succ_cons, List.take_zero, List.drop_succ_cons, List.drop_zero]
 repeat (go_big_quiet_step (fail))
 refine wpQuiet_nil ?_; rintro _ ⟨xq, rfl⟩
 go_wp2
 go_ret
 exact ⟨_, rfl, pts_new (by simp [size_ext]) ([⟨a, 0, 0⟩, ⟨0, b, 0⟩] : List Pt) _ rfl (by simp), ext_of gro⟩

theorem moves_21 (mark : ByteArray) (size count : Int) (a b c : Int) (cap : Nat) (b0 off : Nat) (hcap : 3 ≤ cap ∧ cap ≤ 9223372036854775807) (hs : ∀ n ∈ [a, b, c], 1 ≤ n ∧ n ≤ 262144) (w : World)
  (hc : ∀ i (h : i < [a, b, c].length), w.cell? ⟨b0, off + i, none⟩ = some (.int .i64 ([a, b, c][i]))) :
  Calls Tryz.prog 245 #[.agg #[.string mark, .int .i64 size, .int .i64 count, .int .i64 21, .slice (some ⟨b0, off, none⟩) 3 cap]] w (fun e W => ∃ v, e = .returned v ∧ Pts W v ([⟨0, -a, 0⟩, ⟨b, 0, 0⟩, ⟨0, c, 0⟩] : List Pt) ∧ ∃ x, W = ext w x) := by
 have c0 : w.cell? ⟨b0, off, none⟩ = some (.int .i64 a) := hc 0 (by simp)
 obtain ⟨r0, s0⟩ := hs a (by simp)
 have c1 : w.cell? ⟨b0, off + 1, none⟩ = some (.int .i64 b) := hc 1 (by simp)
 obtain ⟨r1, s1⟩ := hs b (by simp)
 have c2 : w.cell? ⟨b0, off + 2, none⟩ = some (.int .i64 c) := hc 2 (by simp)
 obtain ⟨r2, s2⟩ := hs c (by simp)
 obtain ⟨k1, k2⟩ := hcap
 clear hc hs
 go_enter Tryz.func245, Tryz.ntmps245
 go_wp2_with fail
 refine wp_region_tail 13 (by kernel_rfl) (by kernel_rfl) ?_; simp only [List.take_succ_cons, List.take_zero, List.drop_succ_cons, List.drop_zero]
 repeat (go_big_quiet_step (fail))
 refine wpQuiet_nil ?_; rintro _ ⟨xq, rfl⟩
 go_wp2
 go_ret
 exact ⟨_, rfl, pts_new (by simp [size_ext]) ([⟨0, -a, 0⟩, ⟨b, 0, 0⟩, ⟨0, c, 0⟩] : List Pt) _ rfl (by simp), ext_of gro⟩

theorem moves_26 (mark : ByteArray) (size count : Int) (a b c : Int) (cap : Nat) (b0 off : Nat) (hcap : 3 ≤ cap ∧ cap ≤ 9223372036854775807) (hs : ∀ n ∈ [a, b, c], 1 ≤ n ∧ n ≤ 262144) (w : World)
  (hc : ∀ i (h : i < [a, b, c].length), w.cell? ⟨b0, off + i, none⟩ = some (.int .i64 ([a, b, c][i]))) :
  Calls Tryz.prog 245 #[.agg #[.string mark, .int .i64 size, .int .i64 count, .int .i64 26, .slice (some ⟨b0, off, none⟩) 3 cap]] w (fun e W => ∃ v, e = .returned v ∧ Pts W v ([⟨a, 0, 0⟩, ⟨0, b, 0⟩, ⟨c, 0, 0⟩] : List Pt) ∧ ∃ x, W = ext w x) := by
 have c0 : w.cell? ⟨b0, off, none⟩ = some (.int .i64 a) := hc 0 (by simp)
 obtain ⟨r0, s0⟩ := hs a (by simp)
 have c1 : w.cell? ⟨b0, off + 1, none⟩ = some (.int .i64 b) := hc 1 (by simp)
 obtain ⟨r1, s1⟩ := hs b (by simp)
 have c2 : w.cell? ⟨b0, off + 2, none⟩ = some (.int .i64 c) := hc 2 (by simp)
 obtain ⟨r2, s2⟩ := hs c (by simp)
 obtain ⟨k1, k2⟩ := hcap
 clear hc hs
 go_enter Tryz.func245, Tryz.ntmps245
 go_wp2_with fail
 refine wp_region_tail 12 (by kernel_rfl) (by kernel_rfl) ?_; simp only [List.take_succ_cons, List.take_zero, List.drop_succ_cons, List.drop_zero]
 repeat (go_big_quiet_step (fail))
 refine wpQuiet_nil ?_; rintro _ ⟨xq, rfl⟩
 go_wp2
 go_ret
 exact ⟨_, rfl, pts_new (by simp [size_ext]) ([⟨a, 0, 0⟩, ⟨0, b, 0⟩, ⟨c, 0, 0⟩] : List Pt) _ rfl (by simp), ext_of gro⟩

theorem moves_31 (mark : ByteArray) (size count : Int) (a b c : Int) (cap : Nat) (b0 off : Nat) (hcap : 3 ≤ cap ∧ cap ≤ 9223372036854775807) (hs : ∀ n ∈ [a, b, c], 1 ≤ n ∧ n ≤ 262144) (w : World)
  (hc : ∀ i (h : i < [a, b, c].length), w.cell? ⟨b0, off + i, none⟩ = some (.int .i64 ([a, b, c][i]))) :
  Calls Tryz.prog 245 #[.agg #[.string mark, .int .i64 size, .int .i64 count, .int .i64 31, .slice (some ⟨b0, off, none⟩) 3 cap]] w (fun e W => ∃ v, e = .returned v ∧ Pts W v ([⟨a, 0, 0⟩, ⟨0, b, 0⟩, ⟨0, 0, c⟩] : List Pt) ∧ ∃ x, W = ext w x) := by
 have c0 : w.cell? ⟨b0, off, none⟩ = some (.int .i64 a) := hc 0 (by simp)
 obtain ⟨r0, s0⟩ := hs a (by simp)
 have c1 : w.cell? ⟨b0, off + 1, none⟩ = some (.int .i64 b) := hc 1 (by simp)
 obtain ⟨r1, s1⟩ := hs b (by simp)
 have c2 : w.cell? ⟨b0, off + 2, none⟩ = some (.int .i64 c) := hc 2 (by simp)
 obtain ⟨r2, s2⟩ := hs c (by simp)
 obtain ⟨k1, k2⟩ := hcap
 clear hc hs
 go_enter Tryz.func245, Tryz.ntmps245
 go_wp2_with fail
 refine wp_region_tail 12 (by kernel_rfl) (by kernel_rfl) ?_; simp only [List.take_succ_cons, List.take_zero, List.drop_succ_cons, List.drop_zero]
 repeat (go_big_quiet_step (fail))
 refine wpQuiet_nil ?_; rintro _ ⟨xq, rfl⟩
 go_wp2
 go_ret
 exact ⟨_, rfl, pts_new (by simp [size_ext]) ([⟨a, 0, 0⟩, ⟨0, b, 0⟩, ⟨0, 0, c⟩] : List Pt) _ rfl (by simp), ext_of gro⟩

theorem moves_41 (mark : ByteArray) (size count : Int) (a b c d f : Int) (cap : Nat) (b0 off : Nat) (hcap : 5 ≤ cap ∧ cap ≤ 9223372036854775807) (hs : ∀ n ∈ [a, b, c, d, f], 1 ≤ n ∧ n ≤ 262144) (w : World)
  (hc : ∀ i (h : i < [a, b, c, d, f].length), w.cell? ⟨b0, off + i, none⟩ = some (.int .i64 ([a, b, c, d, f][i]))) :
  Calls Tryz.prog 245 #[.agg #[.string mark, .int .i64 size, .int .i64 count, .int .i64 41, .slice (some ⟨b0, off, none⟩) 5 cap]] w (fun e W => ∃ v, e = .returned v ∧ Pts W v ([⟨a, 0, 0⟩, ⟨0, b, 0⟩, ⟨c, 0, 0⟩, ⟨0, -d, 0⟩, ⟨f, 0, 0⟩] : List Pt) ∧ ∃ x, W = ext w x) := by
 have c0 : w.cell? ⟨b0, off, none⟩ = some (.int .i64 a) := hc 0 (by simp)
 obtain ⟨r0, s0⟩ := hs a (by simp)
 have c1 : w.cell? ⟨b0, off + 1, none⟩ = some (.int .i64 b) := hc 1 (by simp)
 obtain ⟨r1, s1⟩ := hs b (by simp)
 have c2 : w.cell? ⟨b0, off + 2, none⟩ = some (.int .i64 c) := hc 2 (by simp)
 obtain ⟨r2, s2⟩ := hs c (by simp)
 have c3 : w.cell? ⟨b0, off + 3, none⟩ = some (.int .i64 d) := hc 3 (by simp)
 obtain ⟨r3, s3⟩ := hs d (by simp)
 have c4 : w.cell? ⟨b0, off + 4, none⟩ = some (.int .i64 f) := hc 4 (by simp)
 obtain ⟨r4, s4⟩ := hs f (by simp)
 obtain ⟨k1, k2⟩ := hcap
 clear hc hs
 go_enter Tryz.func245, Tryz.ntmps245
 go_wp2_with fail
 refine wp_region_tail 21 (by kernel_rfl) (by kernel_rfl) ?_; simp only [List.take_succ_cons, List.take_zero, List.drop_succ_cons, List.drop_zero]
 repeat (go_big_quiet_step (fail))
 refine wpQuiet_nil ?_; rintro _ ⟨xq, rfl⟩
 go_wp2
 go_ret
 exact ⟨_, rfl, pts_new (by simp [size_ext]) ([⟨a, 0, 0⟩, ⟨0, b, 0⟩, ⟨c, 0, 0⟩, ⟨0, -d, 0⟩, ⟨f, 0, 0⟩] : List Pt) _ rfl (by simp), ext_of gro⟩

theorem moves_51 (mark : ByteArray) (size count : Int) (a b c : Int) (cap : Nat) (b0 off : Nat) (hcap : 3 ≤ cap ∧ cap ≤ 9223372036854775807) (hs : ∀ n ∈ [a, b, c], 1 ≤ n ∧ n ≤ 262144) (w : World)
  (hc : ∀ i (h : i < [a, b, c].length), w.cell? ⟨b0, off + i, none⟩ = some (.int .i64 ([a, b, c][i]))) :
  Calls Tryz.prog 245 #[.agg #[.string mark, .int .i64 size, .int .i64 count, .int .i64 51, .slice (some ⟨b0, off, none⟩) 3 cap]] w (fun e W => ∃ v, e = .returned v ∧ Pts W v ([⟨0, -c, 0⟩, ⟨a, 0, 0⟩, ⟨0, b, 0⟩, ⟨-a, 0, 0⟩, ⟨0, -b, 0⟩, ⟨c, 0, 0⟩] : List Pt) ∧ ∃ x, W = ext w x) := by
 have c0 : w.cell? ⟨b0, off, none⟩ = some (.int .i64 a) := hc 0 (by simp)
 obtain ⟨r0, s0⟩ := hs a (by simp)
 have c1 : w.cell? ⟨b0, off + 1, none⟩ = some (.int .i64 b) := hc 1 (by simp)
 obtain ⟨r1, s1⟩ := hs b (by simp)
 have c2 : w.cell? ⟨b0, off + 2, none⟩ = some (.int .i64 c) := hc 2 (by simp)
 obtain ⟨r2, s2⟩ := hs c (by simp)
 obtain ⟨k1, k2⟩ := hcap
 clear hc hs
 go_enter Tryz.func245, Tryz.ntmps245
 go_wp2_with fail
 refine wp_region_tail 27 (by kernel_rfl) (by kernel_rfl) ?_; simp only [List.take_succ_cons, List.take_zero, List.drop_succ_cons, List.drop_zero]
 repeat (go_big_quiet_step (fail))
 refine wpQuiet_nil ?_; rintro _ ⟨xq, rfl⟩
 go_wp2
 go_ret
 exact ⟨_, rfl, pts_new (by simp [size_ext]) ([⟨0, -c, 0⟩, ⟨a, 0, 0⟩, ⟨0, b, 0⟩, ⟨-a, 0, 0⟩, ⟨0, -b, 0⟩, ⟨c, 0, 0⟩] : List Pt) _ rfl (by simp), ext_of gro⟩

theorem moves_98 (mark : ByteArray) (size count : Int) (a b c : Int) (cap : Nat) (b0 off : Nat) (hcap : 3 ≤ cap ∧ cap ≤ 9223372036854775807) (hs : ∀ n ∈ [a, b, c], 1 ≤ n ∧ n ≤ 262144) (w : World)
  (hc : ∀ i (h : i < [a, b, c].length), w.cell? ⟨b0, off + i, none⟩ = some (.int .i64 ([a, b, c][i]))) :
  Calls Tryz.prog 245 #[.agg #[.string mark, .int .i64 size, .int .i64 count, .int .i64 98, .slice (some ⟨b0, off, none⟩) 3 cap]] w (fun e W => ∃ v, e = .returned v ∧ Pts W v ([⟨0, 0, a⟩, ⟨0, -b, 0⟩, ⟨c, 0, 0⟩, ⟨0, b, 0⟩, ⟨0, 0, a⟩] : List Pt) ∧ ∃ x, W = ext w x) := by
 have c0 : w.cell? ⟨b0, off, none⟩ = some (.int .i64 a) := hc 0 (by simp)
 obtain ⟨r0, s0⟩ := hs a (by simp)
 have c1 : w.cell? ⟨b0, off + 1, none⟩ = some (.int .i64 b) := hc 1 (by simp)
 obtain ⟨r1, s1⟩ := hs b (by simp)
 have c2 : w.cell? ⟨b0, off + 2, none⟩ = some (.int .i64 c) := hc 2 (by simp)
 obtain ⟨r2, s2⟩ := hs c (by simp)
 obtain ⟨k1, k2⟩ := hcap
 clear hc hs
 go_enter Tryz.func245, Tryz.ntmps245
 go_wp2_with fail
 refine wp_region_tail 21 (by kernel_rfl) (by kernel_rfl) ?_; simp only [List.take_succ_cons, List.take_zero, List.drop_succ_cons, List.drop_zero]
 repeat (go_big_quiet_step (fail))
 refine wpQuiet_nil ?_; rintro _ ⟨xq, rfl⟩
 go_wp2
 go_ret
 exact ⟨_, rfl, pts_new (by simp [size_ext]) ([⟨0, 0, a⟩, ⟨0, -b, 0⟩, ⟨c, 0, 0⟩, ⟨0, b, 0⟩, ⟨0, 0, a⟩] : List Pt) _ rfl (by simp), ext_of gro⟩

theorem refMoves_c (b : Br) (h : shapeB b = true) (w : World) (hb : BrOk w b) : Calls Tryz.prog 245 #[(.agg #[.string b.mark, .int .i64 b.size, .int .i64 b.count, .int .i64 b.code, b.dv])] w (fun e W => ∃ v, e = .returned v ∧ Pts W v (movesL b) ∧ ∃ x, W = ext w x) := by
 obtain ⟨h1, _, _, _, h5, h6⟩ := shape_facts h
 have hs := restB_mem h6
 obtain ⟨a, cap, ev, k2, k3, k4⟩ := hb.dims
 unfold movesL
 obtain ⟨mark, size, count, code, dims, dv⟩ := b
 simp only at *
 subst ev
 clear h hb h6
 rcases legs_cases code with rfl | rfl | rfl | rfl | rfl | rfl | rfl | rfl | ⟨_, he⟩
 ·obtain ⟨a, rfl⟩ := lenD1 h5
  obtain ⟨b0, off, rfl, hc⟩ := dims_cells k4 (by simp)
  have := moves_0 mark size count a cap b0 off ⟨by simpa using k2, k3⟩ hs w hc
  rw [legs_0]
  simpa [addP] using this
 ·obtain ⟨a, b, rfl⟩ := lenD2 h5
  obtain ⟨b0, off, rfl, hc⟩ := dims_cells k4 (by simp)
  have := moves_11 mark size count a b cap b0 off ⟨by simpa using k2, k3⟩ hs w hc
  rw [legs_11]
  simpa [addP] using this
 ·obtain ⟨a, b, c, rfl⟩ := lenD3 h5
  obtain ⟨b0, off, rfl, hc⟩ := dims_cells k4 (by simp)
  have := moves_21 mark size count a b c cap b0 off ⟨by simpa using k2, k3⟩ hs w hc
  rw [legs_21]
  simpa [addP] using this
 ·obtain ⟨a, b, c, rfl⟩ := lenD3 h5
  obtain ⟨b0, off, rfl, hc⟩ := dims_cells k4 (by simp)
  have := moves_26 mark size count a b c cap b0 off ⟨by simpa using k2, k3⟩ hs w hc
  rw [legs_26]
  simpa [addP] using this
 ·obtain ⟨a, b, c, rfl⟩ := lenD3 h5
  obtain ⟨b0, off, rfl, hc⟩ := dims_cells k4 (by simp)
  have := moves_31 mark size count a b c cap b0 off ⟨by simpa using k2, k3⟩ hs w hc
  rw [legs_31]
  simpa [addP] using this
 ·obtain ⟨a, b, c, d, f, rfl⟩ := lenD5 h5
  obtain ⟨b0, off, rfl, hc⟩ := dims_cells k4 (by simp)
  have := moves_41 mark size count a b c d f cap b0 off ⟨by simpa using k2, k3⟩ hs w hc
  rw [legs_41]
  simpa [addP] using this
 ·obtain ⟨a, b, c, rfl⟩ := lenD3 h5
  obtain ⟨b0, off, rfl, hc⟩ := dims_cells k4 (by simp)
  have := moves_51 mark size count a b c cap b0 off ⟨by simpa using k2, k3⟩ hs w hc
  rw [legs_51]
  simpa [addP] using this
 ·obtain ⟨a, b, c, rfl⟩ := lenD3 h5
  obtain ⟨b0, off, rfl, hc⟩ := dims_cells k4 (by simp)
  have := moves_98 mark size count a b c cap b0 off ⟨by simpa using k2, k3⟩ hs w hc
  rw [legs_98]
  simpa [addP] using this
 ·unfold dimsR at h1
  rw [he] at h1
  exact absurd h1 (by decide)


theorem addP_plus (dims : List Int) (p : Pt) (g : Nat × Int) : addP dims p g = ⟨p.x + (addP dims ⟨0, 0, 0⟩ g).x, p.y + (addP dims ⟨0, 0, 0⟩ g).y, p.z + (addP dims ⟨0, 0, 0⟩ g).z⟩ := by
 unfold addP
 split <;> (try split) <;> (try split) <;> (try split) <;> simp <;> omega
theorem moves_near {b : Br} (h : shapeB b = true) : ∀ p ∈ movesL b, NearP p 262144 := by
 intro p hp
 unfold movesL at hp
 obtain ⟨g, hg, rfl⟩ := List.mem_map.1 hp
 have hd := legs_dims h g hg
 have hr := restB_mem (shape_facts h).2.2.2.2.2 _ (List.getElem_mem hd)
 have he : b.dims.getD g.1 0 = b.dims[g.1] := by simp [List.getD, hd]
 unfold addP NearP
 rw [he]
 split <;> (try split) <;> (try split) <;> (try split) <;> simp <;> omega
structure PthJ (W0 : World) (b : Br) (k : Nat) (v : Value) (wr : World) : Prop where
 below : Below W0.heap.size W0 wr
 point : Blk wr W0.heap.size #[.int .i64 (atK b.dims (legsC b.code) k).x, .int .i64 (atK b.dims (legsC b.code) k).y, .int .i64 (atK b.dims (legsC b.code) k).z] 38
 row : wr.ownsRow (W0.heap.size + 1) 38 3 v (k + 1) (ptCells (ptsK b.dims (legsC b.code) k))
 near : NearK (atK b.dims (legsC b.code) k) k
theorem PthJ.step {W0 : World} {b : Br} {k : Nat} {v : Value} {wr : World} (h : PthJ W0 b k v wr) (P : Pt) (y : World) (o2 : Obj) (hat : atK b.dims (legsC b.code) (k + 1) = P) (hn : NearK P (k + 1)) {v' : Value} {w' : World}
  (hown : w'.ownsRow (W0.heap.size + 1) 38 3 v' (k + 1 + 1) (ptCells (ptsK b.dims (legsC b.code) k) ++ ptCells [P]))
  (hg : ((ext (((wr.setCell ⟨W0.heap.size, 0, none⟩ (.int .i64 P.x)).setCell ⟨W0.heap.size, 1, none⟩ (.int .i64 P.y)).setCell ⟨W0.heap.size, 2, none⟩ (.int .i64 P.z)) y).alloc o2).grownBy w' v.ownBlock) : PthJ W0 b (k + 1) v' w' := by
 have hrow : ∀ k, v.ownBlock = some k → W0.heap.size ≤ k := fun k e => by have := (h.row.lt k e).1; omega
 have r4 : some W0.heap.size ≠ v.ownBlock := own_base_ne h.row (Nat.lt_succ_self _)
 have h3 := below_set3 h.below rfl 0 1 2 (.int .i64 P.x) (.int .i64 P.y) (.int .i64 P.z)
 have h4 : Below W0.heap.size W0 ((ext (((wr.setCell ⟨W0.heap.size, 0, none⟩ (.int .i64 P.x)).setCell ⟨W0.heap.size, 1, none⟩ (.int .i64 P.y)).setCell ⟨W0.heap.size, 2, none⟩ (.int .i64 P.z)) y).alloc o2) := grow_alloc _ (grow_ext _ h3)
 refine ⟨h4.grown hg h4.size hrow, ?_, ?_, by rw [hat]; exact hn⟩
 ·have := ((((h.point.set 0 (.int .i64 P.x)).set 1 (.int .i64 P.y)).set 2 (.int .i64 P.z)).ext y).alloc o2
  rw [hat]
  exact (this.grown hg r4)
 ·rw [ptsK_succ, ptCells_append, hat]; exact hown

set_option maxRecDepth 100000 in
set_option maxHeartbeats 4000000 in
theorem refPath_c (b : Br) (h : shapeB b = true) (w : World) (hb : BrOk w b) :
  Calls Tryz.prog 209 #[(.agg #[.string b.mark, .int .i64 b.size, .int .i64 b.count, .int .i64 b.code, b.dv])] w (fun e W => ∃ v, e = .returned v ∧ W.ownsRow w.heap.size 38 3 v (pathL b).length (ptCells (pathL b)) ∧ ∃ x, W = ext w x) := by
 have HM := hd0 (fun w hb => refMoves_c b h w hb)
 have HB := hd0 hb
 have HN := hd0 (moves_near h)
 have hlen : (movesL b).length = (legsC b.code).length := by unfold movesL; rw [List.length_map]
 have hl6 := (legs_way b.code).1
 have HPL := hd0 (show pathL b = ptsK b.dims (legsC b.code) (legsC b.code).length from rfl)
 have HSU := hd0 (show ∀ k (h : k < (movesL b).length), atK b.dims (legsC b.code) (k + 1) = ⟨(atK b.dims (legsC b.code) k).x + (movesL b)[k].x, (atK b.dims (legsC b.code) k).y + (movesL b)[k].y, (atK b.dims (legsC b.code) k).z + (movesL b)[k].z⟩ from fun k hk => by
  have hk' : k < (legsC b.code).length := by rw [← hlen]; exact hk
  have hg : (movesL b)[k] = addP b.dims ⟨0, 0, 0⟩ (legsC b.code)[k] := by simp [movesL]
  rw [atK_succ b.dims hk', addP_plus, hg])
 obtain ⟨ad, cd, ev, _, _, _⟩ := hb.dims
 rw [← hlen] at hl6 HPL
 clear h hb hlen
 obtain ⟨M, hM⟩ : ∃ M, movesL b = M := ⟨_, rfl⟩
 rw [hM] at HM HN hl6 HPL
 have HSU2 : Hid (∀ k (h : k < M.length), atK b.dims (legsC b.code) (k + 1) = ⟨(atK b.dims (legsC b.code) k).x + M[k].x, (atK b.dims (legsC b.code) k).y + M[k].y, (atK b.dims (legsC b.code) k).z + M[k].z⟩) := by subst hM; exact HSU
 have HE := hd0 ev
 clear hM HSU ev
 go_enter Tryz.func209, Tryz.ntmps209
 go_wp2_with fail
 go_at_call 245; refine (HM.out _ (HB.out.below gro)).mono ?_; rintro e w' ⟨v3, rfl, hp3, x1, rfl⟩
 obtain ⟨a3, c3, rfl, m1, m2, m3⟩ := hp3.shape
 have HP3 := hd0 hp3
 clear hp3 m3
 go_wp2_with fail
 obtain ⟨W0, hW0⟩ : ∃ W0, ext (w.alloc (.cells #[.string b.mark, .int .i64 b.size, .int .i64 b.count, .int .i64 b.code, b.dv] 81)) x1 = W0 := ⟨_, rfl⟩
 have hsz : w.heap.size + 1 + x1.heap.size = W0.heap.size := by rw [← hW0]; simp [size_ext]
 have HBW := hd0 (show Below w.heap.size w W0 by rw [← hW0]; (repeat (first | exact grow_refl _ | refine grow_ext _ ?_ | refine grow_alloc _ ?_ | refine grow_drew ?_)))
 rw [hW0] at HP3 ⊢
 rw [hsz]
 refine world_mask (fun W => PthJ W0 b 0 (.slice (some ⟨W0.heap.size + 1, 0, none⟩) 1 1) W) _ ⟨gro, Blk.alloc (Blk.new' rfl _ _) _, own_lit (base := W0.heap.size + 1) _ _ _ _ _ (by simp) (by simp) (by decide) rfl rfl, by rw [show atK b.dims (legsC b.code) 0 = ⟨0, 0, 0⟩ from rfl]; unfold NearK; simp⟩ ?_
 clear hW0 hsz
 rintro W1 J0
 go_loopw [5, 6] (fun v i wr => ∃ k : Nat, k ≤ M.length ∧ i = .int .i64 k ∧ PthJ W0 b k v wr) (fun _ i _ => M.length - (intOf i).toNat)
 case atStart => exact ⟨0, by omega, rfl, J0⟩
 case round =>
  clear J0
  obtain ⟨k, hk, rfl, J⟩ := hrel
  have HJ := hd0 J
  obtain ⟨av, cv, rfl, hv1, hv2, -⟩ := own_shape J.row
  have hv3 : cv ≤ 9223372036854775807 := hv2
  by_cases hlt : k < M.length
  ·have q1 : (0 : Int) ≤ (k : Int) := by omega
   have q2 : (k : Int) < (M.length : Int) := by omega
   obtain ⟨a', c', e', _, _, hc⟩ := HP3.out.below J.below
   cases e'
   obtain ⟨b3, o3, rfl, n0, n1, n2⟩ := hc k hlt
   have hmn := HN.out _ (List.getElem_mem hlt)
   have hat := HSU2.out k hlt
   generalize M[k] = m at *
   have p0 : wr.cell? ⟨W0.heap.size, 0, none⟩ = some (.int .i64 (atK b.dims (legsC b.code) k).x) := J.point.cell 0
   have p1 : wr.cell? ⟨W0.heap.size, 1, none⟩ = some (.int .i64 (atK b.dims (legsC b.code) k).y) := J.point.cell 1
   have p2 : wr.cell? ⟨W0.heap.size, 2, none⟩ = some (.int .i64 (atK b.dims (legsC b.code) k).z) := J.point.cell 2
   have f0 := J.point.frozen 0
   have f1 := J.point.frozen 1
   have f2 := J.point.frozen 2
   have hnr := J.near
   obtain ⟨P, hP⟩ : ∃ P, atK b.dims (legsC b.code) k = P := ⟨_, rfl⟩
   rw [hP] at p0 p1 p2 hnr hat
   have hk6 : (k : Int) ≤ 5 := by omega
   obtain ⟨⟨x1', x2'⟩, ⟨y1', y2'⟩, z1', z2'⟩ : (-1572864 ≤ P.x ∧ P.x ≤ 1572864) ∧ (-1572864 ≤ P.y ∧ P.y ≤ 1572864) ∧ (-1572864 ≤ P.z ∧ P.z ≤ 1572864) := by unfold NearK at hnr; omega
   obtain ⟨⟨n3, n4⟩, ⟨n5, n6⟩, n7, n8⟩ := hmn
   have u1 : IntKind.i64.wrap (P.x + m.x) = P.x + m.x := IntWalk.i64_in _ (by omega)
   have u2 : IntKind.i64.wrap (P.y + m.y) = P.y + m.y := IntWalk.i64_in _ (by omega)
   have u3 : IntKind.i64.wrap (P.z + m.z) = P.z + m.z := IntWalk.i64_in _ (by omega)
   have HAT := hd0 hat
   have HNR := hd0 (show NearK ⟨P.x + m.x, P.y + m.y, P.z + m.z⟩ (k + 1) by unfold NearK at hnr ⊢; simp only; omega)
   clear hc hP hnr hat J
   go_wp2_with fail
   refine wp_region_tail 24 (by kernel_rfl) (by kernel_rfl) ?_; simp only [List.take_succ_cons, List.take_zero, List.drop_succ_cons, List.drop_zero]
   repeat (go_big_quiet_step (fail))
   refine wpQuiet_nil ?_; rintro _ ⟨xq, rfl⟩
   go_wp2_with (at_builtin; refine app_own_b rfl _ _ 207 rfl 38 (.agg #[.int .i64 0, .int .i64 0, .int .i64 0]) 3 24 Tryz.underlying207 info_pt rfl (by decide) (W0.heap.size + 1) (.slice av (k + 1) cv) (k + 1) (ptCells (ptsK b.dims (legsC b.code) k)) _ rfl ((own_ext (ownsRow_setCell_below (ownsRow_setCell_below (ownsRow_setCell_below HJ.out.row (a := ⟨W0.heap.size, 0, none⟩) (Nat.lt_succ_self _) _) (a := ⟨W0.heap.size, 1, none⟩) (Nat.lt_succ_self _) _) (a := ⟨W0.heap.size, 2, none⟩) (Nat.lt_succ_self _) _) _).alloc _) _ 1 1 (ptCells [(⟨P.x + m.x, P.y + m.y, P.z + m.z⟩ : Pt)]) rfl rfl (cells_new ?_ _ _ _ rfl) (ptCells_one _) (by omega) (by decide) ?_ ?_; (first | rfl | simp [size_ext]); (have := HJ.out.point.lt; simp only [World.size_alloc, World.setCell, Array.size_modify, size_ext]; omega); intro v' w1 hown' hgrow; have HO2 := hd0 hown'; obtain ⟨a', c', rfl, _, hc2, -⟩ := own_shape hown'; have hc3 : c' ≤ 9223372036854775807 := hc2; have HGR := hd0 hgrow; clear hown' hgrow hc2)
   go_roundw
   case rel => exact ⟨k + 1, by omega, by go_num, HJ.out.step ⟨P.x + m.x, P.y + m.y, P.z + m.z⟩ _ _ HAT.out HNR.out HO2.out HGR.out⟩
   case measure => simp [intOf]; omega
  ·obtain rfl : k = M.length := by omega
   clear J
   go_wp2
   go_ret
   exact ⟨_, rfl, by rw [HPL.out, ptsK_length]; exact own_mono HJ.out.row (by have := HBW.out.size; omega), ext_of (HBW.out.trans (HJ.out.below.mono HBW.out.size))⟩

end Go.Proofs.YtkjljneehgmmaaaGreat

