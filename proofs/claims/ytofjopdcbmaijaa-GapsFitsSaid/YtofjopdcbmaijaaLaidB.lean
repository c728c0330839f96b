/- Shapes: how many dimensions a code has, valid bars. Printed by mklaidb.py. -/
import Derived.Test.YtofjopdcbmaijaaLaidB0
namespace Go.Proofs.Ytofjopdcbmaijaa
open Go.RowKit
set_option maxRecDepth 20000

/-- The greatest dimension among legs: -1 if there are none. -/
def maxD (l : List (Nat × Int)) : Int := l.foldl (fun m x => max m (x.1 : Int)) (-1)
theorem maxD_take {l : List (Nat × Int)} {k : Nat} (h : k < l.length) : maxD (l.take (k + 1)) = max (maxD (l.take k)) (l[k].1 : Int) := by
  unfold maxD
  rw [List.take_succ_eq_append_getElem h, List.foldl_append]; rfl
def dimsR (c : Int) : Int × Int := if maxD (legsC c) < 0 then (0, 11) else (maxD (legsC c) + 1, 0)

set_option maxRecDepth 100000 in
set_option maxHeartbeats 1000000 in
theorem dims_v (c rm re : Int) (h : dimsR c = (rm, re)) (w : World) : Calls Try.prog 67 #[.int .i64 c] w (Ret w (.tuple #[.int .i64 rm, .int .i64 re])) := by
  have HL := Lib.hid (fun w => legs_c c w)
  have hlen : (legsC c).length ≤ 6 := by rcases legs_cases c with rfl | rfl | rfl | rfl | rfl | rfl | rfl | rfl | ⟨_, he⟩ <;> first | decide | (rw [he]; decide)
  have hsmall : ∀ x ∈ legsC c, x.1 ≤ 4 := by rcases legs_cases c with rfl | rfl | rfl | rfl | rfl | rfl | rfl | rfl | ⟨_, he⟩ <;> first | decide | (rw [he]; intro x hx; cases hx)
  unfold dimsR at h
  generalize legsC c = l at *
  have HSM := Lib.hid hsmall
  have HR := Lib.hid h
  clear hsmall h
  go_enter Try.func67, Try.ntmps67
  go_wp2_with fail
  go_at_call 85; refine Calls.mono (HL.out _) ?_; rintro e w' ⟨v1, rfl, hA, x1, rfl⟩
  obtain ⟨a, cap, rfl, h2, h3, h4⟩ := hA.shape
  have H4 := Lib.hid h4
  clear h4 hA
  go_wp2_with fail
  go_loopw [10, 4] (fun i m wr => ∃ k : Nat, k ≤ l.length ∧ i = .int .i64 k ∧ m = .int .i64 (maxD (l.take k)) ∧ (-1 ≤ maxD (l.take k) ∧ maxD (l.take k) ≤ 4) ∧ ∃ x, wr = ext (ext w x1) x) (fun i _ _ => l.length - (intOf i).toNat)
  case atStart => exact ⟨0, by omega, rfl, rfl, by rw [List.take_zero]; decide, ext_of (Below.refl _ _)⟩
  case round =>
    obtain ⟨k, hk, rfl, rfl, hm, x, rfl⟩ := hrel
    by_cases hlt : k < l.length
    · obtain ⟨b, off, rfl, c0, c1⟩ := H4.out k hlt
      have c0 := cell_ext_some c0 x
      have c1 := cell_ext_some c1 x
      have q1 : (0 : Int) ≤ (k : Int) := by omega
      have q2 : (k : Int) < (l.length : Int) := by omega
      have hmt := maxD_take hlt
      have hsm := HSM.out _ (List.getElem_mem hlt)
      generalize l[k] = p at *
      obtain ⟨M', hM'⟩ : ∃ M', maxD (l.take (k + 1)) = M' := ⟨_, rfl⟩
      rw [hM'] at hmt
      generalize maxD (l.take k) = M at *
      have HM := Lib.hid hM'
      have HT := Lib.hid hmt
      clear hM' hmt
      go_wp2
      all_goals
        go_roundw
        case rel => exact ⟨k + 1, by omega, by go_num, by rw [HM.out, HT.out]; try (congr 1; omega), by rw [HM.out, HT.out]; omega, ext_of (by (repeat (first | exact grow_refl _ | refine grow_ext _ ?_ | refine grow_alloc _ ?_ | refine grow_drew ?_)))⟩
        case measure => simp [intOf]; omega
    · obtain rfl : k = l.length := by omega
      rw [List.take_length] at hm ⊢
      have hr := HR.out
      clear HR
      generalize maxD l = M at *
      by_cases hneg : M < 0
      · rw [if_pos hneg] at hr
        cases hr
        go_wp2
        go_ret2
        exact Ret.of (by (repeat (first | exact grow_refl _ | refine grow_ext _ ?_ | refine grow_alloc _ ?_ | refine grow_drew ?_)))
      · rw [if_neg hneg] at hr
        cases hr
        go_wp2
        go_ret2
        exact Ret.of (by (repeat (first | exact grow_refl _ | refine grow_ext _ ?_ | refine grow_alloc _ ?_ | refine grow_drew ?_)))

theorem dims_c (c : Int) (w : World) : Calls Try.prog 67 #[.int .i64 c] w (Ret w (.tuple #[.int .i64 (dimsR c).1, .int .i64 (dimsR c).2])) := dims_v c _ _ rfl w
/-- Each number is at least 1 and at most what is left. -/
def restB : Int → List Int → Bool
  | _, [] => true
  | r, n :: l => decide (1 ≤ n) && decide (n ≤ r) && restB (r - n) l
def shapeB (b : Br) : Bool := decide ((dimsR b.code).2 = 0) && (nameB b.mark && (sizeB b.size && (decide (1 ≤ b.count) && (decide (b.count ≤ 1000) && (decide ((b.dims.length : Int) = (dimsR b.code).1) && restB 262144 b.dims)))))

set_option maxRecDepth 100000 in
set_option maxHeartbeats 2000000 in
theorem shapeValid_ok (b : Br) (r : Bool) (h1 : (dimsR b.code).2 = 0) (h2 : nameB b.mark = true) (h3 : sizeB b.size = true) (h4 : 1 ≤ b.count) (h5 : b.count ≤ 1000) (h6 : (b.dims.length : Int) = (dimsR b.code).1) (hr : restB 262144 b.dims = r) (w : World) (hb : BrOk w b) :
    Calls Try.prog 48 #[(.agg #[.string b.mark, .int .i64 b.size, .int .i64 b.count, .int .i64 b.code, b.dv])] w (Ret w (.bool r)) := by
  have HD := Lib.hid (fun w => dims_c b.code w)
  rw [h1, ← h6] at HD
  have HN := Lib.hid (fun w => isName_v b.mark true h2 hb.mark w)
  have HS := Lib.hid (fun w => size_v b.size true h3 w)
  obtain ⟨a, cap, ev, k2, k3, k4⟩ := hb.dims
  have K4 := Lib.hid k4
  have HR := Lib.hid hr
  clear h1 h2 h3 h6 hb k4 hr
  obtain ⟨mark, size, count, code, dims, dv⟩ := b
  simp only at *
  subst ev
  have d1 : ((dims.length : Int) != (dims.length : Int)) = false := by simp
  go_enter Try.func48, Try.ntmps48
  go_wp2_with fail
  go_at_call 67; refine (HD.out _).mono ?_; rintro e w' ⟨rfl, x1, rfl⟩
  go_wp2_with fail
  go_at_call 68; refine (HN.out _).mono ?_; rintro e w' ⟨rfl, x2, rfl⟩
  go_wp2_with fail
  go_at_call 24; refine (HS.out _).mono ?_; rintro e w' ⟨rfl, x3, rfl⟩
  go_wp2_with fail
  refine world_mask (fun W => ∃ z, W = ext w z) _ (ext_of (by (repeat (first | exact grow_refl _ | refine grow_ext _ ?_ | refine grow_alloc _ ?_ | refine grow_drew ?_)))) ?_
  rintro W1 ⟨z, rfl⟩
  go_loopw [48, 5] (fun i m wr => ∃ (k : Nat) (R : Int), k ≤ dims.length ∧ i = .int .i64 k ∧ m = .int .i64 R ∧ (0 ≤ R ∧ R ≤ 262144) ∧ restB 262144 dims = restB R (dims.drop k) ∧ ∃ x, wr = ext w x) (fun i _ _ => dims.length - (intOf i).toNat)
  case atStart => exact ⟨0, 262144, by omega, rfl, rfl, by decide, rfl, _, rfl⟩
  case round =>
    obtain ⟨k, R, hk, rfl, rfl, hR, hdr, x, rfl⟩ := hrel
    by_cases hlt : k < dims.length
    · obtain ⟨bb, off, rfl, c0⟩ := K4.out k hlt
      have c0 := cell_ext_some c0 x
      have q1 : (0 : Int) ≤ (k : Int) := by omega
      have q2 : (k : Int) < (dims.length : Int) := by omega
      rw [List.drop_eq_getElem_cons hlt, restB] at hdr
      have HDR := Lib.hid hdr
      obtain ⟨n, hn⟩ : ∃ n, dims[k] = n := ⟨_, rfl⟩
      rw [hn] at c0 HDR
      clear hdr hn
      by_cases g1 : 1 ≤ n
      · by_cases g2 : n ≤ R
        · have HX := Lib.hid (show restB 262144 dims = restB (R - n) (dims.drop (k + 1)) by rw [HDR.out, decide_eq_true g1, decide_eq_true g2, Bool.true_and, Bool.true_and])
          go_wp2
          go_roundw
          case rel => exact ⟨k + 1, R - n, by omega, by go_num, rfl, by omega, HX.out, ext_of (by (repeat (first | exact grow_refl _ | refine grow_ext _ ?_ | refine grow_alloc _ ?_ | refine grow_drew ?_)))⟩
          case measure => simp [intOf]; omega
        · obtain rfl : false = r := by rw [← HR.out, HDR.out, decide_eq_false g2, Bool.and_false, Bool.false_and]
          go_wp2
          go_ret
          exact Ret.of (by (repeat (first | exact grow_refl _ | refine grow_ext _ ?_ | refine grow_alloc _ ?_ | refine grow_drew ?_)))
      · obtain rfl : false = r := by rw [← HR.out, HDR.out, decide_eq_false g1, Bool.false_and, Bool.false_and]
        go_wp2
        go_ret
        exact Ret.of (by (repeat (first | exact grow_refl _ | refine grow_ext _ ?_ | refine grow_alloc _ ?_ | refine grow_drew ?_)))
    · obtain rfl : k = dims.length := by omega
      obtain rfl : true = r := by rw [← HR.out, hdr, List.drop_length]; rfl
      clear hdr
      go_wp2
      go_ret
      exact Ret.of (by (repeat (first | exact grow_refl _ | refine grow_ext _ ?_ | refine grow_alloc _ ?_ | refine grow_drew ?_)))

set_option maxRecDepth 100000 in
set_option maxHeartbeats 2000000 in
theorem shapeValid_v (b : Br) (r : Bool) (h : shapeB b = r) (w : World) (hb : BrOk w b) : Calls Try.prog 48 #[(.agg #[.string b.mark, .int .i64 b.size, .int .i64 b.count, .int .i64 b.code, b.dv])] w (Ret w (.bool r)) := by
  have HD := Lib.hid (fun w => dims_c b.code w)
  have HN := Lib.hid (fun r h w => isName_v b.mark r h hb.mark w)
  have HS := Lib.hid (fun r h w => size_v b.size r h w)
  unfold shapeB at h
  by_cases h1 : (dimsR b.code).2 = 0
  rotate_left
  · rw [decide_eq_false h1, Bool.false_and] at h
    subst h
    have d1 : ((dimsR b.code).2 != 0) = true := by simpa using h1
    generalize (dimsR b.code).2 = E at *
    generalize (dimsR b.code).1 = M at *
    clear h1 hb
    go_enter Try.func48, Try.ntmps48
    go_wp2_with fail
    go_at_call 67; refine (HD.out _).mono ?_; rintro e w' ⟨rfl, x1, rfl⟩
    go_wp2
    go_ret
    exact Ret.of (by (repeat (first | exact grow_refl _ | refine grow_ext _ ?_ | refine grow_alloc _ ?_ | refine grow_drew ?_)))
  rw [decide_eq_true h1, Bool.true_and] at h
  cases h2 : nameB b.mark
  · rw [h2, Bool.false_and] at h
    subst h
    rw [h1] at HD
    have H2 := Lib.hid h2
    generalize (dimsR b.code).1 = M at *
    clear h1 h2 hb
    go_enter Try.func48, Try.ntmps48
    go_wp2_with fail
    go_at_call 67; refine (HD.out _).mono ?_; rintro e w' ⟨rfl, x1, rfl⟩
    go_wp2_with fail
    go_at_call 68; refine (HN.out _ H2.out _).mono ?_; rintro e w' ⟨rfl, x2, rfl⟩
    go_wp2
    go_ret
    exact Ret.of (by (repeat (first | exact grow_refl _ | refine grow_ext _ ?_ | refine grow_alloc _ ?_ | refine grow_drew ?_)))
  rw [h2, Bool.true_and] at h
  cases h3 : sizeB b.size
  · rw [h3, Bool.false_and] at h
    subst h
    rw [h1] at HD
    have H2 := Lib.hid h2
    have H3 := Lib.hid h3
    generalize (dimsR b.code).1 = M at *
    clear h1 h2 h3 hb
    go_enter Try.func48, Try.ntmps48
    go_wp2_with fail
    go_at_call 67; refine (HD.out _).mono ?_; rintro e w' ⟨rfl, x1, rfl⟩
    go_wp2_with fail
    go_at_call 68; refine (HN.out _ H2.out _).mono ?_; rintro e w' ⟨rfl, x2, rfl⟩
    go_wp2_with fail
    go_at_call 24; refine (HS.out _ H3.out _).mono ?_; rintro e w' ⟨rfl, x3, rfl⟩
    go_wp2
    go_ret
    exact Ret.of (by (repeat (first | exact grow_refl _ | refine grow_ext _ ?_ | refine grow_alloc _ ?_ | refine grow_drew ?_)))
  rw [h3, Bool.true_and] at h
  by_cases h45 : 1 ≤ b.count ∧ b.count ≤ 1000 ∧ (b.dims.length : Int) = (dimsR b.code).1
  · obtain ⟨h4, h5, h6⟩ := h45
    rw [decide_eq_true h4, decide_eq_true h5, decide_eq_true h6, Bool.true_and, Bool.true_and, Bool.true_and] at h
    exact shapeValid_ok b r h1 h2 h3 h4 h5 h6 h w hb
  · obtain rfl : false = r := by
      rw [← h]
      symm
      rw [Bool.eq_false_iff]
      intro hh
      simp only [Bool.and_eq_true, decide_eq_true_iff] at hh
      exact h45 ⟨hh.1, hh.2.1, hh.2.2.1⟩
    rw [h1] at HD
    have H2 := Lib.hid h2
    have H3 := Lib.hid h3
    obtain ⟨a, cap, ev, _, _, _⟩ := hb.dims
    clear h h1 h2 h3 hb
    generalize (dimsR b.code).1 = M at *
    obtain ⟨mark, size, count, code, dims, dv⟩ := b
    simp only at *
    subst ev
    by_cases h4 : 1 ≤ count
    · by_cases h5 : count ≤ 1000
      · have h6 : ((dims.length : Int) != M) = true := by simpa using fun e => h45 ⟨h4, h5, e⟩
        clear h45
        go_enter Try.func48, Try.ntmps48
        go_wp2_with fail
        go_at_call 67; refine (HD.out _).mono ?_; rintro e w' ⟨rfl, x1, rfl⟩
        go_wp2_with fail
        go_at_call 68; refine (HN.out _ H2.out _).mono ?_; rintro e w' ⟨rfl, x2, rfl⟩
        go_wp2_with fail
        go_at_call 24; refine (HS.out _ H3.out _).mono ?_; rintro e w' ⟨rfl, x3, rfl⟩
        go_wp2
        go_ret
        exact Ret.of (by (repeat (first | exact grow_refl _ | refine grow_ext _ ?_ | refine grow_alloc _ ?_ | refine grow_drew ?_)))
      · clear h45
        go_enter Try.func48, Try.ntmps48
        go_wp2_with fail
        go_at_call 67; refine (HD.out _).mono ?_; rintro e w' ⟨rfl, x1, rfl⟩
        go_wp2_with fail
        go_at_call 68; refine (HN.out _ H2.out _).mono ?_; rintro e w' ⟨rfl, x2, rfl⟩
        go_wp2_with fail
        go_at_call 24; refine (HS.out _ H3.out _).mono ?_; rintro e w' ⟨rfl, x3, rfl⟩
        go_wp2
        go_ret
        exact Ret.of (by (repeat (first | exact grow_refl _ | refine grow_ext _ ?_ | refine grow_alloc _ ?_ | refine grow_drew ?_)))
    · clear h45
      go_enter Try.func48, Try.ntmps48
      go_wp2_with fail
      go_at_call 67; refine (HD.out _).mono ?_; rintro e w' ⟨rfl, x1, rfl⟩
      go_wp2_with fail
      go_at_call 68; refine (HN.out _ H2.out _).mono ?_; rintro e w' ⟨rfl, x2, rfl⟩
      go_wp2_with fail
      go_at_call 24; refine (HS.out _ H3.out _).mono ?_; rintro e w' ⟨rfl, x3, rfl⟩
      go_wp2
      go_ret
      exact Ret.of (by (repeat (first | exact grow_refl _ | refine grow_ext _ ?_ | refine grow_alloc _ ?_ | refine grow_drew ?_)))

end Go.Proofs.Ytofjopdcbmaijaa
