/- Valid schedules and runs: schedule.Valid, laid.Valid. -/
import Derived.Test.YtofjopdcbmaijaaLaidH
namespace Go.Proofs.Ytofjopdcbmaijaa
open Go.RowKit
set_option maxRecDepth 20000

theorem index1_c (b : Br) (m : ByteArray) (g : Nat) (w : World) (hg : w.cell? ⟨g, 0, none⟩ = some (.string m)) : Calls Try.prog 70 #[(.agg #[.string b.mark, .int .i64 b.size, .int .i64 b.count, .int .i64 b.code, b.dv]), .pointer (some ⟨g, 0, none⟩)] w (Ret w (.bool (b.mark.toList == m.toList))) := by
  go_enter Try.func70, Try.ntmps70
  go_wp2
  go_ret
  exact Ret.of (by (repeat (first | exact grow_refl _ | refine grow_ext _ ?_ | refine grow_alloc _ ?_ | refine grow_drew ?_)))
theorem enters_index1 : Enters 70 := enters_of Try.func70 (by decide) (by simp [Try.f70])
set_option maxHeartbeats 1000000 in
theorem index_c (l : List Br) (v : Value) (m : ByteArray) (w : World) (hl : Bars w v l) : Calls Try.prog 49 #[v, .string m] w (Ret w (.int .i64 (findI l m))) := by
  have HL := Lib.hid hl
  have HX := Lib.hid (fun F hE caps w hl hf => indexBar_c F hE caps m l v w hl hf)
  have HC := Lib.hid (show ∀ (b : Br) (x : World), b ∈ l → Calls Try.prog 70 (#[(.agg #[.string b.mark, .int .i64 b.size, .int .i64 b.count, .int .i64 b.code, b.dv])] ++ #[.pointer (some ⟨w.heap.size, 0, none⟩)]) (ext (w.alloc (.cells #[.string m] 9)) x) (Ret (ext (w.alloc (.cells #[.string m] 9)) x) (.bool (b.mark.toList == m.toList))) from
    fun b x _ => index1_c b m w.heap.size _ (by simp [go_sem]))
  clear hl
  generalize findI l m = k at *
  go_enter Try.func49, Try.ntmps49
  go_wp2_with fail
  go_at_call 69; refine (HX.out _ enters_index1 _ _ (HL.out.below (by (repeat (first | exact grow_refl _ | refine grow_ext _ ?_ | refine grow_alloc _ ?_ | refine grow_drew ?_)))) HC.out).mono ?_; rintro e w' ⟨rfl, x1, rfl⟩
  go_wp2
  go_ret
  exact Ret.of (by (repeat (first | exact grow_refl _ | refine grow_ext _ ?_ | refine grow_alloc _ ?_ | refine grow_drew ?_)))

def barOk (l : List Br) (i : Nat) : Bool := shapeB (l.getD i noBar) && decide (findI l (l.getD i noBar).mark = i)
theorem schedB_false {l : List Br} {k : Nat} (hk : k < l.length) (h : barOk l k = false) : schedB l = false := by
  unfold schedB
  rw [Bool.and_eq_false_iff]
  right
  rw [List.all_eq_false]
  exact ⟨k, List.mem_range.2 hk, by show ¬ barOk l k = true; rw [h]; exact Bool.false_ne_true⟩
theorem schedB_true {l : List Br} (h60 : l.length ≤ 60) (h : ∀ j, j < l.length → barOk l j = true) : schedB l = true := by
  unfold schedB
  rw [decide_eq_true h60, Bool.true_and, List.all_eq_true]
  exact fun j hj => h j (List.mem_range.1 hj)
theorem schedB_shape {l : List Br} (h : schedB l = true) : ∀ b ∈ l, shapeB b = true := by
  unfold schedB at h
  simp only [Bool.and_eq_true, List.all_eq_true, decide_eq_true_iff] at h
  intro b hb
  obtain ⟨j, hj, rfl⟩ := List.getElem_of_mem hb
  have := (h.2 j (List.mem_range.2 hj)).1
  rw [show l.getD j noBar = l[j] by simp [List.getD, hj]] at this
  exact this

set_option maxRecDepth 100000 in
set_option maxHeartbeats 2000000 in
theorem sched_v (l : List Br) (v : Value) (q : Bool) (hq : schedB l = q) (w : World) (hl : Bars w v l) : Calls Try.prog 35 #[v] w (Ret w (.bool q)) := by
  have HX := Lib.hid (fun m w hl => index_c l v m w hl)
  have HL := Lib.hid hl
  have HQ := Lib.hid hq
  obtain ⟨a, cap, rfl, h2, h3, h4⟩ := hl.shape
  have H4 := Lib.hid h4
  clear hl hq h4
  by_cases h60 : l.length ≤ 60
  · have d1 : decide ((60 : Int) < (l.length : Int)) = false := by simp; omega
    go_enter Try.func35, Try.ntmps35
    go_wp2_with fail
    go_loopw [10] (fun i wr => ∃ k : Nat, k ≤ l.length ∧ i = .int .i64 k ∧ (∃ x, wr = ext w x) ∧ ∀ j, j < k → barOk l j = true) (fun i _ => l.length - (intOf i).toNat)
    case atStart => exact ⟨0, by omega, rfl, ext_of (Below.refl _ _), fun j h => by omega⟩
    case round =>
      obtain ⟨k, hk, rfl, ⟨x, rfl⟩, hno⟩ := hrel
      have HNO := Lib.hid hno
      clear hno
      by_cases hlt : k < l.length
      · obtain ⟨hok, b0, off, rfl, hbr⟩ := H4.out k hlt
        have q1 : (0 : Int) ≤ (k : Int) := by omega
        have q2 : (k : Int) < (l.length : Int) := by omega
        have hbo : barOk l k = (shapeB l[k] && decide (findI l l[k].mark = k)) := by unfold barOk; rw [show l.getD k noBar = l[k] by simp [List.getD, hlt]]
        obtain ⟨b, hb⟩ : ∃ b, l[k] = b := ⟨_, rfl⟩
        rw [hb] at hbo hok hbr
        obtain ⟨c0, c1, c2, c3, c4⟩ := hbr.ext x
        obtain ⟨ad, cd, ev, _, _, _⟩ := hok.dims
        obtain ⟨mark, size, count, code, dims, dv⟩ := b
        simp only at ev c0 c1 c2 c3 c4 hbo
        subst ev
        have HOK := Lib.hid hok
        have HBO := Lib.hid hbo
        clear hb hbr hok hbo
        cases hs : shapeB ⟨mark, size, count, code, dims, .slice ad dims.length cd⟩
        · obtain rfl : false = q := by rw [← HQ.out]; exact (schedB_false hlt (by rw [HBO.out, hs]; rfl)).symm
          have HS := Lib.hid hs
          clear hs
          go_wp2_with fail
          go_at_call 48; refine (shapeValid_v _ _ HS.out _ (HOK.out.below (by (repeat (first | exact grow_refl _ | refine grow_ext _ ?_ | refine grow_alloc _ ?_ | refine grow_drew ?_))))).mono ?_; rintro e w' ⟨rfl, y1, rfl⟩
          go_wp2
          go_ret
          exact Ret.of (by (repeat (first | exact grow_refl _ | refine grow_ext _ ?_ | refine grow_alloc _ ?_ | refine grow_drew ?_)))
        · have HS := Lib.hid hs
          clear hs
          obtain ⟨K, hK⟩ : ∃ K, findI l mark = K := ⟨_, rfl⟩
          have HK := Lib.hid hK
          clear hK
          by_cases hKk : K = k
          · have HN : Hid (∀ j, j < k + 1 → barOk l j = true) := fun j hj => by
              rcases Nat.lt_or_ge j k with h | h
              · exact HNO.out j h
              · obtain rfl : j = k := by omega
                rw [HBO.out, HS.out, HK.out, decide_eq_true hKk]; rfl
            have e1 : (K != (k : Int)) = false := by simpa using hKk
            have HKK := Lib.hid hKk
            clear hKk
            go_wp2_with fail
            go_at_call 48; refine (shapeValid_v _ _ HS.out _ (HOK.out.below (by (repeat (first | exact grow_refl _ | refine grow_ext _ ?_ | refine grow_alloc _ ?_ | refine grow_drew ?_))))).mono ?_; rintro e w' ⟨rfl, y1, rfl⟩
            go_wp2_with fail
            go_at_call 49; refine (HX.out mark _ (HL.out.below (by (repeat (first | exact grow_refl _ | refine grow_ext _ ?_ | refine grow_alloc _ ?_ | refine grow_drew ?_))))).mono ?_; rintro e w' ⟨rfl, y2, rfl⟩
            rw [HK.out]
            go_wp2
            go_roundw
            case rel => exact ⟨k + 1, by omega, by go_num, ext_of (by (repeat (first | exact grow_refl _ | refine grow_ext _ ?_ | refine grow_alloc _ ?_ | refine grow_drew ?_))), HN.out⟩
            case measure => simp [intOf]; omega
          · obtain rfl : false = q := by rw [← HQ.out]; exact (schedB_false hlt (by rw [HBO.out, HK.out, decide_eq_false hKk, Bool.and_false])).symm
            have e1 : (K != (k : Int)) = true := by simpa using hKk
            clear hKk
            go_wp2_with fail
            go_at_call 48; refine (shapeValid_v _ _ HS.out _ (HOK.out.below (by (repeat (first | exact grow_refl _ | refine grow_ext _ ?_ | refine grow_alloc _ ?_ | refine grow_drew ?_))))).mono ?_; rintro e w' ⟨rfl, y1, rfl⟩
            go_wp2_with fail
            go_at_call 49; refine (HX.out mark _ (HL.out.below (by (repeat (first | exact grow_refl _ | refine grow_ext _ ?_ | refine grow_alloc _ ?_ | refine grow_drew ?_))))).mono ?_; rintro e w' ⟨rfl, y2, rfl⟩
            rw [HK.out]
            go_wp2
            go_ret
            exact Ret.of (by (repeat (first | exact grow_refl _ | refine grow_ext _ ?_ | refine grow_alloc _ ?_ | refine grow_drew ?_)))
      · obtain rfl : k = l.length := by omega
        obtain rfl : true = q := by rw [← HQ.out]; exact (schedB_true h60 HNO.out).symm
        go_wp2
        go_ret
        exact Ret.of (by (repeat (first | exact grow_refl _ | refine grow_ext _ ?_ | refine grow_alloc _ ?_ | refine grow_drew ?_)))
  · have d1 : decide ((60 : Int) < (l.length : Int)) = true := by simp; omega
    obtain rfl : false = q := by rw [← HQ.out]; unfold schedB; rw [decide_eq_false h60, Bool.false_and]
    go_enter Try.func35, Try.ntmps35
    go_wp2
    go_ret
    exact Ret.of (by (repeat (first | exact grow_refl _ | refine grow_ext _ ?_ | refine grow_alloc _ ?_ | refine grow_drew ?_)))

theorem countS_append (a b : List Rn) : countS (a ++ b) = countS a + countS b := by
  induction a with
  | nil => simp [countS]
  | cons x a ih => simp only [List.cons_append, countS, ih]; omega
theorem runB_count {l : List Br} {r : Rn} (h : runB l r = true) : 1 ≤ r.count ∧ r.count ≤ 1000 := by
  unfold runB rightR at h
  simp only [Bool.and_eq_true, decide_eq_true_iff] at h
  exact ⟨h.2.2.1, h.2.2.2.1⟩
theorem countS_nonneg {l : List Br} {rs : List Rn} (h : ∀ r ∈ rs, runB l r = true) : 0 ≤ countS rs := by
  induction rs with
  | nil => exact Int.le_refl _
  | cons r rs ih =>
    have h1 := runB_count (h r List.mem_cons_self)
    have h2 := ih fun x hx => h x (List.mem_cons_of_mem _ hx)
    simp only [countS]; omega
theorem count_take {rs : List Rn} {k : Nat} (h : k < rs.length) : countS (rs.take (k + 1)) = countS (rs.take k) + rs[k].count := by
  rw [List.take_succ_eq_append_getElem h, countS_append]; simp [countS]
theorem laidB_run_false {l : List Br} {rs : List Rn} {k : Nat} (hk : k < rs.length) (h : runB l rs[k] = false) : laidB l rs = false := by
  have : rs.all (runB l) = false := by rw [List.all_eq_false]; exact ⟨_, List.getElem_mem hk, by rw [h]; exact Bool.false_ne_true⟩
  unfold laidB
  rw [this, Bool.false_and, Bool.and_false, Bool.and_false]
theorem laidB_count_false {l : List Br} {rs : List Rn} {k : Nat} (hk : k ≤ rs.length) (h : 2000 < countS (rs.take k)) : laidB l rs = false := by
  unfold laidB
  rw [Bool.eq_false_iff]
  intro hh
  simp only [Bool.and_eq_true, decide_eq_true_iff, List.all_eq_true] at hh
  have h1 := countS_nonneg (rs := rs.drop k) fun r hr => hh.2.2.1 r (List.mem_of_mem_drop hr)
  have h2 := countS_append (rs.take k) (rs.drop k)
  rw [List.take_append_drop] at h2
  omega
theorem laidB_true {l : List Br} {rs : List Rn} (hs : schedB l = true) (h60 : rs.length ≤ 60) (h : ∀ r ∈ rs, runB l r = true) (hc : countS rs ≤ 2000) : laidB l rs = true := by
  unfold laidB
  rw [hs, decide_eq_true h60, List.all_eq_true.2 h, decide_eq_true hc]; rfl

set_option maxRecDepth 100000 in
set_option maxHeartbeats 2000000 in
theorem laidValid_v (l : List Br) (rs : List Rn) (v u : Value) (q : Bool) (hq : laidB l rs = q) (w : World) (hl : Bars w v l) (hr : Runs w u rs) : Calls Try.prog 20 #[v, u] w (Ret w (.bool q)) := by
  have HL := Lib.hid hl
  have HQ := Lib.hid hq
  obtain ⟨a, cap, rfl, h2, h3, h4⟩ := hr.shape
  have H4 := Lib.hid h4
  clear hl hr hq h4
  cases hs : schedB l
  · obtain rfl : false = q := by rw [← HQ.out]; unfold laidB; rw [hs]; rfl
    have HS := Lib.hid hs
    clear hs
    go_enter Try.func20, Try.ntmps20
    go_wp2_with fail
    go_at_call 35; refine (sched_v l v _ HS.out _ (HL.out.below (by (repeat (first | exact grow_refl _ | refine grow_ext _ ?_ | refine grow_alloc _ ?_ | refine grow_drew ?_))))).mono ?_; rintro e w' ⟨rfl, x1, rfl⟩
    go_wp2
    go_ret
    exact Ret.of (by (repeat (first | exact grow_refl _ | refine grow_ext _ ?_ | refine grow_alloc _ ?_ | refine grow_drew ?_)))
  · have HB := Lib.hid (schedB_shape hs)
    have HS := Lib.hid hs
    clear hs
    by_cases h60 : rs.length ≤ 60
    · have d1 : decide ((60 : Int) < (rs.length : Int)) = false := by simp; omega
      go_enter Try.func20, Try.ntmps20
      go_wp2_with fail
      go_at_call 35; refine (sched_v l v _ HS.out _ (HL.out.below (by (repeat (first | exact grow_refl _ | refine grow_ext _ ?_ | refine grow_alloc _ ?_ | refine grow_drew ?_))))).mono ?_; rintro e w' ⟨rfl, x1, rfl⟩
      go_wp2_with fail
      go_loopw [5, 18] (fun m i wr => ∃ (k : Nat) (R : Int), k ≤ rs.length ∧ i = .int .i64 k ∧ m = .int .i64 R ∧ (0 ≤ R ∧ R ≤ 2000) ∧ R = 2000 - countS (rs.take k) ∧ (∃ x, wr = ext w x) ∧ ∀ r ∈ rs.take k, runB l r = true) (fun _ i _ => rs.length - (intOf i).toNat)
      case atStart => exact ⟨0, 2000, by omega, rfl, rfl, by omega, by simp [countS], ext_of (by (repeat (first | exact grow_refl _ | refine grow_ext _ ?_ | refine grow_alloc _ ?_ | refine grow_drew ?_))), fun r h => by cases h⟩
      case round =>
        obtain ⟨k, R, hk, rfl, rfl, hR, hc, ⟨x, rfl⟩, hno⟩ := hrel
        have HNO := Lib.hid hno
        have HC := Lib.hid hc
        obtain ⟨R0, R1⟩ := hR
        clear hno hc
        by_cases hlt : k < rs.length
        · obtain ⟨_, b0, off, rfl, hbr⟩ := H4.out k hlt
          have q1 : (0 : Int) ≤ (k : Int) := by omega
          have q2 : (k : Int) < (rs.length : Int) := by omega
          have hct := count_take hlt
          have htk : rs.take (k + 1) = rs.take k ++ [rs[k]] := List.take_succ_eq_append_getElem hlt
          have hrf : runB l rs[k] = false → laidB l rs = false := laidB_run_false hlt
          obtain ⟨r, hr⟩ : ∃ r, rs[k] = r := ⟨_, rfl⟩
          rw [hr] at hct htk hbr hrf
          obtain ⟨c0, c1, c2, c3, c4, c5, c6, c7, c8, c9⟩ := hbr.ext x
          have HCT := Lib.hid hct
          have HTK := Lib.hid htk
          have HRF := Lib.hid hrf
          clear hr hbr hct htk hrf
          cases hs : runB l r
          · obtain rfl : false = q := by rw [← HQ.out]; exact (HRF.out hs).symm
            have HRU := Lib.hid hs
            clear hs
            go_wp2_with fail
            go_at_call 36; refine (right_v l v r _ HRU.out HB.out _ (HL.out.below (by (repeat (first | exact grow_refl _ | refine grow_ext _ ?_ | refine grow_alloc _ ?_ | refine grow_drew ?_))))).mono ?_; rintro e w' ⟨rfl, y1, rfl⟩
            go_wp2
            go_ret
            exact Ret.of (by (repeat (first | exact grow_refl _ | refine grow_ext _ ?_ | refine grow_alloc _ ?_ | refine grow_drew ?_)))
          · have hcb := runB_count hs
            have HRU := Lib.hid hs
            clear hs
            by_cases hgt : R < r.count
            · obtain rfl : false = q := by rw [← HQ.out]; exact (laidB_count_false (k := k + 1) (by omega) (by rw [HCT.out]; have := HC.out; omega)).symm
              go_wp2_with fail
              go_at_call 36; refine (right_v l v r _ HRU.out HB.out _ (HL.out.below (by (repeat (first | exact grow_refl _ | refine grow_ext _ ?_ | refine grow_alloc _ ?_ | refine grow_drew ?_))))).mono ?_; rintro e w' ⟨rfl, y1, rfl⟩
              go_wp2
              go_ret
              exact Ret.of (by (repeat (first | exact grow_refl _ | refine grow_ext _ ?_ | refine grow_alloc _ ?_ | refine grow_drew ?_)))
            · have hle : r.count ≤ R := by omega
              clear hgt
              go_wp2_with fail
              go_at_call 36; refine (right_v l v r _ HRU.out HB.out _ (HL.out.below (by (repeat (first | exact grow_refl _ | refine grow_ext _ ?_ | refine grow_alloc _ ?_ | refine grow_drew ?_))))).mono ?_; rintro e w' ⟨rfl, y1, rfl⟩
              go_wp2
              go_roundw
              case rel => exact ⟨k + 1, R - r.count, by omega, by go_num, rfl, by omega, by rw [HCT.out]; have := HC.out; omega, ext_of (by (repeat (first | exact grow_refl _ | refine grow_ext _ ?_ | refine grow_alloc _ ?_ | refine grow_drew ?_))), fun z hz => by
                rw [HTK.out] at hz
                rcases List.mem_append.1 hz with h | h
                · exact HNO.out z h
                · obtain rfl : z = r := by simpa using h
                  exact HRU.out⟩
              case measure => simp [intOf]; omega
        · obtain rfl : k = rs.length := by omega
          obtain rfl : true = q := by
            have h1 := HC.out
            have h2 := HNO.out
            rw [List.take_length] at h1 h2
            rw [← HQ.out]; exact (laidB_true HS.out h60 h2 (by omega)).symm
          go_wp2
          go_ret
          exact Ret.of (by (repeat (first | exact grow_refl _ | refine grow_ext _ ?_ | refine grow_alloc _ ?_ | refine grow_drew ?_)))
    · have d1 : decide ((60 : Int) < (rs.length : Int)) = true := by simp; omega
      obtain rfl : false = q := by rw [← HQ.out]; unfold laidB; rw [decide_eq_false h60, Bool.false_and, Bool.and_false]
      go_enter Try.func20, Try.ntmps20
      go_wp2_with fail
      go_at_call 35; refine (sched_v l v _ HS.out _ (HL.out.below (by (repeat (first | exact grow_refl _ | refine grow_ext _ ?_ | refine grow_alloc _ ?_ | refine grow_drew ?_))))).mono ?_; rintro e w' ⟨rfl, x1, rfl⟩
      go_wp2
      go_ret
      exact Ret.of (by (repeat (first | exact grow_refl _ | refine grow_ext _ ?_ | refine grow_alloc _ ?_ | refine grow_drew ?_)))

end Go.Proofs.Ytofjopdcbmaijaa
